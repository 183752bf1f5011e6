/-
  Own texts for one claim, joined: W7 W9.
-/
import Derived.BigRegionIn
import Derived.Deep.QuietTactic
import Derived.BigQuiet
import Derived.Deep.RegionHeld3
import Derived.StillTailTactics
import Derived.Shelf.Abstract
import Derived.Test.YtjiaepphnddpoaaGreatChecked
import Derived.Shelf.Abstract
import Derived.Deep.QuietTactic
import Derived.BigQuiet
import Derived.Deep.RegionHeld3
import Derived.StillTailTactics
import Derived.Deep.AppendLies
import Derived.WalkMore
import Derived.WalkKit
import Derived.WalkSpells
import Derived.WalkLawsBesides
import Derived.Lib.Hide
import Derived.OrdersHeld
import Derived.StillTail
import Derived.StillTailTactics
import Derived.RangeFuncNested
import Derived.RangeFuncBound
import Derived.RangeFuncCalls
import Derived.RangeFuncLeaves
import Derived.Shelf.Abstract
import Derived.Shelf.RegionOpen
import Derived.OwnWalkIn
import Derived.TacticsInMore
import Derived.LoopNIn
import Derived.LoopIn
import Derived.OrdersIn
import Derived.Deep.Quiet
import Derived.Deep.QuietTactic
import Derived.BigQuiet
import Derived.Maps.Own
import Derived.Maps.Views
import Derived.WideKeyPair
import Derived.Carry
import Derived.Deep.RegionWith
import Derived.Test.YtjiaepphnddpoaaGreatV01
import Derived.Test.YtjiaepphnddpoaaGreatV02
import Derived.Test.YtjiaepphnddpoaaGreatV03
namespace Go.Proofs.YtjiaepphnddpoaaGreat
open Go.RowKit Go.Shelf
attribute [local go_sem] Oper.semAt_some
theorem ediv_mono {a b : Int} (h : a ≤ b) : a / 64 ≤ b / 64 := Int.ediv_le_ediv (by omega) h
theorem eased_mono {s : Strm} {x : Sec} (hh : headOk s) (hx : okSec x = true) {o1 o2 b1 b2 d1 d2 : Int} (ho : o1 ≤ o2) (hb : b1 ≤ b2) (hd : d1 ≤ d2) : eased s x o1 b1 d1 ≤ eased s x o2 b2 d2 := by
  obtain ⟨k0, k1, k2, k3, k4, k5, k6, k7, k8, k9⟩ := of_decide_eq_true hx
  obtain ⟨g0, g1, g2, g3, g4, g5, g6, g7, g8⟩ := hh
  have m1 : (64 - x.fol) * o1 ≤ (64 - x.fol) * o2 := Int.mul_le_mul_of_nonneg_left ho (by omega)
  have m2 : x.fol * b1 ≤ x.fol * b2 := Int.mul_le_mul_of_nonneg_left hb k2
  have m3 : ((64 - x.fol) * o1 + x.fol * b1) / 64 ≤ ((64 - x.fol) * o2 + x.fol * b2) / 64 := ediv_mono (by omega)
  simp only [eased]
  generalize ((64 - x.fol) * o1 + x.fol * b1) / 64 = q1 at *
  generalize ((64 - x.fol) * o2 + x.fol * b2) / 64 = q2 at *
  repeat' split
  all_goals omega
theorem eased_in (s : Strm) (x : Sec) (o b d : Int) : -16384 ≤ eased s x o b d ∧ eased s x o b d ≤ 16384 := by
  simp only [eased]
  omega
theorem encL_ok {s : Strm} {l : List Bnd} {d : Bnd} (ho : okStrm s = true) (hl : okOffs s l = true) (hd : okBnd 100 d = true) : okOffs s (encL s l d) = true := by
  have hlen := okOffs_len hl
  have hall := okOffs_all hl
  obtain ⟨d1, d2, d3⟩ := of_decide_eq_true (p := -100 ≤ d.lo ∧ d.lo ≤ d.hi ∧ d.hi ≤ 100) hd
  unfold okOffs
  rw [Bool.and_eq_true]
  constructor
  · rw [decide_eq_true_eq, encL, eachL_length, hlen]
  · rw [List.all_eq_true]
    intro y hy
    obtain ⟨j, hj⟩ := List.mem_iff_getElem?.1 hy
    have hjl : j < l.length := by have := (List.getElem?_eq_some_iff.1 hj).1; simpa [encL, eachL_length] using this
    rw [encL, eachL_get _ _ _ hjl] at hj
    injection hj with hj
    subst hj
    obtain ⟨_, p2, _⟩ := okB_of hall (okB_still (ok_head ho)) j
    obtain ⟨_, p5, _⟩ := okB_prev hall (okB_still (ok_head ho)) j
    have hx := ok_sec ho (i := j) (by omega)
    refine decide_eq_true ⟨(eased_in _ _ _ _ _).1, eased_mono (ok_head ho) hx p2 p5 d2, (eased_in _ _ _ _ _).2⟩
theorem okWat_get {l : List Wat} (h : l.all okWat = true) (k : Nat) : okBnd 100 (l.getD k wat0).acr = true ∧ okBnd 50 (l.getD k wat0).alo = true := by
  rw [List.getD_eq_getElem?_getD]
  by_cases hi : k < l.length
  · rw [List.getElem?_eq_getElem hi]
    have := List.all_eq_true.1 h _ (List.getElem_mem hi)
    simpa [okWat] using this
  · rw [List.getElem?_eq_none (by omega)]
    constructor <;> decide
theorem encAt_ok {s : Strm} {bs : List Bnd} {l : List Wat} (ho : okStrm s = true) (hb : okOffs s bs = true) (hl : l.all okWat = true) : ∀ k, okOffs s (encAt s bs l k) = true
  | 0 => hb
  | k + 1 => encL_ok ho (encAt_ok ho hb hl k) (okWat_get hl k).1
theorem encAt_len {s : Strm} {bs : List Bnd} {l : List Wat} {n : Nat} (hb : bs.length = n) : ∀ k, (encAt s bs l k).length = n
  | 0 => hb
  | k + 1 => by rw [encAt, encL, eachL_length]; exact encAt_len hb k
def StepsL (s : Strm) (bs : List Bnd) (l : List Wat) (A O D : Option Addr) (n c co nd cd gt gl : Nat) (W : World) : Prop :=
  Blk W gt 104 #[.int .i64 s.head, .slice A n c, .int .i64 s.lane.lo, .int .i64 s.lane.hi, .int .i64 s.bend, .slice O n co] ∧ Blk W gl 30 #[.slice D nd cd] ∧
  SlAt W 0 5 Sec.cells A n c s.secs ∧ SlAt W 0 2 Bnd.cells O n co bs ∧ SlAt W 0 4 Wat.cells D nd cd l
theorem StepsL.calm {s : Strm} {bs : List Bnd} {l : List Wat} {A O D : Option Addr} {n c co nd cd gt gl B : Nat} {W W' : World} (h : StepsL s bs l A O D n c co nd cd gt gl W) (hc : Calm B W W') : StepsL s bs l A O D n c co nd cd gt gl W' :=
  ⟨calm_blk hc h.1, calm_blk hc h.2.1, calm_sl hc h.2.2.1, calm_sl hc h.2.2.2.1, calm_sl hc h.2.2.2.2⟩
theorem StepsL.below {s : Strm} {bs : List Bnd} {l : List Wat} {A O D : Option Addr} {n c co nd cd gt gl : Nat} {W W' : World} (h : StepsL s bs l A O D n c co nd cd gt gl W) (hc : Below W.heap.size W W') : StepsL s bs l A O D n c co nd cd gt gl W' :=
  h.calm (calm_of_below hc (Nat.le_refl _))
def StepsG (s : Strm) (bs : List Bnd) (l : List Wat) (n gl k : Nat) (vs : Array Value) (W : World) : Prop :=
  ∃ O co, vs = #[.int .i64 k, .slice O n co] ∧ SlAt W (gl + 1) 2 Bnd.cells O n co (encAt s bs l (k + 1))
theorem wat_getD {l : List Wat} {k : Nat} {x : Wat} (h : l[k]? = some x) : l.getD k wat0 = x := by rw [List.getD_eq_getElem?_getD, h]; rfl
set_option maxRecDepth 100000 in
set_option maxHeartbeats 2000000 in
theorem steps1_iter (m : Nat) (s : Strm) (bs : List Bnd) (l : List Wat) (A O D : Option Addr) (n c co nd cd gt gl : Nat) (ho : okStrm s = true) (hb0 : okOffs s bs = true) (hl0 : l.all okWat = true) :
    IterK Fence.wide m Tryz.prog 119 #[.pointer (some ⟨gt, 0, none⟩), .pointer (some ⟨gl, 0, none⟩)] nd (StepsG s bs l n gl) (StepsL s bs l A O D n c co nd cd gt gl) := by
  intro lr J Jx W hJ hJx hY hL h0
  have hnl := Lib.hid hL.2.2.2.2.len
  have hnd := hL.2.2.2.2.le
  replace ho := Lib.hid ho
  replace hb0 := Lib.hid hb0
  replace hl0 := Lib.hid hl0
  refine callsIn_of_wp Tryz.func119 rfl trivial ?_ rfl
  simp only [Tryz.ntmps119, List.size_toArray, List.length_cons, List.length_nil, Nat.reduceAdd, Nat.reduceSub, Array.replicate_succ, Array.replicate_zero, List.push_toArray, List.append_toArray, List.nil_append, List.cons_append]
  obtain ⟨c1, f1, l1⟩ := hL.1.rules
  obtain ⟨c2, f2, l2⟩ := hL.2.1.rules
  gi_wp2_with fail
  clear c1 f1 l1 c2 f2 l2
  gi_loopw [4, 11] (fun b i wr => ∃ k O' co', i = .int .i64 (k : Nat) ∧ k ≤ nd ∧ b = .slice O' n co' ∧ SlAt wr 0 2 Bnd.cells O' n co' (encAt s bs l k) ∧ StepsL s bs l A O D n c co nd cd gt gl wr ∧ W.heap.size ≤ wr.heap.size ∧ J k wr) (fun b i wr => nd - (intOf i).toNat)
  case atStart => exact ⟨0, O, co, rfl, Nat.zero_le _, rfl, hL.2.2.2.1, hL, Nat.le_refl _, h0⟩
  case round =>
    obtain ⟨k, O', co', rfl, hk, rfl, hs, hLr, hWr, hJr⟩ := hrel
    by_cases hlt : k < nd
    · obtain ⟨x, hx⟩ := some_of_lt hnl.out hlt
      obtain ⟨b, off, hA, -, hbl, e0, e1, e2, e3⟩ := hLr.2.2.2.2.wat hx
      have hxk := Lib.hid (wat_getD hx)
      obtain ⟨c1, f1, l1⟩ := hLr.1.rules
      obtain ⟨c2, f2, l2⟩ := hLr.2.1.rules
      replace hx := Lib.hid hx
      subst hA
      gi_wp2_with fail
      refine ⟨trivial, fun h => (by cases h), ?_⟩
      have hbw : Below wr.heap.size wr (wr.alloc (.cells #[.int .i64 x.acr.lo, .int .i64 x.acr.hi, .int .i64 x.alo.lo, .int .i64 x.alo.hi] 88)) := (Below.refl _ _).alloc (Nat.le_refl _) _
      have hax := Lib.hid (hxk.out ▸ (okWat_get hl0.out k).1)
      refine (callsIn_wide.2 (enclosed_any s A O' n c n co' 0 0 (encAt s bs l k) x.acr _ ho.out (encAt_ok ho.out hb0.out hl0.out k) hax.out (hLr.2.2.1.alloc _) (hs.alloc _))).mono ?_
      rintro e w2 ⟨O2, co2, rfl, hown, hr, hb2⟩
      have b2 := hbw.trans (hb2.mono hbw.size)
      have hs2 : SlAt w2 W.heap.size 2 Bnd.cells O2 n co2 (encAt s bs l (k + 1)) := by
        have : encAt s bs l (k + 1) = encL s (encAt s bs l k) x.acr := by rw [encAt, hxk.out]
        rw [this]; exact hr.mono (by simp; omega)
      have hL2 := hLr.below b2
      clear hown hr c1 f1 l1 c2 f2 l2 e0 e1 e2 e3 hb2 hbw hs
      obtain ⟨fn, tmps, assign, body, hy, hR⟩ := hY k #[.int .i64 k, .slice O2 n co2] w2 hlt (hJ _ _ _ hJr (calm_of_below b2 hWr)) hL2 ⟨O2, co2, rfl, hs2.mono hL.2.1.lt⟩
      clear hY
      gi_wp2_with fail
      refine ⟨fun h => (by cases h), hR.mono ?_⟩
      rintro e W3 (⟨rfl, hJ3, hL3, hn3⟩ | ⟨rfl, hJx3, -⟩)
      · gi_wp2
        go_roundw
        case rel => exact ⟨k + 1, O2, co2, by go_num, by omega, rfl, (nc_sl hn3 hs2).mono (Nat.zero_le _), hL3, Nat.le_trans hWr (Nat.le_trans b2.size hn3.1), hJ3⟩
        case measure => simp [intOf]; omega
      · gi_wp2
        refine bodyPost_ret (results_none rfl _ _ _) rfl ?_
        exact ⟨⟨_, rfl⟩, .inr hJx3⟩
    · obtain rfl : k = nd := by omega
      gi_wp2
      go_end0
      exact ⟨⟨_, rfl⟩, .inl hJr⟩
theorem eg_steps1 : Enters Tryz.prog 119 := enters_of Tryz.func119 (by kernel_rfl) rfl
set_option maxRecDepth 100000 in
set_option maxHeartbeats 1000000 in
theorem steps_any (s : Strm) (A O D : Option Addr) (n c co no nd cd : Nat) (w : World) :
    Calls Tryz.prog 71 #[.agg #[.int .i64 s.head, .slice A n c, .int .i64 s.lane.lo, .int .i64 s.lane.hi, .int .i64 s.bend, .slice O no co], .slice D nd cd] w fun e w' =>
      e = .returned (.func (.func 119) #[] #[.pointer (some ⟨w.heap.size, 0, none⟩), .pointer (some ⟨w.heap.size + 1, 0, none⟩)]) ∧
      w' = (w.alloc (.cells #[.int .i64 s.head, .slice A n c, .int .i64 s.lane.lo, .int .i64 s.lane.hi, .int .i64 s.bend, .slice O no co] 104)).alloc (.cells #[.slice D nd cd] 30) := by
  go_enter Tryz.func71, Tryz.ntmps71
  go_wp2
  go_ret
  exact ⟨rfl, rfl⟩
end Go.Proofs.YtjiaepphnddpoaaGreat
namespace Go.Proofs.YtjiaepphnddpoaaGreat
set_option linter.unusedSimpArgs false
set_option linter.unusedVariables false
open Go.RowKit Go.Shelf
attribute [local go_sem] Oper.semAt_some
theorem fstN_step (p : Nat → Bool) (k : Nat) : fstN p (k + 1) = if 0 ≤ fstN p k then fstN p k else if p k = true then (k : Int) else -1 := rfl
theorem fstN_bd (p : Nat → Bool) : ∀ k, -1 ≤ fstN p k ∧ fstN p k < k
  | 0 => by simp [fstN]
  | k + 1 => by
    have := fstN_bd p k
    rw [fstN_step]
    repeat' split
    all_goals omega
def StrI (s : Strm) (A O D V : Option Addr) (n c co nd cd nv cv : Nat) (w : World) (xb xp : Int) (W : World) : Prop :=
  Blk W w.heap.size 104 #[.int .i64 s.head, .slice A n c, .int .i64 s.lane.lo, .int .i64 s.lane.hi, .int .i64 s.bend, .slice O n co] ∧ Blk W (w.heap.size + 1) 30 #[.slice D nd cd] ∧
  Blk W (w.heap.size + 1 + 1) 31 #[.slice V nv cv] ∧ Blk W (w.heap.size + 1 + 1 + 1) 35 #[.int .i64 0, .int .i64 0] ∧
  Blk W (w.heap.size + 1 + 1 + 1 + 1) 35 #[.int .i64 xb, .int .i64 xp] ∧ Below w.heap.size w W
section
variable {s : Strm} {A O D V : Option Addr} {n c co nd cd nv cv : Nat} {w W W' : World} {xb xp : Int}
theorem StrI.calm {B : Nat} (h : StrI s A O D V n c co nd cd nv cv w xb xp W) (hc : Calm B W W') (hB : w.heap.size ≤ B) : StrI s A O D V n c co nd cd nv cv w xb xp W' :=
  ⟨calm_blk hc h.1, calm_blk hc h.2.1, calm_blk hc h.2.2.1, calm_blk hc h.2.2.2.1, calm_blk hc h.2.2.2.2.1, calm_below hc h.2.2.2.2.2 hB⟩
theorem StrI.below (h : StrI s A O D V n c co nd cd nv cv w xb xp W) (hb : Below W.heap.size W W') : StrI s A O D V n c co nd cd nv cv w xb xp W' := h.calm (calm_of_below hb (Nat.le_refl _)) h.2.2.2.2.2.size
theorem StrI.set0 (h : StrI s A O D V n c co nd cd nv cv w xb xp W) (x : Int) : StrI s A O D V n c co nd cd nv cv w x xp (W.setCell ⟨w.heap.size + 1 + 1 + 1 + 1, 0, none⟩ (.int .i64 x)) :=
  ⟨h.1.far (by dsimp only; omega) _, h.2.1.far (by dsimp only; omega) _, h.2.2.1.far (by dsimp only; omega) _, h.2.2.2.1.far (by dsimp only; omega) _, h.2.2.2.2.1.set_ 0 _, h.2.2.2.2.2.setCell (by dsimp only; omega) _⟩
theorem StrI.set1 (h : StrI s A O D V n c co nd cd nv cv w xb xp W) (x : Int) : StrI s A O D V n c co nd cd nv cv w xb x (W.setCell ⟨w.heap.size + 1 + 1 + 1 + 1, 1, none⟩ (.int .i64 x)) :=
  ⟨h.1.far (by dsimp only; omega) _, h.2.1.far (by dsimp only; omega) _, h.2.2.1.far (by dsimp only; omega) _, h.2.2.2.1.far (by dsimp only; omega) _, h.2.2.2.2.1.set_ 1 _, h.2.2.2.2.2.setCell (by dsimp only; omega) _⟩
theorem StrI.drew (h : StrI s A O D V n c co nd cd nv cv w xb xp W) : StrI s A O D V n c co nd cd nv cv w xb xp W.drew := ⟨h.1, h.2.1, h.2.2.1, h.2.2.2.1, h.2.2.2.2.1, h.2.2.2.2.2.drew⟩
theorem StrI.drewN (h : StrI s A O D V n c co nd cd nv cv w xb xp W) (q : Nat) : StrI s A O D V n c co nd cd nv cv w xb xp (W.drewN q) := h.calm (B := w.heap.size) (calm_of_below (below_drewN (Below.refl _ _) q) h.2.2.2.2.2.size) (Nat.le_refl _)
theorem StepsL.drew {bs : List Bnd} {l : List Wat} {gt gl : Nat} (h : StepsL s bs l A O D n c co nd cd gt gl W) : StepsL s bs l A O D n c co nd cd gt gl W.drew := h
theorem StepsL.base {bs : List Bnd} {l : List Wat} {gt gl : Nat} (hb : Below w.heap.size w W) (hss : SlAt w 0 5 Sec.cells A n c s.secs) (hs : SlAt w 0 2 Bnd.cells O n co bs) (hd : SlAt w 0 4 Wat.cells D nd cd l)
    (h1 : Blk W gt 104 #[.int .i64 s.head, .slice A n c, .int .i64 s.lane.lo, .int .i64 s.lane.hi, .int .i64 s.bend, .slice O n co]) (h2 : Blk W gl 30 #[.slice D nd cd]) : StepsL s bs l A O D n c co nd cd gt gl W :=
  have e : ∀ p : Addr, 0 ≤ p.block → p.block < w.heap.size → W.cell? p = w.cell? p := fun p _ hp => hb.cell hp
  ⟨h1, h2, hss.keep hb.size e, hs.keep hb.size e, hd.keep hb.size e⟩
end
set_option maxRecDepth 100000 in
set_option maxHeartbeats 1500000 in
theorem strain_any (s : Strm) (bs : List Bnd) (l : List Wat) (v : List Int) (A O D V : Option Addr) (n c co nd cd nv cv : Nat) (w : World) (ho : okStrm s = true) (hb0 : okOffs s bs = true) (hl0 : l.all okWat = true) (hv : okSpeeds v = true) (hvl : v.length = l.length)
    (hss : SlAt w 0 5 Sec.cells A n c s.secs) (hs : SlAt w 0 2 Bnd.cells O n co bs) (hd : SlAt w 0 4 Wat.cells D nd cd l) (hvv : SlAt w 0 1 ivs V nv cv v) :
    Calls Tryz.prog 49 #[.agg #[.int .i64 s.head, .slice A n c, .int .i64 s.lane.lo, .int .i64 s.lane.hi, .int .i64 s.bend, .slice O n co], .slice D nd cd, .slice V nv cv] w fun e w' =>
      e = .returned (.agg #[.int .i64 (strainS s bs l v nd).1, .int .i64 (strainS s bs l v nd).2]) ∧ Below w.heap.size w w' := by
  refine (callsIn_wide (n := 9)).1 ?_
  refine callsIn_of_wp_marks Tryz.func49 rfl trivial ?_ rfl
  simp only [Tryz.ntmps49, List.size_toArray, List.length_cons, List.length_nil, Nat.reduceAdd, Nat.reduceSub, Array.replicate_succ, Array.replicate_zero, List.push_toArray, List.append_toArray, List.nil_append, List.cons_append]
  gi_wp2_with fail
  refine ⟨trivial, ?_⟩
  refine (callsIn_wide.2 (steps_any s A O D n c co n nd cd _)).mono ?_
  rintro e w1 ⟨rfl, rfl⟩
  gi_wp2_with fail
  obtain ⟨W0, hW0⟩ : ∃ W0, W0 = ((((((w.alloc (.cells #[.int .i64 s.head, .slice A n c, .int .i64 s.lane.lo, .int .i64 s.lane.hi, .int .i64 s.bend, .slice O n co] 104)).alloc (.cells #[.slice D nd cd] 30)).alloc (.cells #[.slice V nv cv] 31)).alloc (.cells #[.int .i64 0, .int .i64 0] 35)).alloc (.cells #[.int .i64 (-1), .int .i64 (-1)] 35)).alloc (.cells #[.int .i64 s.head, .slice A n c, .int .i64 s.lane.lo, .int .i64 s.lane.hi, .int .i64 s.bend, .slice O n co] 104)).alloc (.cells #[.slice D nd cd] 30) := ⟨_, rfl⟩
  rw [← hW0]
  have hI0 : StrI s A O D V n c co nd cd nv cv w (-1) (-1) W0 := by
    rw [hW0]
    exact ⟨((((((Blk.newAt rfl).alloc _).alloc _).alloc _).alloc _).alloc _).alloc _, (((((Blk.newAt (by simp)).alloc _).alloc _).alloc _).alloc _).alloc _, ((((Blk.newAt (by simp)).alloc _).alloc _).alloc _).alloc _, (((Blk.newAt (by simp)).alloc _).alloc _).alloc _,
      ((Blk.newAt (by simp)).alloc _).alloc _, by repeat (first | exact Below.refl _ _ | (refine Below.alloc ?_ (by simp <;> omega) _))⟩
  have kt : Blk W0 (w.heap.size + 1 + 1 + 1 + 1 + 1) 104 #[.int .i64 s.head, .slice A n c, .int .i64 s.lane.lo, .int .i64 s.lane.hi, .int .i64 s.bend, .slice O n co] := by rw [hW0]; exact (Blk.newAt (by simp)).alloc _
  have kl : Blk W0 (w.heap.size + 1 + 1 + 1 + 1 + 1 + 1) 30 #[.slice D nd cd] := by rw [hW0]; exact Blk.newAt (by simp)
  have hLs : StepsL s bs l A O D n c co nd cd (w.heap.size + 1 + 1 + 1 + 1 + 1) (w.heap.size + 1 + 1 + 1 + 1 + 1 + 1) W0 := StepsL.base hI0.2.2.2.2.2 hss hs hd kt kl
  have hsz : W0.heap.size = w.heap.size + 7 := by rw [hW0]; simp
  clear hW0 kt kl
  refine wp_range rfl (by decide) (gf := 119) (lb := #[.pointer (some ⟨w.heap.size + 1 + 1 + 1 + 1 + 1, 0, none⟩), .pointer (some ⟨w.heap.size + 1 + 1 + 1 + 1 + 1 + 1, 0, none⟩)]) rfl trivial eg_steps1
    (steps1_iter _ s bs l A O D n c co nd cd _ _ ho hb0 hl0) (fun k vs W ⟨O', co', e, _⟩ => by rw [e]; rfl)
    (fun k W => StrI s A O D V n c co nd cd nv cv w (fstN (bentN s bs l) k) (fstN (pulledN s bs l v) k) W)
    (fun _ _ => False) (fun k A B h hc => h.calm hc (by omega)) (fun _ _ _ h _ => h) (fun A B h hc => h.calm hc) hI0 hLs ?round ?done ?stop
  case stop => exact fun _ _ _ _ h _ => h.elim
  case done =>
    rintro D0 W hD ⟨-, -, -, k6, k7, hb⟩ hK
    obtain ⟨c6, f6, l6⟩ := k6.rules
    obtain ⟨c7, f7, l7⟩ := k7.rules
    have k7' := k7.far (p := ⟨w.heap.size + 1 + 1 + 1, 0, none⟩) (by dsimp only; omega) (.int .i64 (fstN (bentN s bs l) nd))
    have k6' := k6.set_ 0 (.int .i64 (fstN (bentN s bs l) nd))
    have k6'' := k6'.set_ 1 (.int .i64 (fstN (pulledN s bs l v) nd))
    have hK' : (W.setCell ⟨w.heap.size + 1 + 1 + 1, 0, none⟩ (.int .i64 (fstN (bentN s bs l) nd))).heap[D0]? = _ := (Below.heap_setCell _ _ _ _ (by dsimp only; omega)).trans hK
    have hK'' : ((W.setCell ⟨w.heap.size + 1 + 1 + 1, 0, none⟩ (.int .i64 (fstN (bentN s bs l) nd))).setCell ⟨w.heap.size + 1 + 1 + 1, 1, none⟩ (.int .i64 (fstN (pulledN s bs l v) nd))).heap[D0]? = _ := (Below.heap_setCell _ _ _ _ (by dsimp only; omega)).trans hK'
    have hbe := ((hb.setCell (p := ⟨w.heap.size + 1 + 1 + 1, 0, none⟩) (by dsimp only; omega) (.int .i64 (fstN (bentN s bs l) nd))).setCell (p := ⟨w.heap.size + 1 + 1 + 1, 1, none⟩) (by dsimp only; omega) (.int .i64 (fstN (pulledN s bs l v) nd)))
    gi_wp2_with fail
    generalize ((W.setCell ⟨w.heap.size + 1 + 1 + 1, 0, none⟩ (.int .i64 (fstN (bentN s bs l) nd))).setCell ⟨w.heap.size + 1 + 1 + 1, 1, none⟩ (.int .i64 (fstN (pulledN s bs l v) nd))) = We at *
    refine ⟨by simp, .inl ⟨_, _, rfl, run_takeDeferred hK'', ?_⟩⟩
    have hpu : Below w.heap.size w (We.putObj D0 (.deferred none)) := calm_below (calm_put (B := w.heap.size) _ hK'' rfl (by omega)) hbe (Nat.le_refl _)
    have k6e := calm_blk (calm_put (B := w.heap.size) (.deferred none) hK'' rfl (by omega)) k6''
    obtain ⟨c6, f6, l6⟩ := k6e.rules
    refine ⟨.agg #[.int .i64 (strainS s bs l v nd).1, .int .i64 (strainS s bs l v nd).2], ?_, rfl, hpu⟩
    simp [results, Tryz.results49, go_sem, c6, strainS]
  case round =>
    rintro lr k vs W hW hk hI hL ⟨O', co', rfl, hG⟩
    gi_wp2_with fail
    refine ⟨Below.refl _ _, fun W2 hc => ?_⟩
    replace hI := hI.calm hc (by omega)
    replace hL := hL.calm hc
    replace hG := calm_sl hc hG
    clear hc
    have hxb := (fstN_bd (bentN s bs l) k).1
    have hxp := (fstN_bd (pulledN s bs l v) k).1
    have hsb := Lib.hid (fstN_step (bentN s bs l) k)
    have hsp := Lib.hid (fstN_step (pulledN s bs l v) k)
    have hnd := hL.2.2.2.2.len
    obtain ⟨x, hx⟩ := some_of_lt hnd hk
    obtain ⟨y, hy⟩ := some_of_lt (show v.length = nd by omega) hk
    have hxx := wat_getD hx
    have hyy : v.getD k 0 = y := by rw [List.getD_eq_getElem?_getD, hy]; rfl
    have hbn : Hid (bentN s bs l k = bentS s (encAt s bs l (k + 1))) := rfl
    have hpn : Hid (pulledN s bs l v k = pulledS s (encAt s bs l (k + 1)) y x.alo) := by show pulledN s bs l v k = _; rw [pulledN, hyy, hxx]
    have hxk := Lib.hid (hxx ▸ (okWat_get hl0 k).2)
    have hyk := Lib.hid (List.all_eq_true.1 hv y (List.mem_of_getElem? hy))
    have hek := Lib.hid (encAt_ok ho hb0 hl0 (k + 1))
    have hk0 : (0 : Int) ≤ (k : Int) := by omega
    have hk1 : (k : Int) < (nd : Int) := by omega
    have hk2 : (k : Int) < (nv : Int) := by have := hvv.len; omega
    generalize fstN (bentN s bs l) k = xb at *
    generalize fstN (pulledN s bs l v) k = xp at *
    replace ho := Lib.hid ho
    replace hb0 := Lib.hid hb0
    replace hl0 := Lib.hid hl0
    replace hv := Lib.hid hv
    replace hx := Lib.hid hx
    replace hy := Lib.hid hy
    clear hxx hyy hI0 hLs
    replace hnd := Lib.hid hnd
    replace hvl := Lib.hid hvl
    replace hsz := Lib.hid hsz
    by_cases hx1 : xb < 0
    · obtain ⟨c3, f3, l3⟩ := hI.1.rules
      obtain ⟨c7, f7, l7⟩ := hI.2.2.2.2.1.rules
      gi_wp2_with fail
      refine ⟨trivial, ?_⟩
      have hcb := bent_any s A O' n c n co' _ (encAt s bs l (k + 1)) W2 (ok_head ho.out) (okOffs_all hek.out) hG
      obtain ⟨bb, hbb⟩ : ∃ bb, bentS s (encAt s bs l (k + 1)) = bb := ⟨_, rfl⟩
      rw [hbb] at hcb
      refine (CallsIn.inRound lr (callsIn_wide.2 hcb)).mono ?_
      rintro e w5 ⟨rfl, hb5⟩
      clear c3 f3 l3 c7 f7 l7 hcb
      replace hI := hI.below hb5
      replace hL := hL.below hb5
      replace hG := hG.below hb5
      have hn := nc_of_below (B := W0.heap.size) hb5
      cases bb with
      | false =>
        gi_wp2_with fail
        have hBB : fstN (bentN s bs l) (k + 1) = xb := by rw [hsb.out, if_neg (by omega), hbn.out, hbb]; simp; omega
        replace hBB := Lib.hid hBB
        have hn3 := hn
        have hL3 := hL
        have hG3 := hG
        have hI3 := hI
        by_cases hx2 : xp < 0
        · obtain ⟨k3, k4, k5, -, k7, hb⟩ := hI3
          obtain ⟨c3, f3, l3⟩ := k3.rules
          obtain ⟨c4, f4, l4⟩ := k4.rules
          obtain ⟨c5, f5, l5⟩ := k5.rules
          obtain ⟨c7, f7, l7⟩ := k7.rules
          obtain ⟨b1, o1, hA1, -, -, e0⟩ := (hvv.keep hb.size (fun p _ hp => hb.cell hp)).int hy.out
          obtain ⟨b2, o2, hA2, -, -, -, -, e3, e4⟩ := hL3.2.2.2.2.wat hx.out
          subst hA1
          subst hA2
          clear k3 k4 k5 k7 hb
          gi_wp2_with fail
          (refine wpIn_tail_round 16 (by kernel_rfl) (by kernel_rfl) (by kernel_rfl) ?_ ?_; rotate_left 1; simp only [List.take_succ_cons, List.take_zero, List.drop_succ_cons, List.drop_zero]; (iterate 16 still_step); apply still_end; rotate_left 1; (rintro ⟨_, _, h⟩; exact h))
          clear c3 f3 l3 c4 f4 l4 c5 f5 l5 c7 f7 l7 e0 e3 e4
          have hI4 := hI.drew
          have hL4 := hL3.drew
          have hG4 := hG3.drew
          have hn4 := hn3.trans (nc_drew w5)
          generalize w5.drew = W4 at *
          have hcp := pulled_any s A O' n c co' 0 _ (encAt s bs l (k + 1)) y x.alo W4 ho.out hek.out hyk.out hxk.out hL4.2.2.1 hG4
          obtain ⟨pb, hpb⟩ : ∃ pb, pulledS s (encAt s bs l (k + 1)) y x.alo = pb := ⟨_, rfl⟩
          rw [hpb] at hcp
          go_wp2_with fail
          refine hcp.mono ?_
          rintro e w5 ⟨rfl, hb5⟩
          clear hcp
          replace hI4 := hI4.below hb5
          replace hL4 := hL4.below hb5
          replace hn4 := hn4.trans (nc_of_below hb5)
          obtain ⟨c7, f7, l7⟩ := hI4.2.2.2.2.1.rules
          cases pb with
          | false =>
            go_wp2_with fail
            try gi_wp2_with fail
            refine ⟨hn4, ?_, hL4⟩
            rw [hBB.out, show fstN (pulledN s bs l v) (k + 1) = xp by rw [hsp.out, if_neg (by omega), hpn.out, hpb]; simp; omega]
            exact hI4
          | true =>
            go_wp2_with fail
            try gi_wp2_with fail
            refine ⟨hn4.trans (nc_setCell _ _ _ (by have := hsz.out; dsimp only; omega)), ?_, StepsL.base (hI4.set1 _).2.2.2.2.2 hss hs hd (hL4.1.far (by dsimp only; omega) _) (hL4.2.1.far (by dsimp only; omega) _)⟩
            rw [hBB.out, hsp.out, if_neg (by omega), hpn.out, hpb]
            exact hI4.set1 _
        · obtain ⟨c7, f7, l7⟩ := hI3.2.2.2.2.1.rules
          gi_wp2_with fail
          have hx2n : (xp < 0) = False := eq_false (by omega)
          (refine wpIn_quiet_round (by kernel_rfl) (by kernel_rfl) (by kernel_rfl) ?_ ?_; rotate_left 1; (iterate 18 (go_big_quiet_step (fail))); apply quiet_end; rintro _ ⟨nq, rfl⟩; rotate_left 1; (rintro ⟨_, _, h⟩; exact h))
          clear c7 f7 l7
          try gi_wp2_with fail
          refine ⟨hn3.trans (nc_drewN _ _), ?_, hL3⟩
          rw [hBB.out, hsp.out, if_pos (by omega)]
          exact hI3.drewN _
      | true =>
        obtain ⟨c7, f7, l7⟩ := hI.2.2.2.2.1.rules
        gi_wp2_with fail
        clear c7 f7 l7
        have hBB : fstN (bentN s bs l) (k + 1) = k := by rw [hsb.out, if_neg (by omega), hbn.out, hbb]; rfl
        replace hBB := Lib.hid hBB
        have hI' := hI.set0 k
        have hn3 := hn.trans (nc_setCell w5 ⟨w.heap.size + 1 + 1 + 1 + 1, 0, none⟩ (.int .i64 k) (by have := hsz.out; dsimp only; omega))
        have hL3 : StepsL s bs l A O D n c co nd cd _ _ _ := StepsL.base hI'.2.2.2.2.2 hss hs hd (hL.1.far (p := ⟨w.heap.size + 1 + 1 + 1 + 1, 0, none⟩) (by dsimp only; omega) (.int .i64 k)) (hL.2.1.far (by dsimp only; omega) _)
        have hG3 := hG.setCell (p := ⟨w.heap.size + 1 + 1 + 1 + 1, 0, none⟩) (by dsimp only; omega) (.int .i64 k)
        generalize w5.setCell ⟨w.heap.size + 1 + 1 + 1 + 1, 0, none⟩ (.int .i64 k) = W3 at *
        clear hI hL hG hn
        have hI3 := hI'
        by_cases hx2 : xp < 0
        · obtain ⟨k3, k4, k5, -, k7, hb⟩ := hI3
          obtain ⟨c3, f3, l3⟩ := k3.rules
          obtain ⟨c4, f4, l4⟩ := k4.rules
          obtain ⟨c5, f5, l5⟩ := k5.rules
          obtain ⟨c7, f7, l7⟩ := k7.rules
          obtain ⟨b1, o1, hA1, -, -, e0⟩ := (hvv.keep hb.size (fun p _ hp => hb.cell hp)).int hy.out
          obtain ⟨b2, o2, hA2, -, -, -, -, e3, e4⟩ := hL3.2.2.2.2.wat hx.out
          subst hA1
          subst hA2
          clear k3 k4 k5 k7 hb
          gi_wp2_with fail
          (refine wpIn_tail_round 16 (by kernel_rfl) (by kernel_rfl) (by kernel_rfl) ?_ ?_; rotate_left 1; simp only [List.take_succ_cons, List.take_zero, List.drop_succ_cons, List.drop_zero]; (iterate 16 still_step); apply still_end; rotate_left 1; (rintro ⟨_, _, h⟩; exact h))
          clear c3 f3 l3 c4 f4 l4 c5 f5 l5 c7 f7 l7 e0 e3 e4
          have hI4 := hI'.drew
          have hL4 := hL3.drew
          have hG4 := hG3.drew
          have hn4 := hn3.trans (nc_drew W3)
          generalize W3.drew = W4 at *
          have hcp := pulled_any s A O' n c co' 0 _ (encAt s bs l (k + 1)) y x.alo W4 ho.out hek.out hyk.out hxk.out hL4.2.2.1 hG4
          obtain ⟨pb, hpb⟩ : ∃ pb, pulledS s (encAt s bs l (k + 1)) y x.alo = pb := ⟨_, rfl⟩
          rw [hpb] at hcp
          go_wp2_with fail
          refine hcp.mono ?_
          rintro e w5 ⟨rfl, hb5⟩
          clear hcp
          replace hI4 := hI4.below hb5
          replace hL4 := hL4.below hb5
          replace hn4 := hn4.trans (nc_of_below hb5)
          obtain ⟨c7, f7, l7⟩ := hI4.2.2.2.2.1.rules
          cases pb with
          | false =>
            go_wp2_with fail
            try gi_wp2_with fail
            refine ⟨hn4, ?_, hL4⟩
            rw [hBB.out, show fstN (pulledN s bs l v) (k + 1) = xp by rw [hsp.out, if_neg (by omega), hpn.out, hpb]; simp; omega]
            exact hI4
          | true =>
            go_wp2_with fail
            try gi_wp2_with fail
            refine ⟨hn4.trans (nc_setCell _ _ _ (by have := hsz.out; dsimp only; omega)), ?_, StepsL.base (hI4.set1 _).2.2.2.2.2 hss hs hd (hL4.1.far (by dsimp only; omega) _) (hL4.2.1.far (by dsimp only; omega) _)⟩
            rw [hBB.out, hsp.out, if_neg (by omega), hpn.out, hpb]
            exact hI4.set1 _
        · obtain ⟨c7, f7, l7⟩ := hI3.2.2.2.2.1.rules
          gi_wp2_with fail
          have hx2n : (xp < 0) = False := eq_false (by omega)
          (refine wpIn_quiet_round (by kernel_rfl) (by kernel_rfl) (by kernel_rfl) ?_ ?_; rotate_left 1; (iterate 18 (go_big_quiet_step (fail))); apply quiet_end; rintro _ ⟨nq, rfl⟩; rotate_left 1; (rintro ⟨_, _, h⟩; exact h))
          clear c7 f7 l7
          try gi_wp2_with fail
          refine ⟨hn3.trans (nc_drewN _ _), ?_, hL3⟩
          rw [hBB.out, hsp.out, if_pos (by omega)]
          exact hI3.drewN _
    · obtain ⟨c7, f7, l7⟩ := hI.2.2.2.2.1.rules
      gi_wp2_with fail
      refine ⟨trivial, ?_⟩
      clear c7 f7 l7
      have hBB : fstN (bentN s bs l) (k + 1) = xb := by rw [hsb.out, if_pos (by omega)]
      replace hBB := Lib.hid hBB
      have hn3 := NC.refl W0.heap.size W2
      have hL3 := hL
      have hG3 := hG
      have hI3 := hI
      by_cases hx2 : xp < 0
      · obtain ⟨k3, k4, k5, -, k7, hb⟩ := hI3
        obtain ⟨c3, f3, l3⟩ := k3.rules
        obtain ⟨c4, f4, l4⟩ := k4.rules
        obtain ⟨c5, f5, l5⟩ := k5.rules
        obtain ⟨c7, f7, l7⟩ := k7.rules
        obtain ⟨b1, o1, hA1, -, -, e0⟩ := (hvv.keep hb.size (fun p _ hp => hb.cell hp)).int hy.out
        obtain ⟨b2, o2, hA2, -, -, -, -, e3, e4⟩ := hL3.2.2.2.2.wat hx.out
        subst hA1
        subst hA2
        clear k3 k4 k5 k7 hb
        gi_wp2_with fail
        (refine wpIn_tail_round 16 (by kernel_rfl) (by kernel_rfl) (by kernel_rfl) ?_ ?_; rotate_left 1; simp only [List.take_succ_cons, List.take_zero, List.drop_succ_cons, List.drop_zero]; (iterate 16 still_step); apply still_end; rotate_left 1; (rintro ⟨_, _, h⟩; exact h))
        clear c3 f3 l3 c4 f4 l4 c5 f5 l5 c7 f7 l7 e0 e3 e4
        have hI4 := hI.drew
        have hL4 := hL3.drew
        have hG4 := hG3.drew
        have hn4 := hn3.trans (nc_drew W2)
        generalize W2.drew = W4 at *
        have hcp := pulled_any s A O' n c co' 0 _ (encAt s bs l (k + 1)) y x.alo W4 ho.out hek.out hyk.out hxk.out hL4.2.2.1 hG4
        obtain ⟨pb, hpb⟩ : ∃ pb, pulledS s (encAt s bs l (k + 1)) y x.alo = pb := ⟨_, rfl⟩
        rw [hpb] at hcp
        go_wp2_with fail
        refine hcp.mono ?_
        rintro e w5 ⟨rfl, hb5⟩
        clear hcp
        replace hI4 := hI4.below hb5
        replace hL4 := hL4.below hb5
        replace hn4 := hn4.trans (nc_of_below hb5)
        obtain ⟨c7, f7, l7⟩ := hI4.2.2.2.2.1.rules
        cases pb with
        | false =>
          go_wp2_with fail
          try gi_wp2_with fail
          refine ⟨hn4, ?_, hL4⟩
          rw [hBB.out, show fstN (pulledN s bs l v) (k + 1) = xp by rw [hsp.out, if_neg (by omega), hpn.out, hpb]; simp; omega]
          exact hI4
        | true =>
          go_wp2_with fail
          try gi_wp2_with fail
          refine ⟨hn4.trans (nc_setCell _ _ _ (by have := hsz.out; dsimp only; omega)), ?_, StepsL.base (hI4.set1 _).2.2.2.2.2 hss hs hd (hL4.1.far (by dsimp only; omega) _) (hL4.2.1.far (by dsimp only; omega) _)⟩
          rw [hBB.out, hsp.out, if_neg (by omega), hpn.out, hpb]
          exact hI4.set1 _
      · obtain ⟨c7, f7, l7⟩ := hI3.2.2.2.2.1.rules
        gi_wp2_with fail
        have hx2n : (xp < 0) = False := eq_false (by omega)
        (refine wpIn_quiet_round (by kernel_rfl) (by kernel_rfl) (by kernel_rfl) ?_ ?_; rotate_left 1; (iterate 18 (go_big_quiet_step (fail))); apply quiet_end; rintro _ ⟨nq, rfl⟩; rotate_left 1; (rintro ⟨_, _, h⟩; exact h))
        clear c7 f7 l7
        try gi_wp2_with fail
        refine ⟨hn3.trans (nc_drewN _ _), ?_, hL3⟩
        rw [hBB.out, hsp.out, if_pos (by omega)]
        exact hI3.drewN _
end Go.Proofs.YtjiaepphnddpoaaGreat
namespace Go.Proofs.YtjiaepphnddpoaaGreat
set_option linter.unusedSimpArgs false
set_option linter.unusedVariables false
open Go.RowKit Go.Shelf
theorem arr2 : WideMaps.ArrKey Tryz.prog 69 3 2 := ⟨by kernel_rfl, by kernel_rfl, by kernel_rfl, by kernel_rfl⟩
theorem keyed2 : Maps.Keyed Tryz.prog 69 := Maps.Keyed.of_law arr2.law
def kl (i k : Int) : Lit := .string (keyBytes [.int .i64 i, .int .i64 k])
theorem underInt : Tryz.prog.underlying 3 = some (.int .i64) := by kernel_rfl
theorem underBool : Tryz.prog.underlying 4 = some .bool := by kernel_rfl
theorem underMap2 : Tryz.prog.underlying 125 = some (.map 69 4) := by kernel_rfl
def small (i : Int) : Prop := -1000000 ≤ i ∧ i ≤ 1000000
theorem small_wf {i : Int} (h : small i) : (Lit.int .i64 i).wf = true := by
  obtain ⟨h1, h2⟩ := h
  simp only [Lit.wf, IntKind.min, IntKind.max, IntKind.signed, IntKind.bits, Bool.and_eq_true, decide_eq_true_eq, if_true]
  omega
theorem types_pos : ∃ m, Tryz.prog.types.size = m + 1 := ⟨Tryz.prog.types.size - 1, by
  have h : (0 < Tryz.prog.types.size) = True := eq_true (of_decide_eq_true (by kernel_rfl))
  have := of_eq_true h
  omega⟩
theorem keyOf_kl {i k : Int} (hi : small i) (hk : small k) : keyOf Tryz.prog 69 (.agg #[.int .i64 i, .int .i64 k]) = some (kl i k) :=
  WideMaps.keyOf_pair arr2 underInt types_pos (small_wf hi) (small_wf hk)
theorem kl_inj {i k i' k' : Int} (hi : small i) (hk : small k) (hi' : small i') (hk' : small k') (h : kl i k = kl i' k') : i = i' ∧ k = k' := by
  have := keyed2.inj (keyOf_kl hi hk) (h ▸ keyOf_kl hi' hk')
  simpa using this
theorem kl_key (i k : Int) : WideAt.IsKeyLit (kl i k) := trivial
def KMap (w : World) (b n : Nat) (f : Nat → Nat → Bool) : Prop :=
  ∃ D : DataW Unit, w.ownsMap Tryz.prog 69 (plainElem Tryz.prog 4) b n D ∧ Maps.IsMap D ∧ ∀ i k : Nat, i ≤ 1000000 → k ≤ 1000000 → D.atKey (kl i k) (.lit (.bool false)) = .lit (.bool (f i k))
theorem small_nat {i : Nat} (h : i ≤ 1000000) : small (i : Int) := ⟨by omega, by omega⟩
theorem kmap_made (w : World) : KMap (w.alloc (.map #[] 0)) w.heap.size 0 (fun _ _ => false) :=
  ⟨.map [], World.ownsMap_made _ _ _ _, Maps.isMap_empty, fun _ _ _ _ => rfl⟩
theorem KMap.lt {w : World} {b n : Nat} {f : Nat → Nat → Bool} (h : KMap w b n f) : b < w.heap.size := let ⟨_, h, _⟩ := h; h.lt
theorem KMap.block {w w' : World} {b n : Nat} {f : Nat → Nat → Bool} (h : KMap w b n f) (e : w'.heap[b]? = w.heap[b]?) : KMap w' b n f := by
  obtain ⟨D, ⟨es, clock, hb, r⟩, h2⟩ := h
  exact ⟨D, ⟨es, clock, e.trans hb, r⟩, h2⟩
theorem KMap.below {w w' : World} {b n : Nat} {f : Nat → Nat → Bool} (h : KMap w b n f) (hb : Below w.heap.size w w') : KMap w' b n f := h.block (hb.block b h.lt)
theorem KMap.look {w : World} {b n : Nat} {f : Nat → Nat → Bool} (h : KMap w b n f) {i k : Nat} (hi : i ≤ 1000000) (hk : k ≤ 1000000) :
    (Instr.lookup 125 (.map (some b)) (.agg #[.int .i64 i, .int .i64 k]) false).run Tryz.prog w = .ok (.bool (f i k)) w := by
  obtain ⟨D, ho, hm, hat⟩ := h
  obtain ⟨v, ps, hrun, hR⟩ := ho.lookup keyed2 underMap2 (z := .bool false) (by kernel_rfl) (plainElem_bool underBool false) (keyOf_kl (small_nat hi) (small_nat hk))
  rw [hat i k hi hk] at hR
  rw [hrun]
  unfold plainElem at hR
  rw [underBool] at hR
  cases v <;> simp at hR
  simp [hR]
theorem KMap.put {w w0' : World} {b n : Nat} {f : Nat → Nat → Bool} {i k : Nat} {x : Bool} (h : KMap w b n f) (hi : i ≤ 1000000) (hk : k ≤ 1000000) :
    ∃ D : DataW Unit, w.ownsMap Tryz.prog 69 (plainElem Tryz.prog 4) b n D ∧ ∀ w', w'.ownsMap Tryz.prog 69 (plainElem Tryz.prog 4) b (n + 1) (D.put (kl i k) (.lit (.bool x))) → KMap w' b (n + 1) (fun i' k' => if i' = i ∧ k' = k then x else f i' k') := by
  obtain ⟨D, ho, hm, hat⟩ := h
  refine ⟨D, ho, fun w' ho' => ⟨_, ho', ?_, fun i' k' hi' hk' => ?_⟩⟩
  · obtain ⟨es, rfl⟩ := hm
    exact ⟨_, rfl⟩
  · by_cases e : i' = i ∧ k' = k
    · obtain ⟨rfl, rfl⟩ := e
      rw [Maps.atKey_put_same hm (kl_key _ _)]
      simp
    · rw [Maps.atKey_put_other (fun h => e (by
        obtain ⟨h1, h2⟩ := kl_inj (small_nat hi') (small_nat hk') (small_nat hi) (small_nat hk) h
        exact ⟨by omega, by omega⟩))]
      simp only [if_neg e]
      exact hat i' k' hi' hk'
end Go.Proofs.YtjiaepphnddpoaaGreat
namespace Go.Proofs.YtjiaepphnddpoaaGreat
open Go.RowKit Go.Shelf
def set6 (w : World) (g : Nat) (v0 v1 v2 v3 v4 v5 : Value) : World :=
  (((((w.setCell ⟨g, 0, none⟩ v0).setCell ⟨g, 1, none⟩ v1).setCell ⟨g, 2, none⟩ v2).setCell ⟨g, 3, none⟩ v3).setCell ⟨g, 4, none⟩ v4).setCell ⟨g, 5, none⟩ v5
theorem Blk.set6 {w : World} {g : Nat} {t : TypeId} {a0 a1 a2 a3 a4 a5 : Value} (h : Blk w g t #[a0, a1, a2, a3, a4, a5]) (v0 v1 v2 v3 v4 v5 : Value) : Blk (set6 w g v0 v1 v2 v3 v4 v5) g t #[v0, v1, v2, v3, v4, v5] :=
  (((((h.set_ 0 v0).set_ 1 v1).set_ 2 v2).set_ 3 v3).set_ 4 v4).set_ 5 v5
theorem below_set6 {B : Nat} {w0 w : World} {g : Nat} (h : Below B w0 w) (hg : B ≤ g) (v0 v1 v2 v3 v4 v5 : Value) : Below B w0 (set6 w g v0 v1 v2 v3 v4 v5) :=
  (((((h.setCell (p := ⟨g, 0, none⟩) hg v0).setCell (p := ⟨g, 1, none⟩) hg v1).setCell (p := ⟨g, 2, none⟩) hg v2).setCell (p := ⟨g, 3, none⟩) hg v3).setCell (p := ⟨g, 4, none⟩) hg v4).setCell (p := ⟨g, 5, none⟩) hg v5
def RetTow (s : Strm) (A O : Option Addr) (n c no co : Nat) (eb er : Int) (w : World) (e : Ending) (w' : World) : Prop :=
  (eb = 0 → e = .returned (.tuple #[.agg #[.int .i64 s.head, .slice A n c, .int .i64 s.lane.lo, .int .i64 s.lane.hi, .int .i64 s.bend, .slice O no co], .int .i64 er])) ∧
  (eb ≠ 0 → e = .returned (.tuple #[.agg #[.int .i64 0, .slice none 0 0, .int .i64 0, .int .i64 0, .int .i64 0, .slice none 0 0], .int .i64 er])) ∧ Below w.heap.size w w'
set_option maxRecDepth 100000 in
set_option maxHeartbeats 4000000 in
theorem begun_any (s : Strm) (A O D : Option Addr) (n c no co nd cd : Nat) (bs : List Bnd) (l : List Wat) (w : World) (hss : SlAt w 0 5 Sec.cells A n c s.secs) (hs : SlAt w 0 2 Bnd.cells O no co bs) (hd : SlAt w 0 4 Wat.cells D nd cd l) :
    Calls Tryz.prog 69 #[.agg #[.int .i64 s.head, .slice A n c, .int .i64 s.lane.lo, .int .i64 s.lane.hi, .int .i64 s.bend], .slice O no co, .slice D nd cd] w (RetTow s A O n c no co (errB s bs) (errBW s bs l) w) := by
  by_cases h1 : errB s bs = 0
  · have hv : errBW s bs l = chkWats l := by simp [errBW, h1]
    rw [hv]
    clear hv
    replace h1 := Lib.hid h1
    obtain ⟨er, her⟩ : ∃ er, er = chkWats l := ⟨_, rfl⟩
    rw [← her]
    go_enter Tryz.func69, Tryz.ntmps69
    go_wp2_with fail
    refine (checked_any s A O n c no co 0 0 bs _ ((hss.alloc _).alloc _) ((hs.alloc _).alloc _)).mono ?_
    rintro e w1 ⟨r1, -, hb1⟩
    obtain rfl := r1 h1.out
    clear r1
    have k6 := (Blk.new _ _ _).below hb1
    rw [World.size_alloc] at k6
    have b1 := (((Below.refl w.heap.size w).alloc (Nat.le_refl _) _).alloc (by simp) _).trans (hb1.mono (by simp; omega))
    have hd1 : SlAt w1 0 4 Wat.cells D nd cd l := ((hd.alloc _).alloc _).below hb1
    have k8 := Blk.new w1 102 #[.int .i64 s.head, .slice A n c, .int .i64 s.lane.lo, .int .i64 s.lane.hi, .int .i64 s.bend]
    have k6a := k6.alloc (.cells #[.int .i64 s.head, .slice A n c, .int .i64 s.lane.lo, .int .i64 s.lane.hi, .int .i64 s.bend] 102)
    have b1a := b1.alloc b1.size (.cells #[.int .i64 s.head, .slice A n c, .int .i64 s.lane.lo, .int .i64 s.lane.hi, .int .i64 s.bend] 102)
    have hda := hd1.alloc (.cells #[.int .i64 s.head, .slice A n c, .int .i64 s.lane.lo, .int .i64 s.lane.hi, .int .i64 s.bend] 102)
    go_wp2_with fail
    clear k6 b1 hd1 hb1
    generalize w1.alloc (.cells #[.int .i64 s.head, .slice A n c, .int .i64 s.lane.lo, .int .i64 s.lane.hi, .int .i64 s.bend] 102) = wa at *
    obtain ⟨c8, f8, l8⟩ := k8.rules
    have hwat := waters_any D nd cd 0 l _ hda.drew
    rw [← her] at hwat
    clear her hda
    go_region_with (first | (go_at_call 15; refine hwat.mono ?_; rintro e w' ⟨rfl, hbx⟩; replace hbx := below_of_drew hbx; have b2x := b1a.trans (hbx.mono b1a.size); have k6x := k6a.below hbx; replace k8 := k8.below hbx; clear c8 f8 l8; obtain ⟨c8, f8, l8⟩ := k8.rules; obtain ⟨c6, f6, l6⟩ := k6x.rules))
    all_goals
      clear hwat c8 f8 l8 c6 f6 l6
      have k6z := k6x.set6 (.int .i64 s.head) (.slice A n c) (.int .i64 s.lane.lo) (.int .i64 s.lane.hi) (.int .i64 s.bend) (.slice O no co)
      have b2z := below_set6 (g := w.heap.size + 1) b2x (by omega) (.int .i64 s.head) (.slice A n c) (.int .i64 s.lane.lo) (.int .i64 s.lane.hi) (.int .i64 s.bend) (.slice O no co)
      obtain ⟨wz, hwz⟩ : ∃ x, x = set6 w' (w.heap.size + 1) (.int .i64 s.head) (.slice A n c) (.int .i64 s.lane.lo) (.int .i64 s.lane.hi) (.int .i64 s.bend) (.slice O no co) := ⟨_, rfl⟩
      rw [← hwz] at k6z b2z
      simp only [set6] at hwz
      rw [← hwz]
      clear hwz
      go_wp2
      obtain ⟨c6, f6, l6⟩ := k6z.rules
      refine bodyPost_ret (v := .tuple #[.agg #[.int .i64 s.head, .slice A n c, .int .i64 s.lane.lo, .int .i64 s.lane.hi, .int .i64 s.bend, .slice O no co], .int .i64 er]) (by simp [results, Tryz.results69, go_sem, c6]) rfl ⟨fun _ => rfl, fun h => absurd h1.out h, b2z⟩
  · have hv : errBW s bs l = errB s bs := by simp [errBW, h1]
    rw [hv]
    clear hv
    have h1' : (errB s bs != 0) = true := by rw [bne_iff_ne]; exact h1
    go_enter Tryz.func69, Tryz.ntmps69
    go_wp2_with fail
    refine (checked_any s A O n c no co 0 0 bs _ ((hss.alloc _).alloc _) ((hs.alloc _).alloc _)).mono ?_
    rintro e w1 ⟨-, r2, hb1⟩
    obtain rfl := r2 h1
    clear r2
    have k6 := (Blk.new _ _ _).below hb1
    rw [World.size_alloc] at k6
    have b1 := (((Below.refl w.heap.size w).alloc (Nat.le_refl _) _).alloc (by simp) _).trans (hb1.mono (by simp; omega))
    obtain ⟨c6, f6, l6⟩ := k6.rules
    have b2y := below_set6 (g := w.heap.size + 1) b1 (by omega) (.int .i64 0) (.slice none 0 0) (.int .i64 0) (.int .i64 0) (.int .i64 0) (.slice none 0 0)
    have k6z := (k6.set6 (.int .i64 0) (.slice none 0 0) (.int .i64 0) (.int .i64 0) (.int .i64 0) (.slice none 0 0)).alloc (.cells #[.int .i64 0, .slice none 0 0, .int .i64 0, .int .i64 0, .int .i64 0] 102)
    have b2z := b2y.alloc b2y.size (.cells #[.int .i64 0, .slice none 0 0, .int .i64 0, .int .i64 0, .int .i64 0] 102)
    obtain ⟨wz, hwz⟩ : ∃ x, x = (set6 w1 (w.heap.size + 1) (.int .i64 0) (.slice none 0 0) (.int .i64 0) (.int .i64 0) (.int .i64 0) (.slice none 0 0)).alloc (.cells #[.int .i64 0, .slice none 0 0, .int .i64 0, .int .i64 0, .int .i64 0] 102) := ⟨_, rfl⟩
    rw [← hwz] at k6z b2z
    simp only [set6] at hwz
    go_wp2
    rw [← hwz]
    clear c6 f6 l6 hwz b2y
    obtain ⟨c6, f6, l6⟩ := k6z.rules
    refine bodyPost_ret (v := .tuple #[.agg #[.int .i64 0, .slice none 0 0, .int .i64 0, .int .i64 0, .int .i64 0, .slice none 0 0], .int .i64 (errB s bs)]) (by simp [results, Tryz.results69, go_sem, c6]) rfl ⟨fun h => absurd h h1, fun _ => rfl, b2z⟩
theorem errBW_zero {s : Strm} {bs : List Bnd} {l : List Wat} (h : errBW s bs l = 0) : errB s bs = 0 ∧ okWats l = true := by
  unfold errBW at h
  split at h
  · rename_i h1
    refine ⟨h1, ?_⟩
    unfold chkWats at h
    split at h
    · assumption
    · omega
  · exact absurd h (by assumption)
set_option maxRecDepth 100000 in
set_option maxHeartbeats 2000000 in
theorem watched_any (s : Strm) (A O D V : Option Addr) (n c no co nd cd nv cv : Nat) (bs : List Bnd) (l : List Wat) (v : List Int) (w : World) (hss : SlAt w 0 5 Sec.cells A n c s.secs) (hs : SlAt w 0 2 Bnd.cells O no co bs) (hd : SlAt w 0 4 Wat.cells D nd cd l) (hvv : SlAt w 0 1 ivs V nv cv v) :
    Calls Tryz.prog 48 #[.agg #[.int .i64 s.head, .slice A n c, .int .i64 s.lane.lo, .int .i64 s.lane.hi, .int .i64 s.bend], .slice O no co, .slice D nd cd, .slice V nv cv] w (RetTow s A O n c no co (errB s bs) (errW s bs l v) w) := by
  have hld := hd.len
  have hlv := hvv.len
  by_cases h1 : errBW s bs l = 0
  · obtain ⟨h2, h3⟩ := errBW_zero h1
    have hev : errW s bs l v = if nv = nd ∧ okSpeeds v = true then 0 else 34 := by simp [errW, h1, hld, hlv]
    rw [hev, h2]
    clear hev hld hlv
    replace h1 := Lib.hid h1
    replace h2 := Lib.hid h2
    clear h3
    by_cases h4 : nv = nd
    · subst h4
      obtain ⟨sp, hsp⟩ : ∃ sp, sp = okSpeeds v := ⟨_, rfl⟩
      rw [← hsp]
      cases sp with
      | false =>
        rw [show (if nv = nv ∧ (false : Bool) = true then (0 : Int) else 34) = 34 by simp]
        replace hsp := Lib.hid hsp
        go_enter Tryz.func48, Tryz.ntmps48
        go_wp2_with fail
        refine (begun_any s A O D n c no co nv cd bs l _ ((hss.alloc _).alloc _) ((hs.alloc _).alloc _) ((hd.alloc _).alloc _)).mono ?_
        rintro e w1 ⟨r1, r2, hb1⟩
        have k8 := (Blk.new _ _ _).below hb1
        rw [World.size_alloc] at k8
        have b1 := (((Below.refl w.heap.size w).alloc (Nat.le_refl _) _).alloc (by simp) _).trans (hb1.mono (by simp; omega))
        rw [h1.out] at r1
        obtain rfl := r1 h2.out
        obtain ⟨c8, f8, l8⟩ := k8.rules
        clear r1 r2
        have hv1 := ((hvv.alloc _).alloc _).below hb1
        have b1a := b1.alloc b1.size (.cells #[.int .i64 s.head, .slice A n c, .int .i64 s.lane.lo, .int .i64 s.lane.hi, .int .i64 s.bend, .slice O no co] 104)
        have k10 := Blk.new w1 104 #[.int .i64 s.head, .slice A n c, .int .i64 s.lane.lo, .int .i64 s.lane.hi, .int .i64 s.bend, .slice O no co]
        have k8a := k8.alloc (.cells #[.int .i64 s.head, .slice A n c, .int .i64 s.lane.lo, .int .i64 s.lane.hi, .int .i64 s.bend, .slice O no co] 104)
        have hv2 := hv1.alloc (.cells #[.int .i64 s.head, .slice A n c, .int .i64 s.lane.lo, .int .i64 s.lane.hi, .int .i64 s.bend, .slice O no co] 104)
        go_wp2_with fail
        refine (speeds_any V nv cv 0 v _ hv2).mono ?_
        rw [← hsp.out]
        rintro e w2 ⟨rfl, hb2⟩
        clear c8 f8 l8
        replace b1a := b1a.trans (hb2.mono b1a.size)
        replace k10 := k10.below hb2
        replace k8a := k8a.below hb2
        have b2z := below_set6 (g := w.heap.size + 1) b1a (by omega) (.int .i64 s.head) (.slice A n c) (.int .i64 s.lane.lo) (.int .i64 s.lane.hi) (.int .i64 s.bend) (.slice O no co)
        have k8z := k8a.set6 (.int .i64 s.head) (.slice A n c) (.int .i64 s.lane.lo) (.int .i64 s.lane.hi) (.int .i64 s.bend) (.slice O no co)
        obtain ⟨wz, hwz⟩ : ∃ x, x = (set6 w2 (w.heap.size + 1) (.int .i64 s.head) (.slice A n c) (.int .i64 s.lane.lo) (.int .i64 s.lane.hi) (.int .i64 s.bend) (.slice O no co)) := ⟨_, rfl⟩
        rw [← hwz] at k8z b2z
        simp only [set6] at hwz
        obtain ⟨c8, f8, l8⟩ := k8a.rules
        obtain ⟨c10, f10, l10⟩ := k10.rules
        clear k8 k8a k10 b1 hb1 hb2 hv1 hv2
        go_wp2
        rw [← hwz]
        clear hwz c8 f8 l8 c10 f10 l10
        obtain ⟨c8, f8, l8⟩ := k8z.rules
        refine bodyPost_ret (v := .tuple #[.agg #[.int .i64 s.head, .slice A n c, .int .i64 s.lane.lo, .int .i64 s.lane.hi, .int .i64 s.bend, .slice O no co], .int .i64 34]) (by simp [results, Tryz.results48, go_sem, c8]) rfl ⟨fun _ => rfl, fun h => absurd rfl h, b2z⟩
      | true =>
        rw [show (if nv = nv ∧ (true : Bool) = true then (0 : Int) else 34) = 0 by simp]
        replace hsp := Lib.hid hsp
        go_enter Tryz.func48, Tryz.ntmps48
        go_wp2_with fail
        refine (begun_any s A O D n c no co nv cd bs l _ ((hss.alloc _).alloc _) ((hs.alloc _).alloc _) ((hd.alloc _).alloc _)).mono ?_
        rintro e w1 ⟨r1, r2, hb1⟩
        have k8 := (Blk.new _ _ _).below hb1
        rw [World.size_alloc] at k8
        have b1 := (((Below.refl w.heap.size w).alloc (Nat.le_refl _) _).alloc (by simp) _).trans (hb1.mono (by simp; omega))
        rw [h1.out] at r1
        obtain rfl := r1 h2.out
        obtain ⟨c8, f8, l8⟩ := k8.rules
        clear r1 r2
        have hv1 := ((hvv.alloc _).alloc _).below hb1
        have b1a := b1.alloc b1.size (.cells #[.int .i64 s.head, .slice A n c, .int .i64 s.lane.lo, .int .i64 s.lane.hi, .int .i64 s.bend, .slice O no co] 104)
        have k10 := Blk.new w1 104 #[.int .i64 s.head, .slice A n c, .int .i64 s.lane.lo, .int .i64 s.lane.hi, .int .i64 s.bend, .slice O no co]
        have k8a := k8.alloc (.cells #[.int .i64 s.head, .slice A n c, .int .i64 s.lane.lo, .int .i64 s.lane.hi, .int .i64 s.bend, .slice O no co] 104)
        have hv2 := hv1.alloc (.cells #[.int .i64 s.head, .slice A n c, .int .i64 s.lane.lo, .int .i64 s.lane.hi, .int .i64 s.bend, .slice O no co] 104)
        go_wp2_with fail
        refine (speeds_any V nv cv 0 v _ hv2).mono ?_
        rw [← hsp.out]
        rintro e w2 ⟨rfl, hb2⟩
        clear c8 f8 l8
        replace b1a := b1a.trans (hb2.mono b1a.size)
        replace k10 := k10.below hb2
        replace k8a := k8a.below hb2
        have b2z := below_set6 (g := w.heap.size + 1) b1a (by omega) (.int .i64 s.head) (.slice A n c) (.int .i64 s.lane.lo) (.int .i64 s.lane.hi) (.int .i64 s.bend) (.slice O no co)
        have k8z := k8a.set6 (.int .i64 s.head) (.slice A n c) (.int .i64 s.lane.lo) (.int .i64 s.lane.hi) (.int .i64 s.bend) (.slice O no co)
        obtain ⟨wz, hwz⟩ : ∃ x, x = (set6 w2 (w.heap.size + 1) (.int .i64 s.head) (.slice A n c) (.int .i64 s.lane.lo) (.int .i64 s.lane.hi) (.int .i64 s.bend) (.slice O no co)) := ⟨_, rfl⟩
        rw [← hwz] at k8z b2z
        simp only [set6] at hwz
        obtain ⟨c8, f8, l8⟩ := k8a.rules
        obtain ⟨c10, f10, l10⟩ := k10.rules
        clear k8 k8a k10 b1 hb1 hb2 hv1 hv2
        go_wp2
        rw [← hwz]
        clear hwz c8 f8 l8 c10 f10 l10
        obtain ⟨c8, f8, l8⟩ := k8z.rules
        refine bodyPost_ret (v := .tuple #[.agg #[.int .i64 s.head, .slice A n c, .int .i64 s.lane.lo, .int .i64 s.lane.hi, .int .i64 s.bend, .slice O no co], .int .i64 0]) (by simp [results, Tryz.results48, go_sem, c8]) rfl ⟨fun _ => rfl, fun h => absurd rfl h, b2z⟩
    · rw [if_neg (fun h => h4 h.1)]
      have h4' : ¬ ((nv : Int) = (nd : Int)) := by omega
      go_enter Tryz.func48, Tryz.ntmps48
      go_wp2_with fail
      refine (begun_any s A O D n c no co nd cd bs l _ ((hss.alloc _).alloc _) ((hs.alloc _).alloc _) ((hd.alloc _).alloc _)).mono ?_
      rintro e w1 ⟨r1, r2, hb1⟩
      have k8 := (Blk.new _ _ _).below hb1
      rw [World.size_alloc] at k8
      have b1 := (((Below.refl w.heap.size w).alloc (Nat.le_refl _) _).alloc (by simp) _).trans (hb1.mono (by simp; omega))
      rw [h1.out] at r1
      obtain rfl := r1 h2.out
      have b2y := below_set6 (g := w.heap.size + 1) b1 (by omega) (.int .i64 s.head) (.slice A n c) (.int .i64 s.lane.lo) (.int .i64 s.lane.hi) (.int .i64 s.bend) (.slice O no co)
      have k8z := (k8.set6 (.int .i64 s.head) (.slice A n c) (.int .i64 s.lane.lo) (.int .i64 s.lane.hi) (.int .i64 s.bend) (.slice O no co)).alloc (.cells #[.int .i64 s.head, .slice A n c, .int .i64 s.lane.lo, .int .i64 s.lane.hi, .int .i64 s.bend, .slice O no co] 104)
      have b2z := b2y.alloc b2y.size (.cells #[.int .i64 s.head, .slice A n c, .int .i64 s.lane.lo, .int .i64 s.lane.hi, .int .i64 s.bend, .slice O no co] 104)
      obtain ⟨wz, hwz⟩ : ∃ x, x = (set6 w1 (w.heap.size + 1) (.int .i64 s.head) (.slice A n c) (.int .i64 s.lane.lo) (.int .i64 s.lane.hi) (.int .i64 s.bend) (.slice O no co)).alloc (.cells #[.int .i64 s.head, .slice A n c, .int .i64 s.lane.lo, .int .i64 s.lane.hi, .int .i64 s.bend, .slice O no co] 104) := ⟨_, rfl⟩
      rw [← hwz] at k8z b2z
      simp only [set6] at hwz
      obtain ⟨c8, f8, l8⟩ := k8.rules
      clear k8 b2y r1 r2 b1 hss hs hd hvv hb1
      go_wp2
      rw [← hwz]
      clear hwz c8 f8 l8
      obtain ⟨c8, f8, l8⟩ := k8z.rules
      refine bodyPost_ret (v := .tuple #[.agg #[.int .i64 s.head, .slice A n c, .int .i64 s.lane.lo, .int .i64 s.lane.hi, .int .i64 s.bend, .slice O no co], .int .i64 (34)]) (by simp [results, Tryz.results48, go_sem, c8]) rfl ⟨fun _ => rfl, fun h => absurd rfl h, b2z⟩
  · have hev : errW s bs l v = errBW s bs l := by simp [errW, h1]
    rw [hev]
    clear hev hld hlv
    have h1' : (errBW s bs l != 0) = true := by rw [bne_iff_ne]; exact h1
    obtain ⟨er, her⟩ : ∃ er, er = errBW s bs l := ⟨_, rfl⟩
    by_cases h2 : errB s bs = 0
    · replace h2 := Lib.hid h2
      go_enter Tryz.func48, Tryz.ntmps48
      go_wp2_with fail
      refine (begun_any s A O D n c no co nd cd bs l _ ((hss.alloc _).alloc _) ((hs.alloc _).alloc _) ((hd.alloc _).alloc _)).mono ?_
      rintro e w1 ⟨r1, r2, hb1⟩
      have k8 := (Blk.new _ _ _).below hb1
      rw [World.size_alloc] at k8
      have b1 := (((Below.refl w.heap.size w).alloc (Nat.le_refl _) _).alloc (by simp) _).trans (hb1.mono (by simp; omega))
      obtain rfl := r1 h2.out
      have b2y := below_set6 (g := w.heap.size + 1) b1 (by omega) (.int .i64 s.head) (.slice A n c) (.int .i64 s.lane.lo) (.int .i64 s.lane.hi) (.int .i64 s.bend) (.slice O no co)
      have k8z := (k8.set6 (.int .i64 s.head) (.slice A n c) (.int .i64 s.lane.lo) (.int .i64 s.lane.hi) (.int .i64 s.bend) (.slice O no co)).alloc (.cells #[.int .i64 s.head, .slice A n c, .int .i64 s.lane.lo, .int .i64 s.lane.hi, .int .i64 s.bend, .slice O no co] 104)
      have b2z := b2y.alloc b2y.size (.cells #[.int .i64 s.head, .slice A n c, .int .i64 s.lane.lo, .int .i64 s.lane.hi, .int .i64 s.bend, .slice O no co] 104)
      obtain ⟨wz, hwz⟩ : ∃ x, x = (set6 w1 (w.heap.size + 1) (.int .i64 s.head) (.slice A n c) (.int .i64 s.lane.lo) (.int .i64 s.lane.hi) (.int .i64 s.bend) (.slice O no co)).alloc (.cells #[.int .i64 s.head, .slice A n c, .int .i64 s.lane.lo, .int .i64 s.lane.hi, .int .i64 s.bend, .slice O no co] 104) := ⟨_, rfl⟩
      rw [← hwz] at k8z b2z
      simp only [set6] at hwz
      obtain ⟨c8, f8, l8⟩ := k8.rules
      clear k8 b2y r1 r2 b1 hss hs hd hvv hb1
      go_wp2
      rw [← hwz]
      clear hwz c8 f8 l8
      obtain ⟨c8, f8, l8⟩ := k8z.rules
      refine bodyPost_ret (v := .tuple #[.agg #[.int .i64 s.head, .slice A n c, .int .i64 s.lane.lo, .int .i64 s.lane.hi, .int .i64 s.bend, .slice O no co], .int .i64 (errBW s bs l)]) (by simp [results, Tryz.results48, go_sem, c8]) rfl ⟨fun _ => rfl, fun h => absurd h2.out h, b2z⟩
    · replace h2 := Lib.hid h2
      go_enter Tryz.func48, Tryz.ntmps48
      go_wp2_with fail
      refine (begun_any s A O D n c no co nd cd bs l _ ((hss.alloc _).alloc _) ((hs.alloc _).alloc _) ((hd.alloc _).alloc _)).mono ?_
      rintro e w1 ⟨r1, r2, hb1⟩
      have k8 := (Blk.new _ _ _).below hb1
      rw [World.size_alloc] at k8
      have b1 := (((Below.refl w.heap.size w).alloc (Nat.le_refl _) _).alloc (by simp) _).trans (hb1.mono (by simp; omega))
      obtain rfl := r2 h2.out
      have b2y := below_set6 (g := w.heap.size + 1) b1 (by omega) (.int .i64 0) (.slice none 0 0) (.int .i64 0) (.int .i64 0) (.int .i64 0) (.slice none 0 0)
      have k8z := (k8.set6 (.int .i64 0) (.slice none 0 0) (.int .i64 0) (.int .i64 0) (.int .i64 0) (.slice none 0 0)).alloc (.cells #[.int .i64 0, .slice none 0 0, .int .i64 0, .int .i64 0, .int .i64 0, .slice none 0 0] 104)
      have b2z := b2y.alloc b2y.size (.cells #[.int .i64 0, .slice none 0 0, .int .i64 0, .int .i64 0, .int .i64 0, .slice none 0 0] 104)
      obtain ⟨wz, hwz⟩ : ∃ x, x = (set6 w1 (w.heap.size + 1) (.int .i64 0) (.slice none 0 0) (.int .i64 0) (.int .i64 0) (.int .i64 0) (.slice none 0 0)).alloc (.cells #[.int .i64 0, .slice none 0 0, .int .i64 0, .int .i64 0, .int .i64 0, .slice none 0 0] 104) := ⟨_, rfl⟩
      rw [← hwz] at k8z b2z
      simp only [set6] at hwz
      obtain ⟨c8, f8, l8⟩ := k8.rules
      clear k8 b2y r1 r2 b1 hss hs hd hvv hb1
      go_wp2
      rw [← hwz]
      clear hwz c8 f8 l8
      obtain ⟨c8, f8, l8⟩ := k8z.rules
      refine bodyPost_ret (v := .tuple #[.agg #[.int .i64 0, .slice none 0 0, .int .i64 0, .int .i64 0, .int .i64 0, .slice none 0 0], .int .i64 (errBW s bs l)]) (by simp [results, Tryz.results48, go_sem, c8]) rfl ⟨fun h => absurd h h2.out, fun _ => rfl, b2z⟩
end Go.Proofs.YtjiaepphnddpoaaGreat
namespace Go.Proofs.YtjiaepphnddpoaaGreat
open Go.RowKit Go.Shelf
set_option maxRecDepth 100000 in
set_option maxHeartbeats 1000000 in
theorem keeps_any (s : Strm) (bs : List Bnd) (l : List Wat) (v : List Int) (A O D V : Option Addr) (n c co nd cd nv cv : Nat) (w : World) (ho : okStrm s = true) (hb0 : okOffs s bs = true) (hl0 : l.all okWat = true) (hv : okSpeeds v = true) (hvl : v.length = l.length)
    (hss : SlAt w 0 5 Sec.cells A n c s.secs) (hs : SlAt w 0 2 Bnd.cells O n co bs) (hd : SlAt w 0 4 Wat.cells D nd cd l) (hvv : SlAt w 0 1 ivs V nv cv v) :
    Calls Tryz.prog 52 #[.agg #[.int .i64 s.head, .slice A n c, .int .i64 s.lane.lo, .int .i64 s.lane.hi, .int .i64 s.bend, .slice O n co], .slice D nd cd, .slice V nv cv] w fun e w' =>
      e = .returned (.bool (keepsS s bs l v)) ∧ Below w.heap.size w w' := by
  have hk : keepsS s bs l v = decide ((strainS s bs l v nd).1 = -1 ∧ (strainS s bs l v nd).2 = -1) := by
    unfold keepsS; rw [hd.len]; congr 1; rw [Prod.ext_iff]
  rw [hk]
  clear hk
  have h := fun w' hb => strain_any s bs l v A O D V n c co nd cd nv cv w' ho hb0 hl0 hv hvl (hss.below (w' := w') hb) (hs.below hb) (hd.below hb) (hvv.below hb)
  generalize strainS s bs l v nd = p at *
  obtain ⟨p1, p2⟩ := p
  dsimp only at *
  replace h := Lib.hid h
  clear hss hs hd hvv ho hb0 hl0 hv hvl
  obtain ⟨b, hb⟩ : ∃ b, b = decide (p1 = -1 ∧ p2 = -1) := ⟨_, rfl⟩
  rw [← hb]
  replace hb := Lib.hid hb
  go_enter Tryz.func52, Tryz.ntmps52
  go_wp2_with fail
  refine (h.out _ ((Below.refl _ _).alloc (Nat.le_refl _) _)).mono ?_
  rintro e w1 ⟨rfl, hb1⟩
  have b1 := ((Below.refl w.heap.size w).alloc (Nat.le_refl _) _).trans (hb1.mono (by simp))
  go_wp2
  all_goals
    go_ret
    exact ⟨ret_bool (by rw [hb.out]; simp [*]), b1⟩
theorem errW_zero {s : Strm} {bs : List Bnd} {l : List Wat} {v : List Int} (h : errW s bs l v = 0) : okStrm s = true ∧ okOffs s bs = true ∧ l.all okWat = true ∧ okSpeeds v = true ∧ v.length = l.length ∧ errB s bs = 0 := by
  unfold errW at h
  split at h
  · rename_i h1
    obtain ⟨h2, h3⟩ := errBW_zero h1
    obtain ⟨h4, h5⟩ := errB_zero h2
    unfold okWats at h3
    simp only [Bool.and_eq_true, decide_eq_true_eq] at h3
    split at h
    · rename_i h6
      exact ⟨h4, h5, h3.2, h6.2, h6.1, h2⟩
    · omega
  · exact absurd h (by assumption)
set_option maxRecDepth 100000 in
set_option maxHeartbeats 1000000 in
theorem Watch_any (s : Strm) (A O D V : Option Addr) (n c no co nd cd nv cv : Nat) (bs : List Bnd) (l : List Wat) (v : List Int) (w : World) (hss : SlAt w 0 5 Sec.cells A n c s.secs) (hs : SlAt w 0 2 Bnd.cells O no co bs) (hd : SlAt w 0 4 Wat.cells D nd cd l) (hvv : SlAt w 0 1 ivs V nv cv v) :
    Calls Tryz.prog 11 #[.agg #[.int .i64 s.head, .slice A n c, .int .i64 s.lane.lo, .int .i64 s.lane.hi, .int .i64 s.bend], .slice O no co, .slice D nd cd, .slice V nv cv] w fun e w' =>
      e = .returned (.tuple #[.agg #[.int .i64 (watchR s bs l v).1.1, .int .i64 (watchR s bs l v).1.2], .int .i64 (watchR s bs l v).2]) ∧ Below w.heap.size w w' := by
  have hld := hd.len
  by_cases h1 : errW s bs l v = 0
  · obtain ⟨o1, o2, o3, o4, o5, o6⟩ := errW_zero h1
    have hv : watchR s bs l v = (strainS s bs l v nd, 0) := by simp [watchR, h1, hld]
    rw [hv]
    have hno : no = n := by have := okOffs_len o2; have := hs.len; have := hss.len; omega
    subst hno
    replace h1 := Lib.hid h1
    replace o6 := Lib.hid o6
    have hst := fun w' hb => strain_any s bs l v A O D V no c co nd cd nv cv w' o1 o2 o3 o4 o5 (hss.below (w' := w') hb) (hs.below hb) (hd.below hb) (hvv.below hb)
    clear hv
    generalize strainS s bs l v nd = p at *
    obtain ⟨p1, p2⟩ := p
    dsimp only at *
    replace hst := Lib.hid hst
    clear o1 o2 o3 o4 o5 hld
    go_enter Tryz.func11, Tryz.ntmps11
    go_wp2_with fail
    refine (watched_any s A O D V no c no co nd cd nv cv bs l v _ ((hss.alloc _).alloc _) ((hs.alloc _).alloc _) ((hd.alloc _).alloc _) ((hvv.alloc _).alloc _)).mono ?_
    rintro e w1 ⟨r1, r2, hb1⟩
    rw [h1.out] at r1
    obtain rfl := r1 o6.out
    clear r1 r2
    have k8 := (Blk.new _ _ _).below hb1
    rw [World.size_alloc] at k8
    have b1 := (((Below.refl w.heap.size w).alloc (Nat.le_refl _) _).alloc (by simp) _).trans (hb1.mono (by simp; omega))
    have b1a := b1.alloc b1.size (.cells #[.int .i64 s.head, .slice A no c, .int .i64 s.lane.lo, .int .i64 s.lane.hi, .int .i64 s.bend, .slice O no co] 104)
    have k8a := k8.alloc (.cells #[.int .i64 s.head, .slice A no c, .int .i64 s.lane.lo, .int .i64 s.lane.hi, .int .i64 s.bend, .slice O no co] 104)
    go_wp2_with fail
    refine (hst.out _ b1a).mono ?_
    rintro e w2 ⟨rfl, hb2⟩
    replace b1a := b1a.trans (hb2.mono b1a.size)
    replace k8a := k8a.below hb2
    clear k8 hb1 hb2 b1 hst hss hs hd hvv
    obtain ⟨c8, f8, l8⟩ := k8a.rules
    have k8z := (k8a.set_ 0 (.int .i64 p1)).set_ 1 (.int .i64 p2)
    have b2z := (b1a.setCell (p := ⟨w.heap.size + 1, 0, none⟩) (by dsimp only; omega) (.int .i64 p1)).setCell (p := ⟨w.heap.size + 1, 1, none⟩) (by dsimp only; omega) (.int .i64 p2)
    obtain ⟨wz, hwz⟩ : ∃ x, x = (w2.setCell ⟨w.heap.size + 1, 0, none⟩ (.int .i64 p1)).setCell ⟨w.heap.size + 1, 1, none⟩ (.int .i64 p2) := ⟨_, rfl⟩
    rw [← hwz] at k8z b2z
    go_wp2
    rw [← hwz]
    clear hwz c8 f8 l8
    obtain ⟨c8, f8, l8⟩ := k8z.rules
    exact bodyPost_ret (v := .tuple #[.agg #[.int .i64 p1, .int .i64 p2], .int .i64 0]) (by simp [results, Tryz.results11, go_sem, c8]) rfl ⟨rfl, b2z⟩
  · have hv : watchR s bs l v = ((0, 0), errW s bs l v) := by simp [watchR, h1]
    rw [hv]
    dsimp only
    have h1' : (errW s bs l v != 0) = true := by rw [bne_iff_ne]; exact h1
    replace h1 := Lib.hid h1
    clear hv hld
    by_cases h2 : errB s bs = 0
    · replace h2 := Lib.hid h2
      go_enter Tryz.func11, Tryz.ntmps11
      go_wp2_with fail
      refine (watched_any s A O D V n c no co nd cd nv cv bs l v _ ((hss.alloc _).alloc _) ((hs.alloc _).alloc _) ((hd.alloc _).alloc _) ((hvv.alloc _).alloc _)).mono ?_
      rintro e w1 ⟨r1, r2, hb1⟩
      obtain rfl := r1 h2.out
      clear r1 r2
      have k8 := (Blk.new _ _ _).below hb1
      rw [World.size_alloc] at k8
      have b1 := (((Below.refl w.heap.size w).alloc (Nat.le_refl _) _).alloc (by simp) _).trans (hb1.mono (by simp; omega))
      clear hb1 hss hs hd hvv
      obtain ⟨c8, f8, l8⟩ := k8.rules
      have k8z := ((k8.set_ 0 (.int .i64 0)).set_ 1 (.int .i64 0)).alloc (.cells #[.int .i64 s.head, .slice A n c, .int .i64 s.lane.lo, .int .i64 s.lane.hi, .int .i64 s.bend, .slice O no co] 104)
      have b2y := (b1.setCell (p := ⟨w.heap.size + 1, 0, none⟩) (by dsimp only; omega) (.int .i64 0)).setCell (p := ⟨w.heap.size + 1, 1, none⟩) (by dsimp only; omega) (.int .i64 0)
      have b2z := b2y.alloc b2y.size (.cells #[.int .i64 s.head, .slice A n c, .int .i64 s.lane.lo, .int .i64 s.lane.hi, .int .i64 s.bend, .slice O no co] 104)
      obtain ⟨wz, hwz⟩ : ∃ x, x = ((w1.setCell ⟨w.heap.size + 1, 0, none⟩ (.int .i64 0)).setCell ⟨w.heap.size + 1, 1, none⟩ (.int .i64 0)).alloc (.cells #[.int .i64 s.head, .slice A n c, .int .i64 s.lane.lo, .int .i64 s.lane.hi, .int .i64 s.bend, .slice O no co] 104) := ⟨_, rfl⟩
      rw [← hwz] at k8z b2z
      clear b2y k8 b1
      go_wp2
      rw [← hwz]
      clear hwz c8 f8 l8
      obtain ⟨c8, f8, l8⟩ := k8z.rules
      exact bodyPost_ret (v := .tuple #[.agg #[.int .i64 0, .int .i64 0], .int .i64 (errW s bs l v)]) (by simp [results, Tryz.results11, go_sem, c8]) rfl ⟨rfl, b2z⟩
    · replace h2 := Lib.hid h2
      go_enter Tryz.func11, Tryz.ntmps11
      go_wp2_with fail
      refine (watched_any s A O D V n c no co nd cd nv cv bs l v _ ((hss.alloc _).alloc _) ((hs.alloc _).alloc _) ((hd.alloc _).alloc _) ((hvv.alloc _).alloc _)).mono ?_
      rintro e w1 ⟨r1, r2, hb1⟩
      obtain rfl := r2 h2.out
      clear r1 r2
      have k8 := (Blk.new _ _ _).below hb1
      rw [World.size_alloc] at k8
      have b1 := (((Below.refl w.heap.size w).alloc (Nat.le_refl _) _).alloc (by simp) _).trans (hb1.mono (by simp; omega))
      clear hb1 hss hs hd hvv
      obtain ⟨c8, f8, l8⟩ := k8.rules
      have k8z := ((k8.set_ 0 (.int .i64 0)).set_ 1 (.int .i64 0)).alloc (.cells #[.int .i64 0, .slice none 0 0, .int .i64 0, .int .i64 0, .int .i64 0, .slice none 0 0] 104)
      have b2y := (b1.setCell (p := ⟨w.heap.size + 1, 0, none⟩) (by dsimp only; omega) (.int .i64 0)).setCell (p := ⟨w.heap.size + 1, 1, none⟩) (by dsimp only; omega) (.int .i64 0)
      have b2z := b2y.alloc b2y.size (.cells #[.int .i64 0, .slice none 0 0, .int .i64 0, .int .i64 0, .int .i64 0, .slice none 0 0] 104)
      obtain ⟨wz, hwz⟩ : ∃ x, x = ((w1.setCell ⟨w.heap.size + 1, 0, none⟩ (.int .i64 0)).setCell ⟨w.heap.size + 1, 1, none⟩ (.int .i64 0)).alloc (.cells #[.int .i64 0, .slice none 0 0, .int .i64 0, .int .i64 0, .int .i64 0, .slice none 0 0] 104) := ⟨_, rfl⟩
      rw [← hwz] at k8z b2z
      clear b2y k8 b1
      go_wp2
      rw [← hwz]
      clear hwz c8 f8 l8
      obtain ⟨c8, f8, l8⟩ := k8z.rules
      exact bodyPost_ret (v := .tuple #[.agg #[.int .i64 0, .int .i64 0], .int .i64 (errW s bs l v)]) (by simp [results, Tryz.results11, go_sem, c8]) rfl ⟨rfl, b2z⟩
set_option maxRecDepth 100000 in
set_option maxHeartbeats 1000000 in
theorem Keeps_any (s : Strm) (A O D V : Option Addr) (n c no co nd cd nv cv : Nat) (bs : List Bnd) (l : List Wat) (v : List Int) (w : World) (hss : SlAt w 0 5 Sec.cells A n c s.secs) (hs : SlAt w 0 2 Bnd.cells O no co bs) (hd : SlAt w 0 4 Wat.cells D nd cd l) (hvv : SlAt w 0 1 ivs V nv cv v) :
    Calls Tryz.prog 13 #[.agg #[.int .i64 s.head, .slice A n c, .int .i64 s.lane.lo, .int .i64 s.lane.hi, .int .i64 s.bend], .slice O no co, .slice D nd cd, .slice V nv cv] w fun e w' =>
      e = .returned (.tuple #[.bool (keepsR s bs l v).1, .int .i64 (keepsR s bs l v).2]) ∧ Below w.heap.size w w' := by
  by_cases h1 : errW s bs l v = 0
  · obtain ⟨o1, o2, o3, o4, o5, o6⟩ := errW_zero h1
    have hv : keepsR s bs l v = (keepsS s bs l v, 0) := by simp [keepsR, h1]
    rw [hv]
    have hno : no = n := by have := okOffs_len o2; have := hs.len; have := hss.len; omega
    subst hno
    replace h1 := Lib.hid h1
    replace o6 := Lib.hid o6
    have hst := fun w' hb => keeps_any s bs l v A O D V no c co nd cd nv cv w' o1 o2 o3 o4 o5 (hss.below (w' := w') hb) (hs.below hb) (hd.below hb) (hvv.below hb)
    clear hv
    dsimp only
    generalize keepsS s bs l v = p at *
    replace hst := Lib.hid hst
    clear o1 o2 o3 o4 o5
    go_enter Tryz.func13, Tryz.ntmps13
    go_wp2_with fail
    refine (watched_any s A O D V no c no co nd cd nv cv bs l v _ (hss.alloc _) (hs.alloc _) (hd.alloc _) (hvv.alloc _)).mono ?_
    rintro e w1 ⟨r1, r2, hb1⟩
    rw [h1.out] at r1
    obtain rfl := r1 o6.out
    clear r1 r2
    have b1 := ((Below.refl w.heap.size w).alloc (Nat.le_refl _) _).trans (hb1.mono (by simp))
    have b1a := b1.alloc b1.size (.cells #[.int .i64 s.head, .slice A no c, .int .i64 s.lane.lo, .int .i64 s.lane.hi, .int .i64 s.bend, .slice O no co] 104)
    go_wp2_with fail
    refine (hst.out _ b1a).mono ?_
    rintro e w2 ⟨rfl, hb2⟩
    replace b1a := b1a.trans (hb2.mono b1a.size)
    go_wp2
    go_ret2
    exact ⟨rfl, b1a⟩
  · have hv : keepsR s bs l v = (false, errW s bs l v) := by simp [keepsR, h1]
    rw [hv]
    dsimp only
    have h1' : (errW s bs l v != 0) = true := by rw [bne_iff_ne]; exact h1
    replace h1 := Lib.hid h1
    clear hv
    by_cases h2 : errB s bs = 0
    · replace h2 := Lib.hid h2
      go_enter Tryz.func13, Tryz.ntmps13
      go_wp2_with fail
      refine (watched_any s A O D V n c no co nd cd nv cv bs l v _ (hss.alloc _) (hs.alloc _) (hd.alloc _) (hvv.alloc _)).mono ?_
      rintro e w1 ⟨r1, r2, hb1⟩
      obtain rfl := r1 h2.out
      clear r1 r2
      have b1 := ((Below.refl w.heap.size w).alloc (Nat.le_refl _) _).trans (hb1.mono (by simp))
      go_wp2
      go_ret2
      exact ⟨rfl, b1.alloc b1.size _⟩
    · replace h2 := Lib.hid h2
      go_enter Tryz.func13, Tryz.ntmps13
      go_wp2_with fail
      refine (watched_any s A O D V n c no co nd cd nv cv bs l v _ (hss.alloc _) (hs.alloc _) (hd.alloc _) (hvv.alloc _)).mono ?_
      rintro e w1 ⟨r1, r2, hb1⟩
      obtain rfl := r2 h2.out
      clear r1 r2
      have b1 := ((Below.refl w.heap.size w).alloc (Nat.le_refl _) _).trans (hb1.mono (by simp))
      go_wp2
      go_ret2
      exact ⟨rfl, b1.alloc b1.size _⟩
end Go.Proofs.YtjiaepphnddpoaaGreat
