/-
  Walks, seventh part: the bounds step by step, and in which steps a streamer may be beyond its limits.
  Walks, eighth part: strain, Watch, Keeps.
-/
import Derived.Test.YthjdjpcomocffaaGreatW5
import Derived.Test.YthjdjpcomocffaaGreatBase
import Derived.BigRegionIn
namespace Go.Proofs.YthjdjpcomocffaaGreat
open Go.RowKit Go.Shelf
attribute [local go_sem] Oper.semAt_some

theorem ediv_mono {a b : Int} (h : a ≤ b) : a / 64 ≤ b / 64 := Int.ediv_le_ediv (by omega) h
theorem eased_mono {s : Strm} {x : Sec} (hh : headOk s) (hx : okSec x = true) {o1 o2 b1 b2 d1 d2 : Int} (ho : o1 ≤ o2) (hb : b1 ≤ b2) (hd : d1 ≤ d2) : eased s x o1 b1 d1 ≤ eased s x o2 b2 d2 := by
  obtain ⟨k0, k1, k2, k3, k4, k5, k6, k7, k8, k9⟩ := of_decide_eq_true hx
  obtain ⟨g0, g1, g2, g3, g4, g5, g6, g7, g8⟩ := hh
  have m1 : (64 - x.fol) * o1 ≤ (64 - x.fol) * o2 := Int.mul_le_mul_of_nonneg_left ho (by omega)
  have m2 : x.fol * b1 ≤ x.fol * b2 := Int.mul_le_mul_of_nonneg_left hb k2
  have m3 : ((64 - x.fol) * o1 + x.fol * b1) / 64 ≤ ((64 - x.fol) * o2 + x.fol * b2) / 64 := ediv_mono (by omega)
  simp only [eased]
  generalize ((64 - x.fol) * o1 + x.fol * b1) / 64 = q1 at *
  generalize ((64 - x.fol) * o2 + x.fol * b2) / 64 = q2 at *
  repeat' split
  all_goals omega
theorem eased_in (s : Strm) (x : Sec) (o b d : Int) : -16384 ≤ eased s x o b d ∧ eased s x o b d ≤ 16384 := by
  simp only [eased]
  omega
theorem encL_ok {s : Strm} {l : List Bnd} {d : Bnd} (ho : okStrm s = true) (hl : okOffs s l = true) (hd : okBnd 100 d = true) : okOffs s (encL s l d) = true := by
  have hlen := okOffs_len hl
  have hall := okOffs_all hl
  obtain ⟨d1, d2, d3⟩ := of_decide_eq_true (p := -100 ≤ d.lo ∧ d.lo ≤ d.hi ∧ d.hi ≤ 100) hd
  unfold okOffs
  rw [Bool.and_eq_true]
  constructor
  · rw [decide_eq_true_eq, encL, eachL_length, hlen]
  · rw [List.all_eq_true]
    intro y hy
    obtain ⟨j, hj⟩ := List.mem_iff_getElem?.1 hy
    have hjl : j < l.length := by have := (List.getElem?_eq_some_iff.1 hj).1; simpa [encL, eachL_length] using this
    rw [encL, eachL_get _ _ _ hjl] at hj
    injection hj with hj
    subst hj
    obtain ⟨_, p2, _⟩ := okB_of hall (okB_still (ok_head ho)) j
    obtain ⟨_, p5, _⟩ := okB_prev hall (okB_still (ok_head ho)) j
    have hx := ok_sec ho (i := j) (by omega)
    refine decide_eq_true ⟨(eased_in _ _ _ _ _).1, eased_mono (ok_head ho) hx p2 p5 d2, (eased_in _ _ _ _ _).2⟩
theorem okWat_get {l : List Wat} (h : l.all okWat = true) (k : Nat) : okBnd 100 (l.getD k wat0).acr = true ∧ okBnd 50 (l.getD k wat0).alo = true := by
  rw [List.getD_eq_getElem?_getD]
  by_cases hi : k < l.length
  · rw [List.getElem?_eq_getElem hi]
    have := List.all_eq_true.1 h _ (List.getElem_mem hi)
    simpa [okWat] using this
  · rw [List.getElem?_eq_none (by omega)]
    constructor <;> decide
theorem encAt_ok {s : Strm} {bs : List Bnd} {l : List Wat} (ho : okStrm s = true) (hb : okOffs s bs = true) (hl : l.all okWat = true) : ∀ k, okOffs s (encAt s bs l k) = true
  | 0 => hb
  | k + 1 => encL_ok ho (encAt_ok ho hb hl k) (okWat_get hl k).1
theorem encAt_len {s : Strm} {bs : List Bnd} {l : List Wat} {n : Nat} (hb : bs.length = n) : ∀ k, (encAt s bs l k).length = n
  | 0 => hb
  | k + 1 => by rw [encAt, encL, eachL_length]; exact encAt_len hb k

/-- What steps leans on: the towed streamer and the waters, boxed. -/
def StepsL (s : Strm) (bs : List Bnd) (l : List Wat) (A O D : Option Addr) (n c co nd cd gt gl : Nat) (W : World) : Prop :=
  Blk W gt 85 #[.int .i64 s.head, .slice A n c, .int .i64 s.lane.lo, .int .i64 s.lane.hi, .int .i64 s.bend, .slice O n co] ∧ Blk W gl 47 #[.slice D nd cd] ∧
  SlAt W 0 5 Sec.cells A n c s.secs ∧ SlAt W 0 2 Bnd.cells O n co bs ∧ SlAt W 0 4 Wat.cells D nd cd l
theorem StepsL.calm {s : Strm} {bs : List Bnd} {l : List Wat} {A O D : Option Addr} {n c co nd cd gt gl B : Nat} {W W' : World} (h : StepsL s bs l A O D n c co nd cd gt gl W) (hc : Calm B W W') : StepsL s bs l A O D n c co nd cd gt gl W' :=
  ⟨calm_blk hc h.1, calm_blk hc h.2.1, calm_sl hc h.2.2.1, calm_sl hc h.2.2.2.1, calm_sl hc h.2.2.2.2⟩
theorem StepsL.below {s : Strm} {bs : List Bnd} {l : List Wat} {A O D : Option Addr} {n c co nd cd gt gl : Nat} {W W' : World} (h : StepsL s bs l A O D n c co nd cd gt gl W) (hc : Below W.heap.size W W') : StepsL s bs l A O D n c co nd cd gt gl W' :=
  h.calm (calm_of_below hc (Nat.le_refl _))
/-- What steps hands on in a round: the index, and the bounds after this step. -/
def StepsG (s : Strm) (bs : List Bnd) (l : List Wat) (n gl k : Nat) (vs : Array Value) (W : World) : Prop :=
  ∃ O co, vs = #[.int .i64 k, .slice O n co] ∧ SlAt W (gl + 1) 2 Bnd.cells O n co (encAt s bs l (k + 1))
theorem wat_getD {l : List Wat} {k : Nat} {x : Wat} (h : l[k]? = some x) : l.getD k wat0 = x := by rw [List.getD_eq_getElem?_getD, h]; rfl

set_option maxRecDepth 100000 in
set_option maxHeartbeats 2000000 in
theorem steps1_iter (m : Nat) (s : Strm) (bs : List Bnd) (l : List Wat) (A O D : Option Addr) (n c co nd cd gt gl : Nat) (ho : okStrm s = true) (hb0 : okOffs s bs = true) (hl0 : l.all okWat = true) :
    IterK Fence.wide m Tryz.prog 67 #[.pointer (some ⟨gt, 0, none⟩), .pointer (some ⟨gl, 0, none⟩)] nd (StepsG s bs l n gl) (StepsL s bs l A O D n c co nd cd gt gl) := by
  intro lr J Jx W hJ hJx hY hL h0
  have hnl := Lib.hid hL.2.2.2.2.len
  have hnd := hL.2.2.2.2.le
  replace ho := Lib.hid ho
  replace hb0 := Lib.hid hb0
  replace hl0 := Lib.hid hl0
  refine callsIn_of_wp Tryz.func67 rfl trivial ?_ rfl
  simp only [Tryz.ntmps67, List.size_toArray, List.length_cons, List.length_nil, Nat.reduceAdd, Nat.reduceSub, Array.replicate_succ, Array.replicate_zero, List.push_toArray, List.append_toArray, List.nil_append, List.cons_append]
  obtain ⟨c1, f1, l1⟩ := hL.1.rules
  obtain ⟨c2, f2, l2⟩ := hL.2.1.rules
  gi_wp2_with fail
  clear c1 f1 l1 c2 f2 l2
  gi_loopw [4, 11] (fun b i wr => ∃ k O' co', i = .int .i64 (k : Nat) ∧ k ≤ nd ∧ b = .slice O' n co' ∧ SlAt wr 0 2 Bnd.cells O' n co' (encAt s bs l k) ∧ StepsL s bs l A O D n c co nd cd gt gl wr ∧ W.heap.size ≤ wr.heap.size ∧ J k wr) (fun b i wr => nd - (intOf i).toNat)
  case atStart => exact ⟨0, O, co, rfl, Nat.zero_le _, rfl, hL.2.2.2.1, hL, Nat.le_refl _, h0⟩
  case round =>
    obtain ⟨k, O', co', rfl, hk, rfl, hs, hLr, hWr, hJr⟩ := hrel
    by_cases hlt : k < nd
    · obtain ⟨x, hx⟩ := some_of_lt hnl.out hlt
      obtain ⟨b, off, hA, -, hbl, e0, e1, e2, e3⟩ := hLr.2.2.2.2.wat hx
      have hxk := Lib.hid (wat_getD hx)
      obtain ⟨c1, f1, l1⟩ := hLr.1.rules
      obtain ⟨c2, f2, l2⟩ := hLr.2.1.rules
      replace hx := Lib.hid hx
      subst hA
      gi_wp2_with fail
      refine ⟨trivial, fun h => (by cases h), ?_⟩
      have hbw : Below wr.heap.size wr (wr.alloc (.cells #[.int .i64 x.acr.lo, .int .i64 x.acr.hi, .int .i64 x.alo.lo, .int .i64 x.alo.hi] 46)) := (Below.refl _ _).alloc (Nat.le_refl _) _
      have hax := Lib.hid (hxk.out ▸ (okWat_get hl0.out k).1)
      refine (callsIn_wide.2 (enclosed_any s A O' n c n co' 0 0 (encAt s bs l k) x.acr _ ho.out (encAt_ok ho.out hb0.out hl0.out k) hax.out (hLr.2.2.1.alloc _) (hs.alloc _))).mono ?_
      rintro e w2 ⟨O2, co2, rfl, hown, hr, hb2⟩
      have b2 := hbw.trans (hb2.mono hbw.size)
      have hs2 : SlAt w2 W.heap.size 2 Bnd.cells O2 n co2 (encAt s bs l (k + 1)) := by
        have : encAt s bs l (k + 1) = encL s (encAt s bs l k) x.acr := by rw [encAt, hxk.out]
        rw [this]; exact hr.mono (by simp; omega)
      have hL2 := hLr.below b2
      clear hown hr c1 f1 l1 c2 f2 l2 e0 e1 e2 e3 hb2 hbw hs
      obtain ⟨fn, tmps, assign, body, hy, hR⟩ := hY k #[.int .i64 k, .slice O2 n co2] w2 hlt (hJ _ _ _ hJr (calm_of_below b2 hWr)) hL2 ⟨O2, co2, rfl, hs2.mono hL.2.1.lt⟩
      clear hY
      gi_wp2_with fail
      refine ⟨fun h => (by cases h), hR.mono ?_⟩
      rintro e W3 (⟨rfl, hJ3, hL3, hn3⟩ | ⟨rfl, hJx3, -⟩)
      · gi_wp2
        go_roundw
        case rel => exact ⟨k + 1, O2, co2, by go_num, by omega, rfl, (nc_sl hn3 hs2).mono (Nat.zero_le _), hL3, Nat.le_trans hWr (Nat.le_trans b2.size hn3.1), hJ3⟩
        case measure => simp [intOf]; omega
      · gi_wp2
        refine bodyPost_ret (results_none rfl _ _ _) rfl ?_
        exact ⟨⟨_, rfl⟩, .inr hJx3⟩
    · obtain rfl : k = nd := by omega
      gi_wp2
      go_end0
      exact ⟨⟨_, rfl⟩, .inl hJr⟩
theorem eg_steps1 : Enters Tryz.prog 67 := enters_of Tryz.func67 (by kernel_rfl) rfl
set_option maxRecDepth 100000 in
set_option maxHeartbeats 1000000 in
theorem steps_any (s : Strm) (A O D : Option Addr) (n c co no nd cd : Nat) (w : World) :
    Calls Tryz.prog 36 #[.agg #[.int .i64 s.head, .slice A n c, .int .i64 s.lane.lo, .int .i64 s.lane.hi, .int .i64 s.bend, .slice O no co], .slice D nd cd] w fun e w' =>
      e = .returned (.func (.func 67) #[] #[.pointer (some ⟨w.heap.size, 0, none⟩), .pointer (some ⟨w.heap.size + 1, 0, none⟩)]) ∧
      w' = (w.alloc (.cells #[.int .i64 s.head, .slice A n c, .int .i64 s.lane.lo, .int .i64 s.lane.hi, .int .i64 s.bend, .slice O no co] 85)).alloc (.cells #[.slice D nd cd] 47) := by
  go_enter Tryz.func36, Tryz.ntmps36
  go_wp2
  go_ret
  exact ⟨rfl, rfl⟩

end Go.Proofs.YthjdjpcomocffaaGreat
namespace Go.Proofs.YthjdjpcomocffaaGreat
set_option linter.unusedSimpArgs false
set_option linter.unusedVariables false
open Go.RowKit Go.Shelf
attribute [local go_sem] Oper.semAt_some

theorem fstN_step (p : Nat → Bool) (k : Nat) : fstN p (k + 1) = if 0 ≤ fstN p k then fstN p k else if p k = true then (k : Int) else -1 := rfl
theorem fstN_bd (p : Nat → Bool) : ∀ k, -1 ≤ fstN p k ∧ fstN p k < k
  | 0 => by simp [fstN]
  | k + 1 => by
    have := fstN_bd p k
    rw [fstN_step]
    repeat' split
    all_goals omega
/-! strain -/
def StrI (s : Strm) (A O D V : Option Addr) (n c co nd cd nv cv : Nat) (w : World) (xb xp : Int) (W : World) : Prop :=
  Blk W w.heap.size 85 #[.int .i64 s.head, .slice A n c, .int .i64 s.lane.lo, .int .i64 s.lane.hi, .int .i64 s.bend, .slice O n co] ∧ Blk W (w.heap.size + 1) 47 #[.slice D nd cd] ∧
  Blk W (w.heap.size + 1 + 1) 33 #[.slice V nv cv] ∧ Blk W (w.heap.size + 1 + 1 + 1) 42 #[.int .i64 0, .int .i64 0] ∧
  Blk W (w.heap.size + 1 + 1 + 1 + 1) 42 #[.int .i64 xb, .int .i64 xp] ∧ Below w.heap.size w W
section
variable {s : Strm} {A O D V : Option Addr} {n c co nd cd nv cv : Nat} {w W W' : World} {xb xp : Int}
theorem StrI.calm {B : Nat} (h : StrI s A O D V n c co nd cd nv cv w xb xp W) (hc : Calm B W W') (hB : w.heap.size ≤ B) : StrI s A O D V n c co nd cd nv cv w xb xp W' :=
  ⟨calm_blk hc h.1, calm_blk hc h.2.1, calm_blk hc h.2.2.1, calm_blk hc h.2.2.2.1, calm_blk hc h.2.2.2.2.1, calm_below hc h.2.2.2.2.2 hB⟩
theorem StrI.below (h : StrI s A O D V n c co nd cd nv cv w xb xp W) (hb : Below W.heap.size W W') : StrI s A O D V n c co nd cd nv cv w xb xp W' := h.calm (calm_of_below hb (Nat.le_refl _)) h.2.2.2.2.2.size
theorem StrI.set0 (h : StrI s A O D V n c co nd cd nv cv w xb xp W) (x : Int) : StrI s A O D V n c co nd cd nv cv w x xp (W.setCell ⟨w.heap.size + 1 + 1 + 1 + 1, 0, none⟩ (.int .i64 x)) :=
  ⟨h.1.far (by dsimp only; omega) _, h.2.1.far (by dsimp only; omega) _, h.2.2.1.far (by dsimp only; omega) _, h.2.2.2.1.far (by dsimp only; omega) _, h.2.2.2.2.1.set_ 0 _, h.2.2.2.2.2.setCell (by dsimp only; omega) _⟩
theorem StrI.set1 (h : StrI s A O D V n c co nd cd nv cv w xb xp W) (x : Int) : StrI s A O D V n c co nd cd nv cv w xb x (W.setCell ⟨w.heap.size + 1 + 1 + 1 + 1, 1, none⟩ (.int .i64 x)) :=
  ⟨h.1.far (by dsimp only; omega) _, h.2.1.far (by dsimp only; omega) _, h.2.2.1.far (by dsimp only; omega) _, h.2.2.2.1.far (by dsimp only; omega) _, h.2.2.2.2.1.set_ 1 _, h.2.2.2.2.2.setCell (by dsimp only; omega) _⟩
theorem StrI.drew (h : StrI s A O D V n c co nd cd nv cv w xb xp W) : StrI s A O D V n c co nd cd nv cv w xb xp W.drew := ⟨h.1, h.2.1, h.2.2.1, h.2.2.2.1, h.2.2.2.2.1, h.2.2.2.2.2.drew⟩
theorem StrI.drewN (h : StrI s A O D V n c co nd cd nv cv w xb xp W) (q : Nat) : StrI s A O D V n c co nd cd nv cv w xb xp (W.drewN q) := h.calm (B := w.heap.size) (calm_of_below (below_drewN (Below.refl _ _) q) h.2.2.2.2.2.size) (Nat.le_refl _)
theorem StepsL.drew {bs : List Bnd} {l : List Wat} {gt gl : Nat} (h : StepsL s bs l A O D n c co nd cd gt gl W) : StepsL s bs l A O D n c co nd cd gt gl W.drew := h
theorem StepsL.base {bs : List Bnd} {l : List Wat} {gt gl : Nat} (hb : Below w.heap.size w W) (hss : SlAt w 0 5 Sec.cells A n c s.secs) (hs : SlAt w 0 2 Bnd.cells O n co bs) (hd : SlAt w 0 4 Wat.cells D nd cd l)
    (h1 : Blk W gt 85 #[.int .i64 s.head, .slice A n c, .int .i64 s.lane.lo, .int .i64 s.lane.hi, .int .i64 s.bend, .slice O n co]) (h2 : Blk W gl 47 #[.slice D nd cd]) : StepsL s bs l A O D n c co nd cd gt gl W :=
  have e : ∀ p : Addr, 0 ≤ p.block → p.block < w.heap.size → W.cell? p = w.cell? p := fun p _ hp => hb.cell hp
  ⟨h1, h2, hss.keep hb.size e, hs.keep hb.size e, hd.keep hb.size e⟩
end
set_option maxRecDepth 100000 in
set_option maxHeartbeats 1500000 in
theorem strain_any (s : Strm) (bs : List Bnd) (l : List Wat) (v : List Int) (A O D V : Option Addr) (n c co nd cd nv cv : Nat) (w : World) (ho : okStrm s = true) (hb0 : okOffs s bs = true) (hl0 : l.all okWat = true) (hv : okSpeeds v = true) (hvl : v.length = l.length)
    (hss : SlAt w 0 5 Sec.cells A n c s.secs) (hs : SlAt w 0 2 Bnd.cells O n co bs) (hd : SlAt w 0 4 Wat.cells D nd cd l) (hvv : SlAt w 0 1 ivs V nv cv v) :
    Calls Tryz.prog 33 #[.agg #[.int .i64 s.head, .slice A n c, .int .i64 s.lane.lo, .int .i64 s.lane.hi, .int .i64 s.bend, .slice O n co], .slice D nd cd, .slice V nv cv] w fun e w' =>
      e = .returned (.agg #[.int .i64 (strainS s bs l v nd).1, .int .i64 (strainS s bs l v nd).2]) ∧ Below w.heap.size w w' := by
  refine (callsIn_wide (n := 9)).1 ?_
  refine callsIn_of_wp_marks Tryz.func33 rfl trivial ?_ rfl
  simp only [Tryz.ntmps33, List.size_toArray, List.length_cons, List.length_nil, Nat.reduceAdd, Nat.reduceSub, Array.replicate_succ, Array.replicate_zero, List.push_toArray, List.append_toArray, List.nil_append, List.cons_append]
  gi_wp2_with fail
  refine ⟨trivial, ?_⟩
  refine (callsIn_wide.2 (steps_any s A O D n c co n nd cd _)).mono ?_
  rintro e w1 ⟨rfl, rfl⟩
  gi_wp2_with fail
  obtain ⟨W0, hW0⟩ : ∃ W0, W0 = ((((((w.alloc (.cells #[.int .i64 s.head, .slice A n c, .int .i64 s.lane.lo, .int .i64 s.lane.hi, .int .i64 s.bend, .slice O n co] 85)).alloc (.cells #[.slice D nd cd] 47)).alloc (.cells #[.slice V nv cv] 33)).alloc (.cells #[.int .i64 0, .int .i64 0] 42)).alloc (.cells #[.int .i64 (-1), .int .i64 (-1)] 42)).alloc (.cells #[.int .i64 s.head, .slice A n c, .int .i64 s.lane.lo, .int .i64 s.lane.hi, .int .i64 s.bend, .slice O n co] 85)).alloc (.cells #[.slice D nd cd] 47) := ⟨_, rfl⟩
  rw [← hW0]
  have hI0 : StrI s A O D V n c co nd cd nv cv w (-1) (-1) W0 := by
    rw [hW0]
    exact ⟨((((((Blk.newAt rfl).alloc _).alloc _).alloc _).alloc _).alloc _).alloc _, (((((Blk.newAt (by simp)).alloc _).alloc _).alloc _).alloc _).alloc _, ((((Blk.newAt (by simp)).alloc _).alloc _).alloc _).alloc _, (((Blk.newAt (by simp)).alloc _).alloc _).alloc _,
      ((Blk.newAt (by simp)).alloc _).alloc _, by repeat (first | exact Below.refl _ _ | (refine Below.alloc ?_ (by simp <;> omega) _))⟩
  have kt : Blk W0 (w.heap.size + 1 + 1 + 1 + 1 + 1) 85 #[.int .i64 s.head, .slice A n c, .int .i64 s.lane.lo, .int .i64 s.lane.hi, .int .i64 s.bend, .slice O n co] := by rw [hW0]; exact (Blk.newAt (by simp)).alloc _
  have kl : Blk W0 (w.heap.size + 1 + 1 + 1 + 1 + 1 + 1) 47 #[.slice D nd cd] := by rw [hW0]; exact Blk.newAt (by simp)
  have hLs : StepsL s bs l A O D n c co nd cd (w.heap.size + 1 + 1 + 1 + 1 + 1) (w.heap.size + 1 + 1 + 1 + 1 + 1 + 1) W0 := StepsL.base hI0.2.2.2.2.2 hss hs hd kt kl
  have hsz : W0.heap.size = w.heap.size + 7 := by rw [hW0]; simp
  clear hW0 kt kl
  refine wp_range rfl (by decide) (gf := 67) (lb := #[.pointer (some ⟨w.heap.size + 1 + 1 + 1 + 1 + 1, 0, none⟩), .pointer (some ⟨w.heap.size + 1 + 1 + 1 + 1 + 1 + 1, 0, none⟩)]) rfl trivial eg_steps1
    (steps1_iter _ s bs l A O D n c co nd cd _ _ ho hb0 hl0) (fun k vs W ⟨O', co', e, _⟩ => by rw [e]; rfl)
    (fun k W => StrI s A O D V n c co nd cd nv cv w (fstN (bentN s bs l) k) (fstN (pulledN s bs l v) k) W)
    (fun _ _ => False) (fun k A B h hc => h.calm hc (by omega)) (fun _ _ _ h _ => h) (fun A B h hc => h.calm hc) hI0 hLs ?round ?done ?stop
  case stop => exact fun _ _ _ _ h _ => h.elim
  case done =>
    rintro D0 W hD ⟨-, -, -, k6, k7, hb⟩ hK
    obtain ⟨c6, f6, l6⟩ := k6.rules
    obtain ⟨c7, f7, l7⟩ := k7.rules
    have k7' := k7.far (p := ⟨w.heap.size + 1 + 1 + 1, 0, none⟩) (by dsimp only; omega) (.int .i64 (fstN (bentN s bs l) nd))
    have k6' := k6.set_ 0 (.int .i64 (fstN (bentN s bs l) nd))
    have k6'' := k6'.set_ 1 (.int .i64 (fstN (pulledN s bs l v) nd))
    have hK' : (W.setCell ⟨w.heap.size + 1 + 1 + 1, 0, none⟩ (.int .i64 (fstN (bentN s bs l) nd))).heap[D0]? = _ := (Below.heap_setCell _ _ _ _ (by dsimp only; omega)).trans hK
    have hK'' : ((W.setCell ⟨w.heap.size + 1 + 1 + 1, 0, none⟩ (.int .i64 (fstN (bentN s bs l) nd))).setCell ⟨w.heap.size + 1 + 1 + 1, 1, none⟩ (.int .i64 (fstN (pulledN s bs l v) nd))).heap[D0]? = _ := (Below.heap_setCell _ _ _ _ (by dsimp only; omega)).trans hK'
    have hbe := ((hb.setCell (p := ⟨w.heap.size + 1 + 1 + 1, 0, none⟩) (by dsimp only; omega) (.int .i64 (fstN (bentN s bs l) nd))).setCell (p := ⟨w.heap.size + 1 + 1 + 1, 1, none⟩) (by dsimp only; omega) (.int .i64 (fstN (pulledN s bs l v) nd)))
    gi_wp2_with fail
    generalize ((W.setCell ⟨w.heap.size + 1 + 1 + 1, 0, none⟩ (.int .i64 (fstN (bentN s bs l) nd))).setCell ⟨w.heap.size + 1 + 1 + 1, 1, none⟩ (.int .i64 (fstN (pulledN s bs l v) nd))) = We at *
    refine ⟨by simp, .inl ⟨_, _, rfl, run_takeDeferred hK'', ?_⟩⟩
    have hpu : Below w.heap.size w (We.putObj D0 (.deferred none)) := calm_below (calm_put (B := w.heap.size) _ hK'' rfl (by omega)) hbe (Nat.le_refl _)
    have k6e := calm_blk (calm_put (B := w.heap.size) (.deferred none) hK'' rfl (by omega)) k6''
    obtain ⟨c6, f6, l6⟩ := k6e.rules
    refine ⟨.agg #[.int .i64 (strainS s bs l v nd).1, .int .i64 (strainS s bs l v nd).2], ?_, rfl, hpu⟩
    simp [results, Tryz.results33, go_sem, c6, strainS]
  case round =>
    rintro lr k vs W hW hk hI hL ⟨O', co', rfl, hG⟩
    gi_wp2_with fail
    refine ⟨Below.refl _ _, fun W2 hc => ?_⟩
    replace hI := hI.calm hc (by omega)
    replace hL := hL.calm hc
    replace hG := calm_sl hc hG
    clear hc
    have hxb := (fstN_bd (bentN s bs l) k).1
    have hxp := (fstN_bd (pulledN s bs l v) k).1
    have hsb := Lib.hid (fstN_step (bentN s bs l) k)
    have hsp := Lib.hid (fstN_step (pulledN s bs l v) k)
    have hnd := hL.2.2.2.2.len
    obtain ⟨x, hx⟩ := some_of_lt hnd hk
    obtain ⟨y, hy⟩ := some_of_lt (show v.length = nd by omega) hk
    have hxx := wat_getD hx
    have hyy : v.getD k 0 = y := by rw [List.getD_eq_getElem?_getD, hy]; rfl
    have hbn : Hid (bentN s bs l k = bentS s (encAt s bs l (k + 1))) := rfl
    have hpn : Hid (pulledN s bs l v k = pulledS s (encAt s bs l (k + 1)) y x.alo) := by show pulledN s bs l v k = _; rw [pulledN, hyy, hxx]
    have hxk := Lib.hid (hxx ▸ (okWat_get hl0 k).2)
    have hyk := Lib.hid (List.all_eq_true.1 hv y (List.mem_of_getElem? hy))
    have hek := Lib.hid (encAt_ok ho hb0 hl0 (k + 1))
    have hk0 : (0 : Int) ≤ (k : Int) := by omega
    have hk1 : (k : Int) < (nd : Int) := by omega
    have hk2 : (k : Int) < (nv : Int) := by have := hvv.len; omega
    generalize fstN (bentN s bs l) k = xb at *
    generalize fstN (pulledN s bs l v) k = xp at *
    replace ho := Lib.hid ho
    replace hb0 := Lib.hid hb0
    replace hl0 := Lib.hid hl0
    replace hv := Lib.hid hv
    replace hx := Lib.hid hx
    replace hy := Lib.hid hy
    clear hxx hyy hI0 hLs
    replace hnd := Lib.hid hnd
    replace hvl := Lib.hid hvl
    replace hsz := Lib.hid hsz
    by_cases hx1 : xb < 0
    · obtain ⟨c3, f3, l3⟩ := hI.1.rules
      obtain ⟨c7, f7, l7⟩ := hI.2.2.2.2.1.rules
      gi_wp2_with fail
      refine ⟨trivial, ?_⟩
      have hcb := bent_any s A O' n c n co' _ (encAt s bs l (k + 1)) W2 (ok_head ho.out) (okOffs_all hek.out) hG
      obtain ⟨bb, hbb⟩ : ∃ bb, bentS s (encAt s bs l (k + 1)) = bb := ⟨_, rfl⟩
      rw [hbb] at hcb
      refine (CallsIn.inRound lr (callsIn_wide.2 hcb)).mono ?_
      rintro e w5 ⟨rfl, hb5⟩
      clear c3 f3 l3 c7 f7 l7 hcb
      replace hI := hI.below hb5
      replace hL := hL.below hb5
      replace hG := hG.below hb5
      have hn := nc_of_below (B := W0.heap.size) hb5
      cases bb with
      | false =>
        gi_wp2_with fail
        have hBB : fstN (bentN s bs l) (k + 1) = xb := by rw [hsb.out, if_neg (by omega), hbn.out, hbb]; simp; omega
        replace hBB := Lib.hid hBB
        have hn3 := hn
        have hL3 := hL
        have hG3 := hG
        have hI3 := hI
        by_cases hx2 : xp < 0
        · obtain ⟨k3, k4, k5, -, k7, hb⟩ := hI3
          obtain ⟨c3, f3, l3⟩ := k3.rules
          obtain ⟨c4, f4, l4⟩ := k4.rules
          obtain ⟨c5, f5, l5⟩ := k5.rules
          obtain ⟨c7, f7, l7⟩ := k7.rules
          obtain ⟨b1, o1, hA1, -, -, e0⟩ := (hvv.keep hb.size (fun p _ hp => hb.cell hp)).int hy.out
          obtain ⟨b2, o2, hA2, -, -, -, -, e3, e4⟩ := hL3.2.2.2.2.wat hx.out
          subst hA1
          subst hA2
          clear k3 k4 k5 k7 hb
          gi_wp2_with fail
          (refine wpIn_tail_round 16 (by kernel_rfl) (by kernel_rfl) (by kernel_rfl) ?_ ?_; rotate_left 1; simp only [List.take_succ_cons, List.take_zero, List.drop_succ_cons, List.drop_zero]; (iterate 16 still_step); apply still_end; rotate_left 1; (rintro ⟨_, _, h⟩; exact h))
          clear c3 f3 l3 c4 f4 l4 c5 f5 l5 c7 f7 l7 e0 e3 e4
          have hI4 := hI.drew
          have hL4 := hL3.drew
          have hG4 := hG3.drew
          have hn4 := hn3.trans (nc_drew w5)
          generalize w5.drew = W4 at *
          have hcp := pulled_any s A O' n c co' 0 _ (encAt s bs l (k + 1)) y x.alo W4 ho.out hek.out hyk.out hxk.out hL4.2.2.1 hG4
          obtain ⟨pb, hpb⟩ : ∃ pb, pulledS s (encAt s bs l (k + 1)) y x.alo = pb := ⟨_, rfl⟩
          rw [hpb] at hcp
          go_wp2_with fail
          refine hcp.mono ?_
          rintro e w5 ⟨rfl, hb5⟩
          clear hcp
          replace hI4 := hI4.below hb5
          replace hL4 := hL4.below hb5
          replace hn4 := hn4.trans (nc_of_below hb5)
          obtain ⟨c7, f7, l7⟩ := hI4.2.2.2.2.1.rules
          cases pb with
          | false =>
            go_wp2_with fail
            try gi_wp2_with fail
            refine ⟨hn4, ?_, hL4⟩
            rw [hBB.out, show fstN (pulledN s bs l v) (k + 1) = xp by rw [hsp.out, if_neg (by omega), hpn.out, hpb]; simp; omega]
            exact hI4
          | true =>
            go_wp2_with fail
            try gi_wp2_with fail
            refine ⟨hn4.trans (nc_setCell _ _ _ (by have := hsz.out; dsimp only; omega)), ?_, StepsL.base (hI4.set1 _).2.2.2.2.2 hss hs hd (hL4.1.far (by dsimp only; omega) _) (hL4.2.1.far (by dsimp only; omega) _)⟩
            rw [hBB.out, hsp.out, if_neg (by omega), hpn.out, hpb]
            exact hI4.set1 _
        · obtain ⟨c7, f7, l7⟩ := hI3.2.2.2.2.1.rules
          gi_wp2_with fail
          have hx2n : (xp < 0) = False := eq_false (by omega)
          (refine wpIn_quiet_round (by kernel_rfl) (by kernel_rfl) (by kernel_rfl) ?_ ?_; rotate_left 1; (iterate 18 (go_big_quiet_step (fail))); apply quiet_end; rintro _ ⟨nq, rfl⟩; rotate_left 1; (rintro ⟨_, _, h⟩; exact h))
          clear c7 f7 l7
          try gi_wp2_with fail
          refine ⟨hn3.trans (nc_drewN _ _), ?_, hL3⟩
          rw [hBB.out, hsp.out, if_pos (by omega)]
          exact hI3.drewN _
      | true =>
        obtain ⟨c7, f7, l7⟩ := hI.2.2.2.2.1.rules
        gi_wp2_with fail
        clear c7 f7 l7
        have hBB : fstN (bentN s bs l) (k + 1) = k := by rw [hsb.out, if_neg (by omega), hbn.out, hbb]; rfl
        replace hBB := Lib.hid hBB
        have hI' := hI.set0 k
        have hn3 := hn.trans (nc_setCell w5 ⟨w.heap.size + 1 + 1 + 1 + 1, 0, none⟩ (.int .i64 k) (by have := hsz.out; dsimp only; omega))
        have hL3 : StepsL s bs l A O D n c co nd cd _ _ _ := StepsL.base hI'.2.2.2.2.2 hss hs hd (hL.1.far (p := ⟨w.heap.size + 1 + 1 + 1 + 1, 0, none⟩) (by dsimp only; omega) (.int .i64 k)) (hL.2.1.far (by dsimp only; omega) _)
        have hG3 := hG.setCell (p := ⟨w.heap.size + 1 + 1 + 1 + 1, 0, none⟩) (by dsimp only; omega) (.int .i64 k)
        generalize w5.setCell ⟨w.heap.size + 1 + 1 + 1 + 1, 0, none⟩ (.int .i64 k) = W3 at *
        clear hI hL hG hn
        have hI3 := hI'
        by_cases hx2 : xp < 0
        · obtain ⟨k3, k4, k5, -, k7, hb⟩ := hI3
          obtain ⟨c3, f3, l3⟩ := k3.rules
          obtain ⟨c4, f4, l4⟩ := k4.rules
          obtain ⟨c5, f5, l5⟩ := k5.rules
          obtain ⟨c7, f7, l7⟩ := k7.rules
          obtain ⟨b1, o1, hA1, -, -, e0⟩ := (hvv.keep hb.size (fun p _ hp => hb.cell hp)).int hy.out
          obtain ⟨b2, o2, hA2, -, -, -, -, e3, e4⟩ := hL3.2.2.2.2.wat hx.out
          subst hA1
          subst hA2
          clear k3 k4 k5 k7 hb
          gi_wp2_with fail
          (refine wpIn_tail_round 16 (by kernel_rfl) (by kernel_rfl) (by kernel_rfl) ?_ ?_; rotate_left 1; simp only [List.take_succ_cons, List.take_zero, List.drop_succ_cons, List.drop_zero]; (iterate 16 still_step); apply still_end; rotate_left 1; (rintro ⟨_, _, h⟩; exact h))
          clear c3 f3 l3 c4 f4 l4 c5 f5 l5 c7 f7 l7 e0 e3 e4
          have hI4 := hI'.drew
          have hL4 := hL3.drew
          have hG4 := hG3.drew
          have hn4 := hn3.trans (nc_drew W3)
          generalize W3.drew = W4 at *
          have hcp := pulled_any s A O' n c co' 0 _ (encAt s bs l (k + 1)) y x.alo W4 ho.out hek.out hyk.out hxk.out hL4.2.2.1 hG4
          obtain ⟨pb, hpb⟩ : ∃ pb, pulledS s (encAt s bs l (k + 1)) y x.alo = pb := ⟨_, rfl⟩
          rw [hpb] at hcp
          go_wp2_with fail
          refine hcp.mono ?_
          rintro e w5 ⟨rfl, hb5⟩
          clear hcp
          replace hI4 := hI4.below hb5
          replace hL4 := hL4.below hb5
          replace hn4 := hn4.trans (nc_of_below hb5)
          obtain ⟨c7, f7, l7⟩ := hI4.2.2.2.2.1.rules
          cases pb with
          | false =>
            go_wp2_with fail
            try gi_wp2_with fail
            refine ⟨hn4, ?_, hL4⟩
            rw [hBB.out, show fstN (pulledN s bs l v) (k + 1) = xp by rw [hsp.out, if_neg (by omega), hpn.out, hpb]; simp; omega]
            exact hI4
          | true =>
            go_wp2_with fail
            try gi_wp2_with fail
            refine ⟨hn4.trans (nc_setCell _ _ _ (by have := hsz.out; dsimp only; omega)), ?_, StepsL.base (hI4.set1 _).2.2.2.2.2 hss hs hd (hL4.1.far (by dsimp only; omega) _) (hL4.2.1.far (by dsimp only; omega) _)⟩
            rw [hBB.out, hsp.out, if_neg (by omega), hpn.out, hpb]
            exact hI4.set1 _
        · obtain ⟨c7, f7, l7⟩ := hI3.2.2.2.2.1.rules
          gi_wp2_with fail
          have hx2n : (xp < 0) = False := eq_false (by omega)
          (refine wpIn_quiet_round (by kernel_rfl) (by kernel_rfl) (by kernel_rfl) ?_ ?_; rotate_left 1; (iterate 18 (go_big_quiet_step (fail))); apply quiet_end; rintro _ ⟨nq, rfl⟩; rotate_left 1; (rintro ⟨_, _, h⟩; exact h))
          clear c7 f7 l7
          try gi_wp2_with fail
          refine ⟨hn3.trans (nc_drewN _ _), ?_, hL3⟩
          rw [hBB.out, hsp.out, if_pos (by omega)]
          exact hI3.drewN _
    · obtain ⟨c7, f7, l7⟩ := hI.2.2.2.2.1.rules
      gi_wp2_with fail
      refine ⟨trivial, ?_⟩
      clear c7 f7 l7
      have hBB : fstN (bentN s bs l) (k + 1) = xb := by rw [hsb.out, if_pos (by omega)]
      replace hBB := Lib.hid hBB
      have hn3 := NC.refl W0.heap.size W2
      have hL3 := hL
      have hG3 := hG
      have hI3 := hI
      by_cases hx2 : xp < 0
      · obtain ⟨k3, k4, k5, -, k7, hb⟩ := hI3
        obtain ⟨c3, f3, l3⟩ := k3.rules
        obtain ⟨c4, f4, l4⟩ := k4.rules
        obtain ⟨c5, f5, l5⟩ := k5.rules
        obtain ⟨c7, f7, l7⟩ := k7.rules
        obtain ⟨b1, o1, hA1, -, -, e0⟩ := (hvv.keep hb.size (fun p _ hp => hb.cell hp)).int hy.out
        obtain ⟨b2, o2, hA2, -, -, -, -, e3, e4⟩ := hL3.2.2.2.2.wat hx.out
        subst hA1
        subst hA2
        clear k3 k4 k5 k7 hb
        gi_wp2_with fail
        (refine wpIn_tail_round 16 (by kernel_rfl) (by kernel_rfl) (by kernel_rfl) ?_ ?_; rotate_left 1; simp only [List.take_succ_cons, List.take_zero, List.drop_succ_cons, List.drop_zero]; (iterate 16 still_step); apply still_end; rotate_left 1; (rintro ⟨_, _, h⟩; exact h))
        clear c3 f3 l3 c4 f4 l4 c5 f5 l5 c7 f7 l7 e0 e3 e4
        have hI4 := hI.drew
        have hL4 := hL3.drew
        have hG4 := hG3.drew
        have hn4 := hn3.trans (nc_drew W2)
        generalize W2.drew = W4 at *
        have hcp := pulled_any s A O' n c co' 0 _ (encAt s bs l (k + 1)) y x.alo W4 ho.out hek.out hyk.out hxk.out hL4.2.2.1 hG4
        obtain ⟨pb, hpb⟩ : ∃ pb, pulledS s (encAt s bs l (k + 1)) y x.alo = pb := ⟨_, rfl⟩
        rw [hpb] at hcp
        go_wp2_with fail
        refine hcp.mono ?_
        rintro e w5 ⟨rfl, hb5⟩
        clear hcp
        replace hI4 := hI4.below hb5
        replace hL4 := hL4.below hb5
        replace hn4 := hn4.trans (nc_of_below hb5)
        obtain ⟨c7, f7, l7⟩ := hI4.2.2.2.2.1.rules
        cases pb with
        | false =>
          go_wp2_with fail
          try gi_wp2_with fail
          refine ⟨hn4, ?_, hL4⟩
          rw [hBB.out, show fstN (pulledN s bs l v) (k + 1) = xp by rw [hsp.out, if_neg (by omega), hpn.out, hpb]; simp; omega]
          exact hI4
        | true =>
          go_wp2_with fail
          try gi_wp2_with fail
          refine ⟨hn4.trans (nc_setCell _ _ _ (by have := hsz.out; dsimp only; omega)), ?_, StepsL.base (hI4.set1 _).2.2.2.2.2 hss hs hd (hL4.1.far (by dsimp only; omega) _) (hL4.2.1.far (by dsimp only; omega) _)⟩
          rw [hBB.out, hsp.out, if_neg (by omega), hpn.out, hpb]
          exact hI4.set1 _
      · obtain ⟨c7, f7, l7⟩ := hI3.2.2.2.2.1.rules
        gi_wp2_with fail
        have hx2n : (xp < 0) = False := eq_false (by omega)
        (refine wpIn_quiet_round (by kernel_rfl) (by kernel_rfl) (by kernel_rfl) ?_ ?_; rotate_left 1; (iterate 18 (go_big_quiet_step (fail))); apply quiet_end; rintro _ ⟨nq, rfl⟩; rotate_left 1; (rintro ⟨_, _, h⟩; exact h))
        clear c7 f7 l7
        try gi_wp2_with fail
        refine ⟨hn3.trans (nc_drewN _ _), ?_, hL3⟩
        rw [hBB.out, hsp.out, if_pos (by omega)]
        exact hI3.drewN _
end Go.Proofs.YthjdjpcomocffaaGreat
