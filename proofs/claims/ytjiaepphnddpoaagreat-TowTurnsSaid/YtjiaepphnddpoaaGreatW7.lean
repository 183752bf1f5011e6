/-
  Walks, seventh part: the bounds step by step, and in which steps a streamer may be beyond its limits.
-/
import Derived.Test.YtjiaepphnddpoaaGreatW6
import Derived.Test.YtjiaepphnddpoaaGreatRange
namespace Go.Proofs.YtjiaepphnddpoaaGreat
open Go.RowKit Go.Shelf
attribute [local go_sem] Oper.semAt_some

theorem ediv_mono {a b : Int} (h : a ≤ b) : a / 64 ≤ b / 64 := Int.ediv_le_ediv (by omega) h
theorem eased_mono {s : Strm} {x : Sec} (hh : headOk s) (hx : okSec x = true) {o1 o2 b1 b2 d1 d2 : Int} (ho : o1 ≤ o2) (hb : b1 ≤ b2) (hd : d1 ≤ d2) : eased s x o1 b1 d1 ≤ eased s x o2 b2 d2 := by
  obtain ⟨k0, k1, k2, k3, k4, k5, k6, k7, k8, k9⟩ := of_decide_eq_true hx
  obtain ⟨g0, g1, g2, g3, g4, g5, g6, g7, g8⟩ := hh
  have m1 : (64 - x.fol) * o1 ≤ (64 - x.fol) * o2 := Int.mul_le_mul_of_nonneg_left ho (by omega)
  have m2 : x.fol * b1 ≤ x.fol * b2 := Int.mul_le_mul_of_nonneg_left hb k2
  have m3 : ((64 - x.fol) * o1 + x.fol * b1) / 64 ≤ ((64 - x.fol) * o2 + x.fol * b2) / 64 := ediv_mono (by omega)
  simp only [eased]
  generalize ((64 - x.fol) * o1 + x.fol * b1) / 64 = q1 at *
  generalize ((64 - x.fol) * o2 + x.fol * b2) / 64 = q2 at *
  repeat' split
  all_goals omega
theorem eased_in (s : Strm) (x : Sec) (o b d : Int) : -16384 ≤ eased s x o b d ∧ eased s x o b d ≤ 16384 := by
  simp only [eased]
  omega
theorem encL_ok {s : Strm} {l : List Bnd} {d : Bnd} (ho : okStrm s = true) (hl : okOffs s l = true) (hd : okBnd 100 d = true) : okOffs s (encL s l d) = true := by
  have hlen := okOffs_len hl
  have hall := okOffs_all hl
  obtain ⟨d1, d2, d3⟩ := of_decide_eq_true (p := -100 ≤ d.lo ∧ d.lo ≤ d.hi ∧ d.hi ≤ 100) hd
  unfold okOffs
  rw [Bool.and_eq_true]
  constructor
  · rw [decide_eq_true_eq, encL, eachL_length, hlen]
  · rw [List.all_eq_true]
    intro y hy
    obtain ⟨j, hj⟩ := List.mem_iff_getElem?.1 hy
    have hjl : j < l.length := by have := (List.getElem?_eq_some_iff.1 hj).1; simpa [encL, eachL_length] using this
    rw [encL, eachL_get _ _ _ hjl] at hj
    injection hj with hj
    subst hj
    obtain ⟨_, p2, _⟩ := okB_of hall (okB_still (ok_head ho)) j
    obtain ⟨_, p5, _⟩ := okB_prev hall (okB_still (ok_head ho)) j
    have hx := ok_sec ho (i := j) (by omega)
    refine decide_eq_true ⟨(eased_in _ _ _ _ _).1, eased_mono (ok_head ho) hx p2 p5 d2, (eased_in _ _ _ _ _).2⟩
theorem okWat_get {l : List Wat} (h : l.all okWat = true) (k : Nat) : okBnd 100 (l.getD k wat0).acr = true ∧ okBnd 50 (l.getD k wat0).alo = true := by
  rw [List.getD_eq_getElem?_getD]
  by_cases hi : k < l.length
  · rw [List.getElem?_eq_getElem hi]
    have := List.all_eq_true.1 h _ (List.getElem_mem hi)
    simpa [okWat] using this
  · rw [List.getElem?_eq_none (by omega)]
    constructor <;> decide
theorem encAt_ok {s : Strm} {bs : List Bnd} {l : List Wat} (ho : okStrm s = true) (hb : okOffs s bs = true) (hl : l.all okWat = true) : ∀ k, okOffs s (encAt s bs l k) = true
  | 0 => hb
  | k + 1 => encL_ok ho (encAt_ok ho hb hl k) (okWat_get hl k).1
theorem encAt_len {s : Strm} {bs : List Bnd} {l : List Wat} {n : Nat} (hb : bs.length = n) : ∀ k, (encAt s bs l k).length = n
  | 0 => hb
  | k + 1 => by rw [encAt, encL, eachL_length]; exact encAt_len hb k

/-- What steps leans on: the towed streamer and the waters, boxed. -/
def StepsL (s : Strm) (bs : List Bnd) (l : List Wat) (A O D : Option Addr) (n c co nd cd gt gl : Nat) (W : World) : Prop :=
  Blk W gt 104 #[.int .i64 s.head, .slice A n c, .int .i64 s.lane.lo, .int .i64 s.lane.hi, .int .i64 s.bend, .slice O n co] ∧ Blk W gl 30 #[.slice D nd cd] ∧
  SlAt W 0 5 Sec.cells A n c s.secs ∧ SlAt W 0 2 Bnd.cells O n co bs ∧ SlAt W 0 4 Wat.cells D nd cd l
theorem StepsL.calm {s : Strm} {bs : List Bnd} {l : List Wat} {A O D : Option Addr} {n c co nd cd gt gl B : Nat} {W W' : World} (h : StepsL s bs l A O D n c co nd cd gt gl W) (hc : Calm B W W') : StepsL s bs l A O D n c co nd cd gt gl W' :=
  ⟨calm_blk hc h.1, calm_blk hc h.2.1, calm_sl hc h.2.2.1, calm_sl hc h.2.2.2.1, calm_sl hc h.2.2.2.2⟩
theorem StepsL.below {s : Strm} {bs : List Bnd} {l : List Wat} {A O D : Option Addr} {n c co nd cd gt gl : Nat} {W W' : World} (h : StepsL s bs l A O D n c co nd cd gt gl W) (hc : Below W.heap.size W W') : StepsL s bs l A O D n c co nd cd gt gl W' :=
  h.calm (calm_of_below hc (Nat.le_refl _))
/-- What steps hands on in a round: the index, and the bounds after this step. -/
def StepsG (s : Strm) (bs : List Bnd) (l : List Wat) (n gl k : Nat) (vs : Array Value) (W : World) : Prop :=
  ∃ O co, vs = #[.int .i64 k, .slice O n co] ∧ SlAt W (gl + 1) 2 Bnd.cells O n co (encAt s bs l (k + 1))
theorem wat_getD {l : List Wat} {k : Nat} {x : Wat} (h : l[k]? = some x) : l.getD k wat0 = x := by rw [List.getD_eq_getElem?_getD, h]; rfl

set_option maxRecDepth 100000 in
set_option maxHeartbeats 2000000 in
theorem steps1_iter (m : Nat) (s : Strm) (bs : List Bnd) (l : List Wat) (A O D : Option Addr) (n c co nd cd gt gl : Nat) (ho : okStrm s = true) (hb0 : okOffs s bs = true) (hl0 : l.all okWat = true) :
    IterK Fence.wide m Tryz.prog 119 #[.pointer (some ⟨gt, 0, none⟩), .pointer (some ⟨gl, 0, none⟩)] nd (StepsG s bs l n gl) (StepsL s bs l A O D n c co nd cd gt gl) := by
  intro lr J Jx W hJ hJx hY hL h0
  have hnl := Lib.hid hL.2.2.2.2.len
  have hnd := hL.2.2.2.2.le
  replace ho := Lib.hid ho
  replace hb0 := Lib.hid hb0
  replace hl0 := Lib.hid hl0
  refine callsIn_of_wp Tryz.func119 rfl trivial ?_ rfl
  simp only [Tryz.ntmps119, List.size_toArray, List.length_cons, List.length_nil, Nat.reduceAdd, Nat.reduceSub, Array.replicate_succ, Array.replicate_zero, List.push_toArray, List.append_toArray, List.nil_append, List.cons_append]
  obtain ⟨c1, f1, l1⟩ := hL.1.rules
  obtain ⟨c2, f2, l2⟩ := hL.2.1.rules
  gi_wp2_with fail
  clear c1 f1 l1 c2 f2 l2
  gi_loopw [4, 11] (fun b i wr => ∃ k O' co', i = .int .i64 (k : Nat) ∧ k ≤ nd ∧ b = .slice O' n co' ∧ SlAt wr 0 2 Bnd.cells O' n co' (encAt s bs l k) ∧ StepsL s bs l A O D n c co nd cd gt gl wr ∧ W.heap.size ≤ wr.heap.size ∧ J k wr) (fun b i wr => nd - (intOf i).toNat)
  case atStart => exact ⟨0, O, co, rfl, Nat.zero_le _, rfl, hL.2.2.2.1, hL, Nat.le_refl _, h0⟩
  case round =>
    obtain ⟨k, O', co', rfl, hk, rfl, hs, hLr, hWr, hJr⟩ := hrel
    by_cases hlt : k < nd
    · obtain ⟨x, hx⟩ := some_of_lt hnl.out hlt
      obtain ⟨b, off, hA, -, hbl, e0, e1, e2, e3⟩ := hLr.2.2.2.2.wat hx
      have hxk := Lib.hid (wat_getD hx)
      obtain ⟨c1, f1, l1⟩ := hLr.1.rules
      obtain ⟨c2, f2, l2⟩ := hLr.2.1.rules
      replace hx := Lib.hid hx
      subst hA
      gi_wp2_with fail
      refine ⟨trivial, fun h => (by cases h), ?_⟩
      have hbw : Below wr.heap.size wr (wr.alloc (.cells #[.int .i64 x.acr.lo, .int .i64 x.acr.hi, .int .i64 x.alo.lo, .int .i64 x.alo.hi] 88)) := (Below.refl _ _).alloc (Nat.le_refl _) _
      have hax := Lib.hid (hxk.out ▸ (okWat_get hl0.out k).1)
      refine (callsIn_wide.2 (enclosed_any s A O' n c n co' 0 0 (encAt s bs l k) x.acr _ ho.out (encAt_ok ho.out hb0.out hl0.out k) hax.out (hLr.2.2.1.alloc _) (hs.alloc _))).mono ?_
      rintro e w2 ⟨O2, co2, rfl, hown, hr, hb2⟩
      have b2 := hbw.trans (hb2.mono hbw.size)
      have hs2 : SlAt w2 W.heap.size 2 Bnd.cells O2 n co2 (encAt s bs l (k + 1)) := by
        have : encAt s bs l (k + 1) = encL s (encAt s bs l k) x.acr := by rw [encAt, hxk.out]
        rw [this]; exact hr.mono (by simp; omega)
      have hL2 := hLr.below b2
      clear hown hr c1 f1 l1 c2 f2 l2 e0 e1 e2 e3 hb2 hbw hs
      obtain ⟨fn, tmps, assign, body, hy, hR⟩ := hY k #[.int .i64 k, .slice O2 n co2] w2 hlt (hJ _ _ _ hJr (calm_of_below b2 hWr)) hL2 ⟨O2, co2, rfl, hs2.mono hL.2.1.lt⟩
      clear hY
      gi_wp2_with fail
      refine ⟨fun h => (by cases h), hR.mono ?_⟩
      rintro e W3 (⟨rfl, hJ3, hL3, hn3⟩ | ⟨rfl, hJx3, -⟩)
      · gi_wp2
        go_roundw
        case rel => exact ⟨k + 1, O2, co2, by go_num, by omega, rfl, (nc_sl hn3 hs2).mono (Nat.zero_le _), hL3, Nat.le_trans hWr (Nat.le_trans b2.size hn3.1), hJ3⟩
        case measure => simp [intOf]; omega
      · gi_wp2
        refine bodyPost_ret (results_none rfl _ _ _) rfl ?_
        exact ⟨⟨_, rfl⟩, .inr hJx3⟩
    · obtain rfl : k = nd := by omega
      gi_wp2
      go_end0
      exact ⟨⟨_, rfl⟩, .inl hJr⟩
theorem eg_steps1 : Enters Tryz.prog 119 := enters_of Tryz.func119 (by kernel_rfl) rfl
set_option maxRecDepth 100000 in
set_option maxHeartbeats 1000000 in
theorem steps_any (s : Strm) (A O D : Option Addr) (n c co no nd cd : Nat) (w : World) :
    Calls Tryz.prog 71 #[.agg #[.int .i64 s.head, .slice A n c, .int .i64 s.lane.lo, .int .i64 s.lane.hi, .int .i64 s.bend, .slice O no co], .slice D nd cd] w fun e w' =>
      e = .returned (.func (.func 119) #[] #[.pointer (some ⟨w.heap.size, 0, none⟩), .pointer (some ⟨w.heap.size + 1, 0, none⟩)]) ∧
      w' = (w.alloc (.cells #[.int .i64 s.head, .slice A n c, .int .i64 s.lane.lo, .int .i64 s.lane.hi, .int .i64 s.bend, .slice O no co] 104)).alloc (.cells #[.slice D nd cd] 30) := by
  go_enter Tryz.func71, Tryz.ntmps71
  go_wp2
  go_ret
  exact ⟨rfl, rfl⟩

end Go.Proofs.YtjiaepphnddpoaaGreat
