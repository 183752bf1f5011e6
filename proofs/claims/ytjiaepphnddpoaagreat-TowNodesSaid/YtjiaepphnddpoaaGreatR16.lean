/-
  Walks: the specification's root, whole plane, places.
  Walks: the specification's Move.
-/
import Derived.Test.YtjiaepphnddpoaaGreatM7
import Derived.Test.YtjiaepphnddpoaaGreatR14
namespace Go.Proofs.YtjiaepphnddpoaaGreat
open Go.RowKit Go.Shelf
set_option linter.unusedSimpArgs false
set_option linter.unusedVariables false

theorem rootS_of {n r : Int} (h0 : 0 ≤ r) (h1 : r * r ≤ n) (h2 : n < (r + 1) * (r + 1)) : rootS n = r := by
  have hn : 0 ≤ n := by have := Int.mul_nonneg h0 h0; omega
  obtain ⟨a1, a2⟩ := rootS_bd hn
  have a3 := rootS_up hn
  have b1 := lt_of_sq (a := rootS n) (b := r + 1) (by omega) (by omega)
  have b2 := lt_of_sq (a := r) (b := rootS n + 1) (by omega) (by omega)
  omega
set_option maxRecDepth 100000 in
set_option maxHeartbeats 1000000 in
theorem RRoot_any (n : Int) (w : World) (h0 : 0 ≤ n) (h1 : n ≤ 1099511627776) :
    Calls Tryz.prog 129 #[.int .i64 n] w fun e w' => e = .returned (.tuple #[.int .i64 (rootS n), .int .i64 0]) ∧ w = w' := by
  have hb := fun W => Between_any n 0 1099511627776 W
  simp only [decide_eq_true (show 0 ≤ n ∧ n ≤ 1099511627776 from ⟨h0, h1⟩)] at hb
  have hR : Hid (∀ r : Int, 0 ≤ r → r * r ≤ n → n < (r + 1) * (r + 1) → rootS n = r) := fun r => @rootS_of n r
  go_enter Tryz.func129, Tryz.ntmps129
  go_wp2_with fail
  refine (hb _).mono ?_
  rintro e w' ⟨rfl, rfl⟩
  clear hb
  go_wp2_with fail
  go_loopw [4, 5] (fun a b wr => ∃ lo hi : Int, a = .int .i64 lo ∧ b = .int .i64 hi ∧ 0 ≤ lo ∧ lo < hi ∧ hi ≤ 2097152 ∧ lo * lo ≤ n ∧ n < hi * hi ∧ wr = w) (fun a b wr => (intOf b - intOf a).toNat)
  case atStart => exact ⟨0, 2097152, rfl, rfl, by omega, by omega, by omega, by omega, by omega, rfl⟩
  case round =>
    obtain ⟨lo, hi, rfl, rfl, l0, l1, l2, l3, l4, rfl⟩ := hrel
    have u1 := IntWalk.i64_in (hi - lo) (by omega)
    by_cases hlt : 1 < hi - lo
    · have u2 := IntWalk.i64_in (lo + hi) (by omega)
      obtain ⟨s1, s2, -, s4, -⟩ := tdiv_spec (lo + hi) 2 (by omega)
      have s3 := s2 (by omega)
      generalize (lo + hi).tmod 2 = m at *
      obtain ⟨mid, hM⟩ : ∃ mid, (lo + hi).tdiv 2 = mid := ⟨_, rfl⟩
      rw [hM] at s1
      have m1 : lo < mid ∧ mid < hi := by omega
      have m2 := sq_le (show 0 ≤ mid by omega) (show mid ≤ 2097152 by omega)
      have m3 := Int.mul_nonneg (show 0 ≤ mid by omega) (show 0 ≤ mid by omega)
      have u3 := IntWalk.i64_in (mid * mid) (by omega)
      have u4 := IntWalk.i64_in mid (by omega)
      have u5 : IntKind.i64.wrap ((lo + hi).tdiv 2) = mid := by rw [hM]; exact u4
      clear s1 s2 s3 s4 m2 m3
      replace hM := Lib.hid hM
      by_cases hq : mid * mid ≤ n
      · go_wp2_with fail
        go_roundw
        case rel => exact ⟨mid, hi, by first | rfl | rw [hM.out], rfl, by omega, by omega, l2, hq, l4, trivial⟩
        case measure => simp [intOf]; omega
      · go_wp2_with fail
        go_roundw
        case rel => exact ⟨lo, mid, rfl, by first | rfl | rw [hM.out], l0, by omega, by omega, l3, by omega, trivial⟩
        case measure => simp [intOf]; omega
    · obtain rfl : hi = lo + 1 := by omega
      have hv := hR.out lo l0 l3 l4
      replace hv := Lib.hid hv
      go_wp2
      go_ret2
      rw [hv.out]
      exact ⟨rfl, rfl⟩
set_option maxHeartbeats 400000 in
theorem Rplace_any (p : Pnt) (w : World) :
    Calls Tryz.prog 136 #[.agg #[.int .i64 p.x, .int .i64 p.y]] w fun e w' => e = .returned (.bool (okPnt p)) ∧ Below w.heap.size w w' := by
  have h1 := fun W => Between_any p.x (-32768) 32768 W
  have h2 := fun W => Between_any p.y (-32768) 32768 W
  have hv : Hid (okPnt p = decide (-32768 ≤ p.x ∧ p.x ≤ 32768 ∧ -32768 ≤ p.y ∧ p.y ≤ 32768)) := rfl
  by_cases c1 : -32768 ≤ p.x ∧ p.x ≤ 32768
  · simp only [decide_eq_true c1] at h1
    replace c1 := Lib.hid c1
    go_enter Tryz.func136, Tryz.ntmps136
    go_wp2_with fail
    refine (h1 _).mono ?_
    rintro e w' ⟨rfl, rfl⟩
    go_wp2_with fail
    refine (h2 _).mono ?_
    rintro e w' ⟨rfl, rfl⟩
    go_wp2
    go_ret
    exact ⟨ret_bool (by rw [hv.out]; have := c1.out; simp [this.1, this.2]), (Below.refl _ _).alloc (Nat.le_refl _) _⟩
  · simp only [decide_eq_false c1] at h1
    replace c1 := Lib.hid c1
    go_enter Tryz.func136, Tryz.ntmps136
    go_wp2_with fail
    refine (h1 _).mono ?_
    rintro e w' ⟨rfl, rfl⟩
    go_wp2
    go_ret
    exact ⟨ret_bool (by rw [hv.out]; have := c1.out; symm; exact decide_eq_false (by omega)), (Below.refl _ _).alloc (Nat.le_refl _) _⟩
set_option maxHeartbeats 400000 in
theorem RCheckPnt_any (p : Pnt) (w : World) :
    Calls Tryz.prog 85 #[.agg #[.int .i64 p.x, .int .i64 p.y]] w fun e w' => e = .returned (.int .i64 (chkPnt p)) ∧ Below w.heap.size w w' := by
  have h1 := fun W => Rplace_any p W
  have hb := (Below.refl w.heap.size w).alloc (Nat.le_refl _) (.cells #[.int .i64 p.x, .int .i64 p.y] 59)
  cases e1 : okPnt p with
  | false =>
    simp only [e1] at h1
    have hv : chkPnt p = 10 := by simp [chkPnt, e1]
    rw [hv]
    go_enter Tryz.func85, Tryz.ntmps85
    go_wp2_with fail
    generalize w.alloc (.cells #[.int .i64 p.x, .int .i64 p.y] 59) = w1 at *
    refine (h1 _).mono ?_
    rintro e W ⟨rfl, hbel⟩
    replace hb := hb.trans (hbel.mono hb.size)
    go_wp2
    go_ret
    exact ⟨rfl, hb⟩
  | true =>
    simp only [e1] at h1
    have hv : chkPnt p = 0 := by simp [chkPnt, e1]
    rw [hv]
    go_enter Tryz.func85, Tryz.ntmps85
    go_wp2_with fail
    generalize w.alloc (.cells #[.int .i64 p.x, .int .i64 p.y] 59) = w1 at *
    refine (h1 _).mono ?_
    rintro e W ⟨rfl, hbel⟩
    replace hb := hb.trans (hbel.mono hb.size)
    go_wp2
    go_ret
    exact ⟨rfl, hb⟩
set_option maxHeartbeats 400000 in
theorem RAllReg_any (w : World) :
    Calls Tryz.prog 130 #[] w fun e w' => e = .returned (.agg (regA allReg)) ∧ Below w.heap.size w w' := by
  simp only [regA, allReg]
  obtain ⟨w1, hw1⟩ : ∃ w1, w1 = ((w.alloc (.cells #[.int .i64 (-32768), .int .i64 32768, .int .i64 (-32768), .int .i64 32768, .int .i64 (-65536), .int .i64 65536, .int .i64 (-65536), .int .i64 65536] 45)).alloc (.cells #[.int .i64 (-32768), .int .i64 32768] 24)).alloc (.cells #[.int .i64 (-65536), .int .i64 65536] 24) := ⟨_, rfl⟩
  have kz : Blk w1 w.heap.size 45 #[.int .i64 (-32768), .int .i64 32768, .int .i64 (-32768), .int .i64 32768, .int .i64 (-65536), .int .i64 65536, .int .i64 (-65536), .int .i64 65536] := by rw [hw1]; exact ((Blk.new _ _ _).alloc _).alloc _
  have hb : Below w.heap.size w w1 := by rw [hw1]; exact (((Below.refl _ _).alloc (Nat.le_refl _) _).alloc (by simp) _).alloc (by simp; omega) _
  go_enter Tryz.func130, Tryz.ntmps130
  go_wp2
  rw [← hw1]
  clear hw1
  obtain ⟨c4, f4, l4⟩ := kz.rules
  exact bodyPost_ret (v := .agg #[.int .i64 (-32768), .int .i64 32768, .int .i64 (-32768), .int .i64 32768, .int .i64 (-65536), .int .i64 65536, .int .i64 (-65536), .int .i64 65536]) (by simp [results, Tryz.results130, go_sem, c4]) rfl ⟨rfl, hb⟩
set_option maxHeartbeats 400000 in
theorem Rplus_any (a c : Bnd) (w : World) (h : -1000000 ≤ a.lo ∧ a.lo ≤ 1000000 ∧ -1000000 ≤ a.hi ∧ a.hi ≤ 1000000 ∧ -1000000 ≤ c.lo ∧ c.lo ≤ 1000000 ∧ -1000000 ≤ c.hi ∧ c.hi ≤ 1000000) :
    Calls Tryz.prog 165 #[.agg #[.int .i64 a.lo, .int .i64 a.hi], .agg #[.int .i64 c.lo, .int .i64 c.hi]] w fun e w' => e = .returned (.agg #[.int .i64 (a.lo + c.lo), .int .i64 (a.hi + c.hi)]) ∧ Below w.heap.size w w' := by
  have u1 := IntWalk.i64_in (a.lo + c.lo) (by omega)
  have u2 := IntWalk.i64_in (a.hi + c.hi) (by omega)
  obtain ⟨w1, hw1⟩ : ∃ w1, w1 = ((w.alloc (.cells #[.int .i64 a.lo, .int .i64 a.hi] 24)).alloc (.cells #[.int .i64 c.lo, .int .i64 c.hi] 24)).alloc (.cells #[.int .i64 (a.lo + c.lo), .int .i64 (a.hi + c.hi)] 24) := ⟨_, rfl⟩
  have kz : Blk w1 (w.heap.size + 1 + 1) 24 #[.int .i64 (a.lo + c.lo), .int .i64 (a.hi + c.hi)] := by rw [hw1]; exact Blk.newAt (by simp)
  have hb : Below w.heap.size w w1 := by rw [hw1]; exact (((Below.refl _ _).alloc (Nat.le_refl _) _).alloc (by simp) _).alloc (by simp; omega) _
  go_enter Tryz.func165, Tryz.ntmps165
  go_wp2
  rw [← hw1]
  clear hw1
  obtain ⟨c4, f4, l4⟩ := kz.rules
  exact bodyPost_ret (v := .agg #[.int .i64 (a.lo + c.lo), .int .i64 (a.hi + c.hi)]) (by simp [results, Tryz.results165, go_sem, c4]) rfl ⟨rfl, hb⟩
set_option maxRecDepth 100000 in
set_option maxHeartbeats 1000000 in
theorem Rplane_any (r : Reg) (w : World) :
    Calls Tryz.prog 137 #[.agg (regA r)] w fun e w' => e = .returned (.tuple #[.agg (regA (insideR r).1), .int .i64 (insideR r).2]) ∧ Below w.heap.size w w' := by
  have h1 := fun W => rendsM_any r.x 32768 W (by omega)
  have h2 := fun W => rendsM_any r.y 32768 W (by omega)
  have hv : insideR r = if okBnd 32768 r.x = true ∧ okBnd 32768 r.y = true then (r, 0) else (noReg, 7) := rfl
  rw [hv]
  clear hv
  obtain ⟨w1, hw1⟩ : ∃ w1, w1 = (w.alloc (.cells #[.int .i64 r.x.lo, .int .i64 r.x.hi, .int .i64 r.y.lo, .int .i64 r.y.hi, .int .i64 r.s.lo, .int .i64 r.s.hi, .int .i64 r.d.lo, .int .i64 r.d.hi] 45)).alloc (.cells #[.int .i64 0, .int .i64 0, .int .i64 0, .int .i64 0, .int .i64 0, .int .i64 0, .int .i64 0, .int .i64 0] 45) := ⟨_, rfl⟩
  have k1 : Blk w1 w.heap.size 45 #[.int .i64 r.x.lo, .int .i64 r.x.hi, .int .i64 r.y.lo, .int .i64 r.y.hi, .int .i64 r.s.lo, .int .i64 r.s.hi, .int .i64 r.d.lo, .int .i64 r.d.hi] := by rw [hw1]; exact (Blk.new _ _ _).alloc _
  have k2 : Blk w1 (w.heap.size + 1) 45 #[.int .i64 0, .int .i64 0, .int .i64 0, .int .i64 0, .int .i64 0, .int .i64 0, .int .i64 0, .int .i64 0] := by rw [hw1]; exact Blk.newAt (by simp)
  have hb : Below w.heap.size w w1 := by rw [hw1]; exact ((Below.refl _ _).alloc (Nat.le_refl _) _).alloc (by simp) _
  cases e1 : okBnd 32768 r.x with
  | false =>
    simp only [e1] at h1
    rw [if_neg (by simp)]
    simp only [regA, noReg]
    clear e1 h2
    go_enter Tryz.func137, Tryz.ntmps137
    go_wp2_with fail
    rw [← hw1]
    clear hw1
    refine (h1 _).mono ?_
    rintro e W ⟨rfl, hbel⟩
    replace k1 := k1.below hbel
    replace k2 := k2.below hbel
    replace hb := hb.trans (hbel.mono hb.size)
    clear hbel
    have kz := k2.set8 (.int .i64 0) (.int .i64 0) (.int .i64 0) (.int .i64 0) (.int .i64 0) (.int .i64 0) (.int .i64 0) (.int .i64 0)
    have bz := below_set8 (g := w.heap.size + 1) hb (by omega) (.int .i64 0) (.int .i64 0) (.int .i64 0) (.int .i64 0) (.int .i64 0) (.int .i64 0) (.int .i64 0) (.int .i64 0)
    obtain ⟨wz, hwz⟩ : ∃ x, x = set8 W (w.heap.size + 1) (.int .i64 0) (.int .i64 0) (.int .i64 0) (.int .i64 0) (.int .i64 0) (.int .i64 0) (.int .i64 0) (.int .i64 0) := ⟨_, rfl⟩
    rw [← hwz] at kz bz
    simp only [set8] at hwz
    obtain ⟨c2, f2, l2⟩ := k2.rules
    clear k2 hb
    go_wp2
    rw [← hwz]
    clear hwz c2 f2 l2
    obtain ⟨c2, f2, l2⟩ := kz.rules
    exact bodyPost_ret (v := .tuple #[.agg #[.int .i64 0, .int .i64 0, .int .i64 0, .int .i64 0, .int .i64 0, .int .i64 0, .int .i64 0, .int .i64 0], .int .i64 7]) (by simp [results, Tryz.results137, go_sem, c2]) rfl ⟨rfl, bz⟩
  | true =>
    simp only [e1] at h1
    cases e2 : okBnd 32768 r.y with
    | false =>
      simp only [e2] at h2
      rw [if_neg (by simp)]
      simp only [regA, noReg]
      clear e1 e2
      go_enter Tryz.func137, Tryz.ntmps137
      go_wp2_with fail
      rw [← hw1]
      clear hw1
      refine (h1 _).mono ?_
      rintro e W ⟨rfl, hbel⟩
      replace k1 := k1.below hbel
      replace k2 := k2.below hbel
      replace hb := hb.trans (hbel.mono hb.size)
      clear hbel
      obtain ⟨c1, f1, l1⟩ := k1.rules
      go_wp2_with fail
      clear c1 f1 l1
      refine (h2 _).mono ?_
      rintro e W ⟨rfl, hbel⟩
      replace k1 := k1.below hbel
      replace k2 := k2.below hbel
      replace hb := hb.trans (hbel.mono hb.size)
      clear hbel
      have kz := k2.set8 (.int .i64 0) (.int .i64 0) (.int .i64 0) (.int .i64 0) (.int .i64 0) (.int .i64 0) (.int .i64 0) (.int .i64 0)
      have bz := below_set8 (g := w.heap.size + 1) hb (by omega) (.int .i64 0) (.int .i64 0) (.int .i64 0) (.int .i64 0) (.int .i64 0) (.int .i64 0) (.int .i64 0) (.int .i64 0)
      obtain ⟨wz, hwz⟩ : ∃ x, x = set8 W (w.heap.size + 1) (.int .i64 0) (.int .i64 0) (.int .i64 0) (.int .i64 0) (.int .i64 0) (.int .i64 0) (.int .i64 0) (.int .i64 0) := ⟨_, rfl⟩
      rw [← hwz] at kz bz
      simp only [set8] at hwz
      obtain ⟨c2, f2, l2⟩ := k2.rules
      clear k2 hb
      go_wp2
      rw [← hwz]
      clear hwz c2 f2 l2
      obtain ⟨c2, f2, l2⟩ := kz.rules
      exact bodyPost_ret (v := .tuple #[.agg #[.int .i64 0, .int .i64 0, .int .i64 0, .int .i64 0, .int .i64 0, .int .i64 0, .int .i64 0, .int .i64 0], .int .i64 7]) (by simp [results, Tryz.results137, go_sem, c2]) rfl ⟨rfl, bz⟩
    | true =>
      simp only [e2] at h2
      rw [if_pos (by simp)]
      simp only [regA]
      clear e1 e2
      go_enter Tryz.func137, Tryz.ntmps137
      go_wp2_with fail
      rw [← hw1]
      clear hw1
      refine (h1 _).mono ?_
      rintro e W ⟨rfl, hbel⟩
      replace k1 := k1.below hbel
      replace k2 := k2.below hbel
      replace hb := hb.trans (hbel.mono hb.size)
      clear hbel
      obtain ⟨c1, f1, l1⟩ := k1.rules
      go_wp2_with fail
      clear c1 f1 l1
      refine (h2 _).mono ?_
      rintro e W ⟨rfl, hbel⟩
      replace k1 := k1.below hbel
      replace k2 := k2.below hbel
      replace hb := hb.trans (hbel.mono hb.size)
      clear hbel
      obtain ⟨c1, f1, l1⟩ := k1.rules
      have kz := k2.set8 (.int .i64 r.x.lo) (.int .i64 r.x.hi) (.int .i64 r.y.lo) (.int .i64 r.y.hi) (.int .i64 r.s.lo) (.int .i64 r.s.hi) (.int .i64 r.d.lo) (.int .i64 r.d.hi)
      have bz := below_set8 (g := w.heap.size + 1) hb (by omega) (.int .i64 r.x.lo) (.int .i64 r.x.hi) (.int .i64 r.y.lo) (.int .i64 r.y.hi) (.int .i64 r.s.lo) (.int .i64 r.s.hi) (.int .i64 r.d.lo) (.int .i64 r.d.hi)
      obtain ⟨wz, hwz⟩ : ∃ x, x = set8 W (w.heap.size + 1) (.int .i64 r.x.lo) (.int .i64 r.x.hi) (.int .i64 r.y.lo) (.int .i64 r.y.hi) (.int .i64 r.s.lo) (.int .i64 r.s.hi) (.int .i64 r.d.lo) (.int .i64 r.d.hi) := ⟨_, rfl⟩
      rw [← hwz] at kz bz
      simp only [set8] at hwz
      obtain ⟨c2, f2, l2⟩ := k2.rules
      clear k2 hb
      go_wp2
      rw [← hwz]
      clear hwz c2 f2 l2
      obtain ⟨c2, f2, l2⟩ := kz.rules
      exact bodyPost_ret (v := .tuple #[.agg #[.int .i64 r.x.lo, .int .i64 r.x.hi, .int .i64 r.y.lo, .int .i64 r.y.hi, .int .i64 r.s.lo, .int .i64 r.s.hi, .int .i64 r.d.lo, .int .i64 r.d.hi], .int .i64 0]) (by simp [results, Tryz.results137, go_sem, c2]) rfl ⟨rfl, bz⟩
theorem addP_one (p : Pnt) : addP none p = some (ofP p) := by
  simp [addP, zipR, spanB, ofP, still]
set_option maxRecDepth 100000 in
set_option maxHeartbeats 1000000 in
theorem Rsingle_any (p : Pnt) (w : World) (hp : -32768 ≤ p.x ∧ p.x ≤ 32768 ∧ -32768 ≤ p.y ∧ p.y ≤ 32768) :
    Calls Tryz.prog 139 #[.agg #[.int .i64 p.x, .int .i64 p.y]] w fun e w' => e = .returned (.agg (regA (ofP p))) ∧ Below w.heap.size w w' := by
  have hA := fun W k => hadd_any (w.heap.size + 1 + 1) none p W k hp
  rw [addP_one] at hA
  generalize ofP p = R at *
  have e1 : hullA (some R) = #[.int .i64 R.x.lo, .int .i64 R.x.hi, .int .i64 R.y.lo, .int .i64 R.y.hi, .int .i64 R.s.lo, .int .i64 R.s.hi, .int .i64 R.d.lo, .int .i64 R.d.hi, .bool true] := rfl
  rw [e1] at hA
  clear e1
  simp only [regA]
  obtain ⟨w1, hw1⟩ : ∃ w1, w1 = ((w.alloc (.cells #[.int .i64 p.x, .int .i64 p.y] 59)).alloc (.cells #[.int .i64 0, .int .i64 0, .int .i64 0, .int .i64 0, .int .i64 0, .int .i64 0, .int .i64 0, .int .i64 0] 45)).alloc (.cells #[.int .i64 0, .int .i64 0, .int .i64 0, .int .i64 0, .int .i64 0, .int .i64 0, .int .i64 0, .int .i64 0, .bool false] 212) := ⟨_, rfl⟩
  have k1 : Blk w1 w.heap.size 59 #[.int .i64 p.x, .int .i64 p.y] := by rw [hw1]; exact ((Blk.new _ _ _).alloc _).alloc _
  have k2 : Blk w1 (w.heap.size + 1) 45 #[.int .i64 0, .int .i64 0, .int .i64 0, .int .i64 0, .int .i64 0, .int .i64 0, .int .i64 0, .int .i64 0] := by rw [hw1]; exact (Blk.newAt (by simp)).alloc _
  have kh : Blk w1 (w.heap.size + 1 + 1) 212 (hullA none) := by rw [hw1]; exact Blk.newAt (by simp)
  have hb : Below w.heap.size w w1 := by rw [hw1]; exact (((Below.refl _ _).alloc (Nat.le_refl _) _).alloc (by simp) _).alloc (by simp; omega) _
  go_enter Tryz.func139, Tryz.ntmps139
  go_wp2_with fail
  rw [← hw1]
  clear hw1
  refine (hA _ kh).mono ?_
  rintro e W ⟨rfl, kk, hap⟩
  clear hA kh
  replace hb := hb.trans (hap.low.mono (by omega))
  replace k2 := hap.blk k2 (by omega)
  clear k1 hap
  obtain ⟨ch, fh, lh⟩ := kk.rules
  have kz := k2.set8 (.int .i64 R.x.lo) (.int .i64 R.x.hi) (.int .i64 R.y.lo) (.int .i64 R.y.hi) (.int .i64 R.s.lo) (.int .i64 R.s.hi) (.int .i64 R.d.lo) (.int .i64 R.d.hi)
  have bz := below_set8 (g := w.heap.size + 1) hb (by omega) (.int .i64 R.x.lo) (.int .i64 R.x.hi) (.int .i64 R.y.lo) (.int .i64 R.y.hi) (.int .i64 R.s.lo) (.int .i64 R.s.hi) (.int .i64 R.d.lo) (.int .i64 R.d.hi)
  obtain ⟨wz, hwz⟩ : ∃ x, x = set8 W (w.heap.size + 1) (.int .i64 R.x.lo) (.int .i64 R.x.hi) (.int .i64 R.y.lo) (.int .i64 R.y.hi) (.int .i64 R.s.lo) (.int .i64 R.s.hi) (.int .i64 R.d.lo) (.int .i64 R.d.hi) := ⟨_, rfl⟩
  rw [← hwz] at kz bz
  simp only [set8] at hwz
  obtain ⟨c2, f2, l2⟩ := k2.rules
  go_wp2
  rw [← hwz]
  clear hwz c2 f2 l2
  obtain ⟨c2, f2, l2⟩ := kz.rules
  exact bodyPost_ret (v := .agg #[.int .i64 R.x.lo, .int .i64 R.x.hi, .int .i64 R.y.lo, .int .i64 R.y.hi, .int .i64 R.s.lo, .int .i64 R.s.hi, .int .i64 R.d.lo, .int .i64 R.d.hi]) (by simp [results, Tryz.results139, go_sem, c2]) rfl ⟨rfl, bz⟩
set_option maxRecDepth 100000 in
set_option maxHeartbeats 2000000 in
theorem Radded_any (r f : Reg) (w : World) (hr : okReg r = true) (hf : okReg f = true) :
    Calls Tryz.prog 138 #[.agg (regA r), .agg (regA f)] w fun e w' => e = .returned (.agg (regA (zipR plusB r f))) ∧ Below w.heap.size w w' := by
  obtain ⟨⟨x1, x2, x3⟩, ⟨y1, y2, y3⟩, ⟨s1, s2, s3⟩, d1, d2, d3⟩ := okReg_iff.1 hr
  obtain ⟨⟨a1, a2, a3⟩, ⟨b1, b2, b3⟩, ⟨c1, c2, c3⟩, e1, e2, e3⟩ := okReg_iff.1 hf
  clear hr hf
  simp only [regA, zipR, plusB]
  obtain ⟨w1, hw1⟩ : ∃ w1, w1 = ((w.alloc (.cells #[.int .i64 r.x.lo, .int .i64 r.x.hi, .int .i64 r.y.lo, .int .i64 r.y.hi, .int .i64 r.s.lo, .int .i64 r.s.hi, .int .i64 r.d.lo, .int .i64 r.d.hi] 45)).alloc (.cells #[.int .i64 f.x.lo, .int .i64 f.x.hi, .int .i64 f.y.lo, .int .i64 f.y.hi, .int .i64 f.s.lo, .int .i64 f.s.hi, .int .i64 f.d.lo, .int .i64 f.d.hi] 45)).alloc (.cells #[.int .i64 0, .int .i64 0, .int .i64 0, .int .i64 0, .int .i64 0, .int .i64 0, .int .i64 0, .int .i64 0] 45) := ⟨_, rfl⟩
  have k2 : Blk w1 w.heap.size 45 #[.int .i64 r.x.lo, .int .i64 r.x.hi, .int .i64 r.y.lo, .int .i64 r.y.hi, .int .i64 r.s.lo, .int .i64 r.s.hi, .int .i64 r.d.lo, .int .i64 r.d.hi] := by rw [hw1]; exact ((Blk.new _ _ _).alloc _).alloc _
  have k3 : Blk w1 (w.heap.size + 1) 45 #[.int .i64 f.x.lo, .int .i64 f.x.hi, .int .i64 f.y.lo, .int .i64 f.y.hi, .int .i64 f.s.lo, .int .i64 f.s.hi, .int .i64 f.d.lo, .int .i64 f.d.hi] := by rw [hw1]; exact (Blk.newAt (by simp)).alloc _
  have k4 : Blk w1 (w.heap.size + 1 + 1) 45 #[.int .i64 0, .int .i64 0, .int .i64 0, .int .i64 0, .int .i64 0, .int .i64 0, .int .i64 0, .int .i64 0] := by rw [hw1]; exact Blk.newAt (by simp)
  have hb : Below w.heap.size w w1 := by rw [hw1]; exact (((Below.refl _ _).alloc (Nat.le_refl _) _).alloc (by simp) _).alloc (by simp; omega) _
  go_enter Tryz.func138, Tryz.ntmps138
  go_wp2_with fail
  rw [← hw1]
  clear hw1
  refine wp_held_np (fun w' : World => (∀ j, w'.cell? ⟨w.heap.size, j, none⟩ = #[Value.int .i64 r.x.lo, .int .i64 r.x.hi, .int .i64 r.y.lo, .int .i64 r.y.hi, .int .i64 r.s.lo, .int .i64 r.s.hi, .int .i64 r.d.lo, .int .i64 r.d.hi][j]?) ∧ (∀ j, w'.cell? ⟨w.heap.size + 1, j, none⟩ = #[Value.int .i64 f.x.lo, .int .i64 f.x.hi, .int .i64 f.y.lo, .int .i64 f.y.hi, .int .i64 f.s.lo, .int .i64 f.s.hi, .int .i64 f.d.lo, .int .i64 f.d.hi][j]?)) (by kernel_rfl) ?_
  replace k2 := k2.drew
  replace k3 := k3.drew
  replace k4 := k4.drew
  replace hb := hb.drew
  generalize w1.drew = W at *
  have hS : (fun w' : World => (∀ j, w'.cell? ⟨w.heap.size, j, none⟩ = #[Value.int .i64 r.x.lo, .int .i64 r.x.hi, .int .i64 r.y.lo, .int .i64 r.y.hi, .int .i64 r.s.lo, .int .i64 r.s.hi, .int .i64 r.d.lo, .int .i64 r.d.hi][j]?) ∧ (∀ j, w'.cell? ⟨w.heap.size + 1, j, none⟩ = #[Value.int .i64 f.x.lo, .int .i64 f.x.hi, .int .i64 f.y.lo, .int .i64 f.y.hi, .int .i64 f.s.lo, .int .i64 f.s.hi, .int .i64 f.d.lo, .int .i64 f.d.hi][j]?)) W := ⟨k2.cell, k3.cell⟩
  refine held_take (i := 0) (v := ?_) 5 rfl rfl (by kernel_rfl) (by kernel_rfl) (by kernel_rfl) (fun _ _ _ h => h) (Or.inl ⟨by rfl, ?_⟩) hS ?_
  rotate_left 1
  · intro w' hSw
    try dsimp only at hSw
    obtain ⟨q1, q2⟩ := hSw
    go_simp
    all_goals with_reducible rfl
  try simp only [Act.put, List.setIfInBounds_toArray, List.set_cons_zero, List.set_cons_succ]
  refine held_take (i := 1) (v := ?_) 6 rfl rfl (by kernel_rfl) (by kernel_rfl) (by kernel_rfl) (fun _ _ _ h => h) (Or.inl ⟨by rfl, ?_⟩) hS ?_
  rotate_left 1
  · intro w' hSw
    try dsimp only at hSw
    obtain ⟨q1, q2⟩ := hSw
    go_simp
    all_goals with_reducible rfl
  try simp only [Act.put, List.setIfInBounds_toArray, List.set_cons_zero, List.set_cons_succ]
  refine held_take (i := 2) (v := ?_) 7 rfl rfl (by kernel_rfl) (by kernel_rfl) (by kernel_rfl) (fun _ _ _ h => h) (Or.inl ⟨by rfl, ?_⟩) hS ?_
  rotate_left 1
  · intro w' hSw
    try dsimp only at hSw
    obtain ⟨q1, q2⟩ := hSw
    go_simp
    all_goals with_reducible rfl
  try simp only [Act.put, List.setIfInBounds_toArray, List.set_cons_zero, List.set_cons_succ]
  refine held_take (i := 3) (v := ?_) 8 rfl rfl (by kernel_rfl) (by kernel_rfl) (by kernel_rfl) (fun _ _ _ h => h) (Or.inl ⟨by rfl, ?_⟩) hS ?_
  rotate_left 1
  · intro w' hSw
    try dsimp only at hSw
    obtain ⟨q1, q2⟩ := hSw
    go_simp
    all_goals with_reducible rfl
  try simp only [Act.put, List.setIfInBounds_toArray, List.set_cons_zero, List.set_cons_succ]
  refine held_take (i := 5) (v := ?_) 10 rfl rfl (by kernel_rfl) (by kernel_rfl) (by kernel_rfl) (fun _ _ _ h => h) (Or.inl ⟨by rfl, ?_⟩) hS ?_
  rotate_left 1
  · intro w' hSw
    try dsimp only at hSw
    obtain ⟨q1, q2⟩ := hSw
    go_simp
    all_goals with_reducible rfl
  try simp only [Act.put, List.setIfInBounds_toArray, List.set_cons_zero, List.set_cons_succ]
  refine held_take (i := 6) (v := ?_) 11 rfl rfl (by kernel_rfl) (by kernel_rfl) (by kernel_rfl) (fun _ _ _ h => h) (Or.inl ⟨by rfl, ?_⟩) hS ?_
  rotate_left 1
  · intro w' hSw
    try dsimp only at hSw
    obtain ⟨q1, q2⟩ := hSw
    go_simp
    all_goals with_reducible rfl
  try simp only [Act.put, List.setIfInBounds_toArray, List.set_cons_zero, List.set_cons_succ]
  refine held_take (i := 7) (v := ?_) 12 rfl rfl (by kernel_rfl) (by kernel_rfl) (by kernel_rfl) (fun _ _ _ h => h) (Or.inl ⟨by rfl, ?_⟩) hS ?_
  rotate_left 1
  · intro w' hSw
    try dsimp only at hSw
    obtain ⟨q1, q2⟩ := hSw
    go_simp
    all_goals with_reducible rfl
  try simp only [Act.put, List.setIfInBounds_toArray, List.set_cons_zero, List.set_cons_succ]
  refine held_take (i := 8) (v := ?_) 13 rfl rfl (by kernel_rfl) (by kernel_rfl) (by kernel_rfl) (fun _ _ _ h => h) (Or.inl ⟨by rfl, ?_⟩) hS ?_
  rotate_left 1
  · intro w' hSw
    try dsimp only at hSw
    obtain ⟨q1, q2⟩ := hSw
    go_simp
    all_goals with_reducible rfl
  try simp only [Act.put, List.setIfInBounds_toArray, List.set_cons_zero, List.set_cons_succ]
  refine held_take (i := 10) (v := ?_) 15 rfl rfl (by kernel_rfl) (by kernel_rfl) (by kernel_rfl) (fun _ _ _ h => h) (Or.inl ⟨by rfl, ?_⟩) hS ?_
  rotate_left 1
  · intro w' hSw
    try dsimp only at hSw
    obtain ⟨q1, q2⟩ := hSw
    go_simp
    all_goals with_reducible rfl
  try simp only [Act.put, List.setIfInBounds_toArray, List.set_cons_zero, List.set_cons_succ]
  refine held_take (i := 11) (v := ?_) 16 rfl rfl (by kernel_rfl) (by kernel_rfl) (by kernel_rfl) (fun _ _ _ h => h) (Or.inl ⟨by rfl, ?_⟩) hS ?_
  rotate_left 1
  · intro w' hSw
    try dsimp only at hSw
    obtain ⟨q1, q2⟩ := hSw
    go_simp
    all_goals with_reducible rfl
  try simp only [Act.put, List.setIfInBounds_toArray, List.set_cons_zero, List.set_cons_succ]
  refine held_take (i := 12) (v := ?_) 17 rfl rfl (by kernel_rfl) (by kernel_rfl) (by kernel_rfl) (fun _ _ _ h => h) (Or.inl ⟨by rfl, ?_⟩) hS ?_
  rotate_left 1
  · intro w' hSw
    try dsimp only at hSw
    obtain ⟨q1, q2⟩ := hSw
    go_simp
    all_goals with_reducible rfl
  try simp only [Act.put, List.setIfInBounds_toArray, List.set_cons_zero, List.set_cons_succ]
  refine held_take (i := 13) (v := ?_) 18 rfl rfl (by kernel_rfl) (by kernel_rfl) (by kernel_rfl) (fun _ _ _ h => h) (Or.inl ⟨by rfl, ?_⟩) hS ?_
  rotate_left 1
  · intro w' hSw
    try dsimp only at hSw
    obtain ⟨q1, q2⟩ := hSw
    go_simp
    all_goals with_reducible rfl
  try simp only [Act.put, List.setIfInBounds_toArray, List.set_cons_zero, List.set_cons_succ]
  refine held_take (i := 15) (v := ?_) 20 rfl rfl (by kernel_rfl) (by kernel_rfl) (by kernel_rfl) (fun _ _ _ h => h) (Or.inl ⟨by rfl, ?_⟩) hS ?_
  rotate_left 1
  · intro w' hSw
    try dsimp only at hSw
    obtain ⟨q1, q2⟩ := hSw
    go_simp
    all_goals with_reducible rfl
  try simp only [Act.put, List.setIfInBounds_toArray, List.set_cons_zero, List.set_cons_succ]
  refine held_take (i := 16) (v := ?_) 21 rfl rfl (by kernel_rfl) (by kernel_rfl) (by kernel_rfl) (fun _ _ _ h => h) (Or.inl ⟨by rfl, ?_⟩) hS ?_
  rotate_left 1
  · intro w' hSw
    try dsimp only at hSw
    obtain ⟨q1, q2⟩ := hSw
    go_simp
    all_goals with_reducible rfl
  try simp only [Act.put, List.setIfInBounds_toArray, List.set_cons_zero, List.set_cons_succ]
  refine held_take (i := 17) (v := ?_) 22 rfl rfl (by kernel_rfl) (by kernel_rfl) (by kernel_rfl) (fun _ _ _ h => h) (Or.inl ⟨by rfl, ?_⟩) hS ?_
  rotate_left 1
  · intro w' hSw
    try dsimp only at hSw
    obtain ⟨q1, q2⟩ := hSw
    go_simp
    all_goals with_reducible rfl
  try simp only [Act.put, List.setIfInBounds_toArray, List.set_cons_zero, List.set_cons_succ]
  refine held_take (i := 18) (v := ?_) 23 rfl rfl (by kernel_rfl) (by kernel_rfl) (by kernel_rfl) (fun _ _ _ h => h) (Or.inl ⟨by rfl, ?_⟩) hS ?_
  rotate_left 1
  · intro w' hSw
    try dsimp only at hSw
    obtain ⟨q1, q2⟩ := hSw
    go_simp
    all_goals with_reducible rfl
  try simp only [Act.put, List.setIfInBounds_toArray, List.set_cons_zero, List.set_cons_succ]
  refine held_one (i := 4) (by kernel_rfl) rfl rfl (fun K hK => ?_)
  go_simp
  refine (Rplus_any r.x f.x _ (by omega)).mono ?_
  rintro e W1 ⟨rfl, hbel⟩
  clear hS
  replace k2 := k2.below hbel
  replace k3 := k3.below hbel
  replace k4 := k4.below hbel
  replace hb := hb.trans (hbel.mono hb.size)
  clear hbel
  have hS : (fun w' : World => (∀ j, w'.cell? ⟨w.heap.size, j, none⟩ = #[Value.int .i64 r.x.lo, .int .i64 r.x.hi, .int .i64 r.y.lo, .int .i64 r.y.hi, .int .i64 r.s.lo, .int .i64 r.s.hi, .int .i64 r.d.lo, .int .i64 r.d.hi][j]?) ∧ (∀ j, w'.cell? ⟨w.heap.size + 1, j, none⟩ = #[Value.int .i64 f.x.lo, .int .i64 f.x.hi, .int .i64 f.y.lo, .int .i64 f.y.hi, .int .i64 f.s.lo, .int .i64 f.s.hi, .int .i64 f.d.lo, .int .i64 f.d.hi][j]?)) W1 := ⟨k2.cell, k3.cell⟩
  refine hK _ _ hS ?_
  clear hK K
  try simp only [Act.put, List.setIfInBounds_toArray, List.set_cons_zero, List.set_cons_succ]
  refine held_one (i := 9) (by kernel_rfl) rfl rfl (fun K hK => ?_)
  go_simp
  refine (Rplus_any r.y f.y _ (by omega)).mono ?_
  rintro e W1 ⟨rfl, hbel⟩
  clear hS
  replace k2 := k2.below hbel
  replace k3 := k3.below hbel
  replace k4 := k4.below hbel
  replace hb := hb.trans (hbel.mono hb.size)
  clear hbel
  have hS : (fun w' : World => (∀ j, w'.cell? ⟨w.heap.size, j, none⟩ = #[Value.int .i64 r.x.lo, .int .i64 r.x.hi, .int .i64 r.y.lo, .int .i64 r.y.hi, .int .i64 r.s.lo, .int .i64 r.s.hi, .int .i64 r.d.lo, .int .i64 r.d.hi][j]?) ∧ (∀ j, w'.cell? ⟨w.heap.size + 1, j, none⟩ = #[Value.int .i64 f.x.lo, .int .i64 f.x.hi, .int .i64 f.y.lo, .int .i64 f.y.hi, .int .i64 f.s.lo, .int .i64 f.s.hi, .int .i64 f.d.lo, .int .i64 f.d.hi][j]?)) W1 := ⟨k2.cell, k3.cell⟩
  refine hK _ _ hS ?_
  clear hK K
  try simp only [Act.put, List.setIfInBounds_toArray, List.set_cons_zero, List.set_cons_succ]
  refine held_one (i := 14) (by kernel_rfl) rfl rfl (fun K hK => ?_)
  go_simp
  refine (Rplus_any r.s f.s _ (by omega)).mono ?_
  rintro e W1 ⟨rfl, hbel⟩
  clear hS
  replace k2 := k2.below hbel
  replace k3 := k3.below hbel
  replace k4 := k4.below hbel
  replace hb := hb.trans (hbel.mono hb.size)
  clear hbel
  have hS : (fun w' : World => (∀ j, w'.cell? ⟨w.heap.size, j, none⟩ = #[Value.int .i64 r.x.lo, .int .i64 r.x.hi, .int .i64 r.y.lo, .int .i64 r.y.hi, .int .i64 r.s.lo, .int .i64 r.s.hi, .int .i64 r.d.lo, .int .i64 r.d.hi][j]?) ∧ (∀ j, w'.cell? ⟨w.heap.size + 1, j, none⟩ = #[Value.int .i64 f.x.lo, .int .i64 f.x.hi, .int .i64 f.y.lo, .int .i64 f.y.hi, .int .i64 f.s.lo, .int .i64 f.s.hi, .int .i64 f.d.lo, .int .i64 f.d.hi][j]?)) W1 := ⟨k2.cell, k3.cell⟩
  refine hK _ _ hS ?_
  clear hK K
  try simp only [Act.put, List.setIfInBounds_toArray, List.set_cons_zero, List.set_cons_succ]
  refine held_one (i := 19) (by kernel_rfl) rfl rfl (fun K hK => ?_)
  go_simp
  refine (Rplus_any r.d f.d _ (by omega)).mono ?_
  rintro e W1 ⟨rfl, hbel⟩
  clear hS
  replace k2 := k2.below hbel
  replace k3 := k3.below hbel
  replace k4 := k4.below hbel
  replace hb := hb.trans (hbel.mono hb.size)
  clear hbel
  have hS : (fun w' : World => (∀ j, w'.cell? ⟨w.heap.size, j, none⟩ = #[Value.int .i64 r.x.lo, .int .i64 r.x.hi, .int .i64 r.y.lo, .int .i64 r.y.hi, .int .i64 r.s.lo, .int .i64 r.s.hi, .int .i64 r.d.lo, .int .i64 r.d.hi][j]?) ∧ (∀ j, w'.cell? ⟨w.heap.size + 1, j, none⟩ = #[Value.int .i64 f.x.lo, .int .i64 f.x.hi, .int .i64 f.y.lo, .int .i64 f.y.hi, .int .i64 f.s.lo, .int .i64 f.s.hi, .int .i64 f.d.lo, .int .i64 f.d.hi][j]?)) W1 := ⟨k2.cell, k3.cell⟩
  refine hK _ _ hS ?_
  clear hK K
  try simp only [Act.put, List.setIfInBounds_toArray, List.set_cons_zero, List.set_cons_succ]
  refine held_take (i := 20) (v := ?_) 25 rfl rfl (by kernel_rfl) (by kernel_rfl) (by kernel_rfl) (fun _ _ _ h => h) (Or.inl ⟨by rfl, ?_⟩) hS ?_
  rotate_left 1
  · intro w' hSw
    try dsimp only at hSw
    obtain ⟨q1, q2⟩ := hSw
    go_simp
    all_goals with_reducible rfl
  try simp only [Act.put, List.setIfInBounds_toArray, List.set_cons_zero, List.set_cons_succ]
  have kz := k4.set8 (.int .i64 (r.x.lo + f.x.lo)) (.int .i64 (r.x.hi + f.x.hi)) (.int .i64 (r.y.lo + f.y.lo)) (.int .i64 (r.y.hi + f.y.hi)) (.int .i64 (r.s.lo + f.s.lo)) (.int .i64 (r.s.hi + f.s.hi)) (.int .i64 (r.d.lo + f.d.lo)) (.int .i64 (r.d.hi + f.d.hi))
  have k2z := far_set8 k2 (g := w.heap.size + 1 + 1) (by omega) (.int .i64 (r.x.lo + f.x.lo)) (.int .i64 (r.x.hi + f.x.hi)) (.int .i64 (r.y.lo + f.y.lo)) (.int .i64 (r.y.hi + f.y.hi)) (.int .i64 (r.s.lo + f.s.lo)) (.int .i64 (r.s.hi + f.s.hi)) (.int .i64 (r.d.lo + f.d.lo)) (.int .i64 (r.d.hi + f.d.hi))
  have k3z := far_set8 k3 (g := w.heap.size + 1 + 1) (by omega) (.int .i64 (r.x.lo + f.x.lo)) (.int .i64 (r.x.hi + f.x.hi)) (.int .i64 (r.y.lo + f.y.lo)) (.int .i64 (r.y.hi + f.y.hi)) (.int .i64 (r.s.lo + f.s.lo)) (.int .i64 (r.s.hi + f.s.hi)) (.int .i64 (r.d.lo + f.d.lo)) (.int .i64 (r.d.hi + f.d.hi))
  have bz := below_set8 (g := w.heap.size + 1 + 1) hb (by omega) (.int .i64 (r.x.lo + f.x.lo)) (.int .i64 (r.x.hi + f.x.hi)) (.int .i64 (r.y.lo + f.y.lo)) (.int .i64 (r.y.hi + f.y.hi)) (.int .i64 (r.s.lo + f.s.lo)) (.int .i64 (r.s.hi + f.s.hi)) (.int .i64 (r.d.lo + f.d.lo)) (.int .i64 (r.d.hi + f.d.hi))
  obtain ⟨wz, hwz⟩ : ∃ x, x = set8 W1 (w.heap.size + 1 + 1) (.int .i64 (r.x.lo + f.x.lo)) (.int .i64 (r.x.hi + f.x.hi)) (.int .i64 (r.y.lo + f.y.lo)) (.int .i64 (r.y.hi + f.y.hi)) (.int .i64 (r.s.lo + f.s.lo)) (.int .i64 (r.s.hi + f.s.hi)) (.int .i64 (r.d.lo + f.d.lo)) (.int .i64 (r.d.hi + f.d.hi)) := ⟨_, rfl⟩
  rw [← hwz] at kz k2z k3z bz
  simp only [set8] at hwz
  obtain ⟨c4, f4, l4⟩ := k4.rules
  refine held_one (i := 21) (by kernel_rfl) rfl rfl (fun K hK => ?_)
  go_simp
  rw [← hwz]
  clear hwz c4 f4 l4 hS
  have hS : (fun w' : World => (∀ j, w'.cell? ⟨w.heap.size, j, none⟩ = #[Value.int .i64 r.x.lo, .int .i64 r.x.hi, .int .i64 r.y.lo, .int .i64 r.y.hi, .int .i64 r.s.lo, .int .i64 r.s.hi, .int .i64 r.d.lo, .int .i64 r.d.hi][j]?) ∧ (∀ j, w'.cell? ⟨w.heap.size + 1, j, none⟩ = #[Value.int .i64 f.x.lo, .int .i64 f.x.hi, .int .i64 f.y.lo, .int .i64 f.y.hi, .int .i64 f.s.lo, .int .i64 f.s.hi, .int .i64 f.d.lo, .int .i64 f.d.hi][j]?)) wz := ⟨k2z.cell, k3z.cell⟩
  refine hK _ _ hS ?_
  clear hK K
  refine wpAnyH_done (by kernel_rfl) (noPanic_normal ?_) _
  clear hS
  go_wp2
  obtain ⟨c4, f4, l4⟩ := kz.rules
  exact bodyPost_ret (v := .agg #[.int .i64 (r.x.lo + f.x.lo), .int .i64 (r.x.hi + f.x.hi), .int .i64 (r.y.lo + f.y.lo), .int .i64 (r.y.hi + f.y.hi), .int .i64 (r.s.lo + f.s.lo), .int .i64 (r.s.hi + f.s.hi), .int .i64 (r.d.lo + f.d.lo), .int .i64 (r.d.hi + f.d.hi)]) (by simp [results, Tryz.results138, go_sem, c4]) rfl ⟨rfl, bz⟩
end Go.Proofs.YtjiaepphnddpoaaGreat
namespace Go.Proofs.YtjiaepphnddpoaaGreat
open Go.RowKit Go.Shelf
set_option linter.unusedSimpArgs false
set_option linter.unusedVariables false

theorem okReg_ofP {p : Pnt} (h : okPnt p = true) : okReg (ofP p) = true := by
  have h := of_decide_eq_true h
  rw [okReg_iff]
  unfold ofP still
  dsimp only
  omega
set_option maxRecDepth 100000 in
set_option maxHeartbeats 2000000 in
theorem RMove_any (r t : Reg) (p : Pnt) (w : World) (hr : okReg r = true) (hp : okPnt p = true) (ht : tightO r = some t) :
    Calls Tryz.prog 86 #[.agg (regA r), .agg #[.int .i64 p.x, .int .i64 p.y]] w fun e w' => e = .returned (.tuple #[.agg (regA (insideR (zipR plusB t (ofP p))).1), .int .i64 (insideR (zipR plusB t (ofP p))).2]) ∧ Below w.heap.size w w' := by
  have hchk := fun W => RCheckR_any r W
  have hk : chkReg r = 0 := by simp [chkReg, hr]
  simp only [hk] at hchk
  have hpx := of_decide_eq_true hp
  have h1 := fun W => Between_any p.x (-65536) 65536 W
  have h2 := fun W => Between_any p.y (-65536) 65536 W
  simp only [decide_eq_true (show -65536 ≤ p.x ∧ p.x ≤ 65536 by omega)] at h1
  simp only [decide_eq_true (show -65536 ≤ p.y ∧ p.y ≤ 65536 by omega)] at h2
  have hh := fun b W k => Rhulls_any b r W k hr
  simp only [ht, doneR] at hh
  have hsi := fun W => Rsingle_any p W hpx
  have had := fun W => Radded_any t (ofP p) W (tightO_ok hr ht) (okReg_ofP hp)
  generalize ofP p = Q at *
  obtain ⟨f, hf⟩ : ∃ f, zipR plusB t Q = f := ⟨_, rfl⟩
  simp only [hf] at had ⊢
  have hpl := fun W => Rplane_any f W
  obtain ⟨⟨R, er⟩, hR⟩ : ∃ R, insideR f = R := ⟨_, rfl⟩
  simp only [hR] at hpl ⊢
  simp only [regA] at hchk hh hsi had hpl ⊢
  clear hk hpx hr hp ht hf hR
  obtain ⟨w1, hw1⟩ : ∃ w1, w1 = ((w.alloc (.cells #[.int .i64 r.x.lo, .int .i64 r.x.hi, .int .i64 r.y.lo, .int .i64 r.y.hi, .int .i64 r.s.lo, .int .i64 r.s.hi, .int .i64 r.d.lo, .int .i64 r.d.hi] 45)).alloc (.cells #[.int .i64 p.x, .int .i64 p.y] 59)).alloc (.cells #[.int .i64 0, .int .i64 0, .int .i64 0, .int .i64 0, .int .i64 0, .int .i64 0, .int .i64 0, .int .i64 0] 45) := ⟨_, rfl⟩
  have k2 : Blk w1 w.heap.size 45 #[.int .i64 r.x.lo, .int .i64 r.x.hi, .int .i64 r.y.lo, .int .i64 r.y.hi, .int .i64 r.s.lo, .int .i64 r.s.hi, .int .i64 r.d.lo, .int .i64 r.d.hi] := by rw [hw1]; exact ((Blk.new _ _ _).alloc _).alloc _
  have k3 : Blk w1 (w.heap.size + 1) 59 #[.int .i64 p.x, .int .i64 p.y] := by rw [hw1]; exact (Blk.newAt (by simp)).alloc _
  have k4 : Blk w1 (w.heap.size + 1 + 1) 45 #[.int .i64 0, .int .i64 0, .int .i64 0, .int .i64 0, .int .i64 0, .int .i64 0, .int .i64 0, .int .i64 0] := by rw [hw1]; exact Blk.newAt (by simp)
  have hb : Below w.heap.size w w1 := by rw [hw1]; exact (((Below.refl _ _).alloc (Nat.le_refl _) _).alloc (by simp) _).alloc (by simp; omega) _
  go_enter Tryz.func86, Tryz.ntmps86
  go_wp2_with fail
  rw [← hw1]
  clear hw1
  refine (hchk _).mono ?_
  rintro e W ⟨rfl, hbel⟩
  replace k2 := k2.below hbel
  replace k3 := k3.below hbel
  replace k4 := k4.below hbel
  replace hb := hb.trans (hbel.mono hb.size)
  clear hbel hchk
  obtain ⟨c3, f3, l3⟩ := k3.rules
  go_wp2_with fail
  refine (h1 _).mono ?_
  rintro e w' ⟨rfl, rfl⟩
  go_wp2_with fail
  refine (h2 _).mono ?_
  rintro e w' ⟨rfl, rfl⟩
  clear c3 f3 l3 h1 h2
  obtain ⟨c2, f2, l2⟩ := k2.rules
  go_wp2_with fail
  clear c2 f2 l2
  have kb := Blk.new W 45 #[.int .i64 r.x.lo, .int .i64 r.x.hi, .int .i64 r.y.lo, .int .i64 r.y.hi, .int .i64 r.s.lo, .int .i64 r.s.hi, .int .i64 r.d.lo, .int .i64 r.d.hi]
  have hbel := (Below.refl W.heap.size W).alloc (Nat.le_refl _) (.cells #[.int .i64 r.x.lo, .int .i64 r.x.hi, .int .i64 r.y.lo, .int .i64 r.y.hi, .int .i64 r.s.lo, .int .i64 r.s.hi, .int .i64 r.d.lo, .int .i64 r.d.hi] 45)
  replace k2 := k2.below hbel
  replace k3 := k3.below hbel
  replace k4 := k4.below hbel
  replace hb := hb.trans (hbel.mono hb.size)
  clear hbel
  generalize W.alloc (.cells #[.int .i64 r.x.lo, .int .i64 r.x.hi, .int .i64 r.y.lo, .int .i64 r.y.hi, .int .i64 r.s.lo, .int .i64 r.s.hi, .int .i64 r.d.lo, .int .i64 r.d.hi] 45) = W2 at *
  generalize W.heap.size = gb at *
  refine (hh _ _ kb).mono ?_
  rintro e W ⟨rfl, hbel⟩
  replace k2 := k2.below hbel
  replace k3 := k3.below hbel
  replace k4 := k4.below hbel
  replace hb := hb.trans (hbel.mono hb.size)
  clear hbel hh kb
  go_wp2_with fail
  have k7 := Blk.new W 45 #[.int .i64 t.x.lo, .int .i64 t.x.hi, .int .i64 t.y.lo, .int .i64 t.y.hi, .int .i64 t.s.lo, .int .i64 t.s.hi, .int .i64 t.d.lo, .int .i64 t.d.hi]
  have hbel := (Below.refl W.heap.size W).alloc (Nat.le_refl _) (.cells #[.int .i64 t.x.lo, .int .i64 t.x.hi, .int .i64 t.y.lo, .int .i64 t.y.hi, .int .i64 t.s.lo, .int .i64 t.s.hi, .int .i64 t.d.lo, .int .i64 t.d.hi] 45)
  have hg7 : w.heap.size + 1 + 1 < W.heap.size := k4.lt
  replace k2 := k2.below hbel
  replace k3 := k3.below hbel
  replace k4 := k4.below hbel
  replace hb := hb.trans (hbel.mono hb.size)
  clear hbel
  generalize W.alloc (.cells #[.int .i64 t.x.lo, .int .i64 t.x.hi, .int .i64 t.y.lo, .int .i64 t.y.hi, .int .i64 t.s.lo, .int .i64 t.s.hi, .int .i64 t.d.lo, .int .i64 t.d.hi] 45) = W2 at *
  generalize W.heap.size = g7 at *
  refine wp_held_np (fun w' : World => (∀ j, w'.cell? ⟨g7, j, none⟩ = #[Value.int .i64 t.x.lo, .int .i64 t.x.hi, .int .i64 t.y.lo, .int .i64 t.y.hi, .int .i64 t.s.lo, .int .i64 t.s.hi, .int .i64 t.d.lo, .int .i64 t.d.hi][j]?) ∧ (∀ j, w'.cell? ⟨w.heap.size + 1, j, none⟩ = #[Value.int .i64 p.x, .int .i64 p.y][j]?)) (by kernel_rfl) ?_
  have hbel : Below W2.heap.size W2 W2.drew := (Below.refl _ _).drew
  replace k2 := k2.below hbel
  replace k3 := k3.below hbel
  replace k4 := k4.below hbel
  replace hb := hb.trans (hbel.mono hb.size)
  replace k7 := k7.below hbel
  clear hbel
  generalize W2.drew = wd at *
  have hS : (fun w' : World => (∀ j, w'.cell? ⟨g7, j, none⟩ = #[Value.int .i64 t.x.lo, .int .i64 t.x.hi, .int .i64 t.y.lo, .int .i64 t.y.hi, .int .i64 t.s.lo, .int .i64 t.s.hi, .int .i64 t.d.lo, .int .i64 t.d.hi][j]?) ∧ (∀ j, w'.cell? ⟨w.heap.size + 1, j, none⟩ = #[Value.int .i64 p.x, .int .i64 p.y][j]?)) wd := ⟨k7.cell, k3.cell⟩
  refine held_take (i := 0) (v := ?_) 36 rfl rfl (by kernel_rfl) (by kernel_rfl) (by kernel_rfl) (fun _ _ _ h => h) (Or.inl ⟨by rfl, ?_⟩) hS ?_
  rotate_left 1
  · intro w' hSw
    try dsimp only at hSw
    obtain ⟨q1, q2⟩ := hSw
    go_simp
    all_goals with_reducible rfl
  try simp only [Act.put, List.setIfInBounds_toArray, List.set_cons_zero, List.set_cons_succ]
  refine held_take (i := 1) (v := ?_) 37 rfl rfl (by kernel_rfl) (by kernel_rfl) (by kernel_rfl) (fun _ _ _ h => h) (Or.inl ⟨by rfl, ?_⟩) hS ?_
  rotate_left 1
  · intro w' hSw
    try dsimp only at hSw
    obtain ⟨q1, q2⟩ := hSw
    go_simp
    all_goals with_reducible rfl
  try simp only [Act.put, List.setIfInBounds_toArray, List.set_cons_zero, List.set_cons_succ]
  refine held_one (i := 2) (by kernel_rfl) rfl rfl (fun K hK => ?_)
  go_simp
  refine (hsi _).mono ?_
  rintro e W1 ⟨rfl, hbel⟩
  clear hS
  replace k2 := k2.below hbel
  replace k3 := k3.below hbel
  replace k4 := k4.below hbel
  replace hb := hb.trans (hbel.mono hb.size)
  replace k7 := k7.below hbel
  clear hbel
  have hS : (fun w' : World => (∀ j, w'.cell? ⟨g7, j, none⟩ = #[Value.int .i64 t.x.lo, .int .i64 t.x.hi, .int .i64 t.y.lo, .int .i64 t.y.hi, .int .i64 t.s.lo, .int .i64 t.s.hi, .int .i64 t.d.lo, .int .i64 t.d.hi][j]?) ∧ (∀ j, w'.cell? ⟨w.heap.size + 1, j, none⟩ = #[Value.int .i64 p.x, .int .i64 p.y][j]?)) W1 := ⟨k7.cell, k3.cell⟩
  refine hK _ _ hS ?_
  clear hK K
  try simp only [Act.put, List.setIfInBounds_toArray, List.set_cons_zero, List.set_cons_succ]
  refine held_one (i := 3) (by kernel_rfl) rfl rfl (fun K hK => ?_)
  go_simp
  refine (had _).mono ?_
  rintro e W1 ⟨rfl, hbel⟩
  clear hS
  replace k2 := k2.below hbel
  replace k3 := k3.below hbel
  replace k4 := k4.below hbel
  replace hb := hb.trans (hbel.mono hb.size)
  replace k7 := k7.below hbel
  clear hbel
  have hS : (fun w' : World => (∀ j, w'.cell? ⟨g7, j, none⟩ = #[Value.int .i64 t.x.lo, .int .i64 t.x.hi, .int .i64 t.y.lo, .int .i64 t.y.hi, .int .i64 t.s.lo, .int .i64 t.s.hi, .int .i64 t.d.lo, .int .i64 t.d.hi][j]?) ∧ (∀ j, w'.cell? ⟨w.heap.size + 1, j, none⟩ = #[Value.int .i64 p.x, .int .i64 p.y][j]?)) W1 := ⟨k7.cell, k3.cell⟩
  refine hK _ _ hS ?_
  clear hK K
  try simp only [Act.put, List.setIfInBounds_toArray, List.set_cons_zero, List.set_cons_succ]
  refine held_one (i := 4) (by kernel_rfl) rfl rfl (fun K hK => ?_)
  go_simp
  refine (hpl _).mono ?_
  rintro e W1 ⟨rfl, hbel⟩
  clear hS
  replace k2 := k2.below hbel
  replace k3 := k3.below hbel
  replace k4 := k4.below hbel
  replace hb := hb.trans (hbel.mono hb.size)
  replace k7 := k7.below hbel
  clear hbel
  have hS : (fun w' : World => (∀ j, w'.cell? ⟨g7, j, none⟩ = #[Value.int .i64 t.x.lo, .int .i64 t.x.hi, .int .i64 t.y.lo, .int .i64 t.y.hi, .int .i64 t.s.lo, .int .i64 t.s.hi, .int .i64 t.d.lo, .int .i64 t.d.hi][j]?) ∧ (∀ j, w'.cell? ⟨w.heap.size + 1, j, none⟩ = #[Value.int .i64 p.x, .int .i64 p.y][j]?)) W1 := ⟨k7.cell, k3.cell⟩
  refine hK _ _ hS ?_
  clear hK K
  try simp only [Act.put, List.setIfInBounds_toArray, List.set_cons_zero, List.set_cons_succ]
  refine held_take (i := 5) (v := ?_) 41 rfl rfl (by kernel_rfl) (by kernel_rfl) (by kernel_rfl) (fun _ _ _ h => h) (Or.inl ⟨by rfl, ?_⟩) hS ?_
  rotate_left 1
  · intro w' hSw
    try dsimp only at hSw
    obtain ⟨q1, q2⟩ := hSw
    go_simp
    all_goals with_reducible rfl
  try simp only [Act.put, List.setIfInBounds_toArray, List.set_cons_zero, List.set_cons_succ]
  refine held_take (i := 6) (v := ?_) 42 rfl rfl (by kernel_rfl) (by kernel_rfl) (by kernel_rfl) (fun _ _ _ h => h) (Or.inl ⟨by rfl, ?_⟩) hS ?_
  rotate_left 1
  · intro w' hSw
    try dsimp only at hSw
    obtain ⟨q1, q2⟩ := hSw
    go_simp
    all_goals with_reducible rfl
  try simp only [Act.put, List.setIfInBounds_toArray, List.set_cons_zero, List.set_cons_succ]
  have kz := k4.set8 (.int .i64 R.x.lo) (.int .i64 R.x.hi) (.int .i64 R.y.lo) (.int .i64 R.y.hi) (.int .i64 R.s.lo) (.int .i64 R.s.hi) (.int .i64 R.d.lo) (.int .i64 R.d.hi)
  have k7z := far_set8 k7 (show g7 ≠ w.heap.size + 1 + 1 by omega) (.int .i64 R.x.lo) (.int .i64 R.x.hi) (.int .i64 R.y.lo) (.int .i64 R.y.hi) (.int .i64 R.s.lo) (.int .i64 R.s.hi) (.int .i64 R.d.lo) (.int .i64 R.d.hi)
  have k3z := far_set8 k3 (show w.heap.size + 1 ≠ w.heap.size + 1 + 1 by omega) (.int .i64 R.x.lo) (.int .i64 R.x.hi) (.int .i64 R.y.lo) (.int .i64 R.y.hi) (.int .i64 R.s.lo) (.int .i64 R.s.hi) (.int .i64 R.d.lo) (.int .i64 R.d.hi)
  have bz := below_set8 (g := w.heap.size + 1 + 1) hb (by omega) (.int .i64 R.x.lo) (.int .i64 R.x.hi) (.int .i64 R.y.lo) (.int .i64 R.y.hi) (.int .i64 R.s.lo) (.int .i64 R.s.hi) (.int .i64 R.d.lo) (.int .i64 R.d.hi)
  obtain ⟨wz, hwz⟩ : ∃ x, x = set8 W1 (w.heap.size + 1 + 1) (.int .i64 R.x.lo) (.int .i64 R.x.hi) (.int .i64 R.y.lo) (.int .i64 R.y.hi) (.int .i64 R.s.lo) (.int .i64 R.s.hi) (.int .i64 R.d.lo) (.int .i64 R.d.hi) := ⟨_, rfl⟩
  rw [← hwz] at kz k7z k3z bz
  simp only [set8] at hwz
  obtain ⟨c4, f4, l4⟩ := k4.rules
  refine held_one (i := 7) (by kernel_rfl) rfl rfl (fun K hK => ?_)
  go_simp
  rw [← hwz]
  clear hwz c4 f4 l4 hS
  have hS : (fun w' : World => (∀ j, w'.cell? ⟨g7, j, none⟩ = #[Value.int .i64 t.x.lo, .int .i64 t.x.hi, .int .i64 t.y.lo, .int .i64 t.y.hi, .int .i64 t.s.lo, .int .i64 t.s.hi, .int .i64 t.d.lo, .int .i64 t.d.hi][j]?) ∧ (∀ j, w'.cell? ⟨w.heap.size + 1, j, none⟩ = #[Value.int .i64 p.x, .int .i64 p.y][j]?)) wz := ⟨k7z.cell, k3z.cell⟩
  refine hK _ _ hS ?_
  clear hK K
  try simp only [Act.put, List.setIfInBounds_toArray, List.set_cons_zero, List.set_cons_succ]
  refine held_take (i := 8) (v := ?_) 5 rfl rfl (by kernel_rfl) (by kernel_rfl) (by kernel_rfl) (fun _ _ _ h => h) (Or.inl ⟨by rfl, ?_⟩) hS ?_
  rotate_left 1
  · intro w' hSw
    try dsimp only at hSw
    obtain ⟨q1, q2⟩ := hSw
    go_simp
    all_goals with_reducible rfl
  try simp only [Act.put, List.setIfInBounds_toArray, List.set_cons_zero, List.set_cons_succ]
  refine wpAnyH_done (by kernel_rfl) (noPanic_normal ?_) _
  clear hS
  go_wp2
  obtain ⟨c4, f4, l4⟩ := kz.rules
  exact bodyPost_ret (v := .tuple #[.agg #[.int .i64 R.x.lo, .int .i64 R.x.hi, .int .i64 R.y.lo, .int .i64 R.y.hi, .int .i64 R.s.lo, .int .i64 R.s.hi, .int .i64 R.d.lo, .int .i64 R.d.hi], .int .i64 er]) (by simp [results, Tryz.results86, go_sem, c4]) rfl ⟨rfl, bz⟩
end Go.Proofs.YtjiaepphnddpoaaGreat
