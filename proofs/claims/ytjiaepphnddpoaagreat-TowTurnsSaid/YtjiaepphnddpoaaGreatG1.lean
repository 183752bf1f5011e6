/-
  Walks in region: bounds of numbers, regions as four bounds, roots.
-/
import Derived.Test.YtjiaepphnddpoaaGreatW2
import Derived.Test.YtjiaepphnddpoaaGreatSpecR
import Derived.Test.YtjiaepphnddpoaaGreatRange
import Derived.Test.YtjiaepphnddpoaaGreatStores
import Derived.Deep.RegionWith
namespace Go.Proofs.YtjiaepphnddpoaaGreat
open Go.RowKit Go.Shelf

set_option maxHeartbeats 400000 in
theorem rwithin_any (n lo hi : Int) (w : World) :
    Calls Tryz.prog 141 #[.int .i64 n, .int .i64 lo, .int .i64 hi] w fun e w' => e = .returned (.bool (decide (lo ≤ n ∧ n ≤ hi))) ∧ w = w' := by
  by_cases h : lo ≤ n
  · go_enter Tryz.func141, Tryz.ntmps141
    go_wp2
    go_ret
    simp [h]
  · go_enter Tryz.func141, Tryz.ntmps141
    go_wp2
    go_ret
    simp; omega
set_option maxHeartbeats 400000 in
theorem fits_any (m : Int) (b : Bnd) (w : World) (hm0 : 0 ≤ m) (hm : m ≤ 100000) :
    Calls Tryz.prog 107 #[.int .i64 m, .agg #[.int .i64 b.lo, .int .i64 b.hi]] w fun e w' => e = .returned (.bool (okBnd m b)) ∧ Below w.heap.size w w' := by
  by_cases h1 : -m ≤ b.lo
  · by_cases h2 : b.lo ≤ b.hi
    · go_enter Tryz.func107, Tryz.ntmps107
      go_wp2
      go_ret
      exact ⟨ret_bool (by simp [okBnd, h1, h2]), (Below.refl _ _).alloc (Nat.le_refl _) _⟩
    · go_enter Tryz.func107, Tryz.ntmps107
      go_wp2
      go_ret
      exact ⟨ret_bool (by simp [okBnd, h1]; omega), (Below.refl _ _).alloc (Nat.le_refl _) _⟩
  · go_enter Tryz.func107, Tryz.ntmps107
    go_wp2
    go_ret
    exact ⟨ret_bool (by simp [okBnd]; omega), (Below.refl _ _).alloc (Nat.le_refl _) _⟩
set_option maxRecDepth 100000 in
set_option maxHeartbeats 400000 in
theorem rbounds_any (r : Reg) (w : World) :
    Calls Tryz.prog 108 #[.agg #[.int .i64 r.x.lo, .int .i64 r.x.hi, .int .i64 r.y.lo, .int .i64 r.y.hi, .int .i64 r.s.lo, .int .i64 r.s.hi, .int .i64 r.d.lo, .int .i64 r.d.hi]] w fun e w' =>
      e = .returned (.agg #[.int .i64 r.x.lo, .int .i64 r.x.hi, .int .i64 r.y.lo, .int .i64 r.y.hi, .int .i64 r.s.lo, .int .i64 r.s.hi, .int .i64 r.d.lo, .int .i64 r.d.hi]) ∧ Below w.heap.size w w' := by
  obtain ⟨wz, hwz⟩ : ∃ x, x = (w.alloc (.cells #[.int .i64 r.x.lo, .int .i64 r.x.hi, .int .i64 r.y.lo, .int .i64 r.y.hi, .int .i64 r.s.lo, .int .i64 r.s.hi, .int .i64 r.d.lo, .int .i64 r.d.hi] 45)).alloc (.cells #[.int .i64 r.x.lo, .int .i64 r.x.hi, .int .i64 r.y.lo, .int .i64 r.y.hi, .int .i64 r.s.lo, .int .i64 r.s.hi, .int .i64 r.d.lo, .int .i64 r.d.hi] 171) := ⟨_, rfl⟩
  have k1 : Blk wz (w.heap.size + 1) 171 #[.int .i64 r.x.lo, .int .i64 r.x.hi, .int .i64 r.y.lo, .int .i64 r.y.hi, .int .i64 r.s.lo, .int .i64 r.s.hi, .int .i64 r.d.lo, .int .i64 r.d.hi] := by rw [hwz]; exact Blk.newAt (by simp)
  have b1 : Below w.heap.size w wz := by rw [hwz]; exact ((Below.refl _ _).alloc (Nat.le_refl _) _).alloc (by simp) _
  go_enter Tryz.func108, Tryz.ntmps108
  go_wp2
  rw [← hwz]
  clear hwz
  obtain ⟨c0, f0, l0⟩ := k1.rules
  exact bodyPost_ret (v := .agg #[.int .i64 r.x.lo, .int .i64 r.x.hi, .int .i64 r.y.lo, .int .i64 r.y.hi, .int .i64 r.s.lo, .int .i64 r.s.hi, .int .i64 r.d.lo, .int .i64 r.d.hi]) (by simp [results, Tryz.results108, go_sem, c0]) rfl ⟨rfl, b1⟩
set_option maxRecDepth 100000 in
set_option maxHeartbeats 400000 in
theorem region_any (r : Reg) (w : World) :
    Calls Tryz.prog 157 #[.agg #[.int .i64 r.x.lo, .int .i64 r.x.hi, .int .i64 r.y.lo, .int .i64 r.y.hi, .int .i64 r.s.lo, .int .i64 r.s.hi, .int .i64 r.d.lo, .int .i64 r.d.hi]] w fun e w' =>
      e = .returned (.agg #[.int .i64 r.x.lo, .int .i64 r.x.hi, .int .i64 r.y.lo, .int .i64 r.y.hi, .int .i64 r.s.lo, .int .i64 r.s.hi, .int .i64 r.d.lo, .int .i64 r.d.hi]) ∧ Below w.heap.size w w' := by
  obtain ⟨wz, hwz⟩ : ∃ x, x = (w.alloc (.cells #[.int .i64 r.x.lo, .int .i64 r.x.hi, .int .i64 r.y.lo, .int .i64 r.y.hi, .int .i64 r.s.lo, .int .i64 r.s.hi, .int .i64 r.d.lo, .int .i64 r.d.hi] 171)).alloc (.cells #[.int .i64 r.x.lo, .int .i64 r.x.hi, .int .i64 r.y.lo, .int .i64 r.y.hi, .int .i64 r.s.lo, .int .i64 r.s.hi, .int .i64 r.d.lo, .int .i64 r.d.hi] 45) := ⟨_, rfl⟩
  have k1 : Blk wz (w.heap.size + 1) 45 #[.int .i64 r.x.lo, .int .i64 r.x.hi, .int .i64 r.y.lo, .int .i64 r.y.hi, .int .i64 r.s.lo, .int .i64 r.s.hi, .int .i64 r.d.lo, .int .i64 r.d.hi] := by rw [hwz]; exact Blk.newAt (by simp)
  have b1 : Below w.heap.size w wz := by rw [hwz]; exact ((Below.refl _ _).alloc (Nat.le_refl _) _).alloc (by simp) _
  go_enter Tryz.func157, Tryz.ntmps157
  go_wp2
  rw [← hwz]
  clear hwz
  obtain ⟨c0, f0, l0⟩ := k1.rules
  exact bodyPost_ret (v := .agg #[.int .i64 r.x.lo, .int .i64 r.x.hi, .int .i64 r.y.lo, .int .i64 r.y.hi, .int .i64 r.s.lo, .int .i64 r.s.hi, .int .i64 r.d.lo, .int .i64 r.d.hi]) (by simp [results, Tryz.results157, go_sem, c0]) rfl ⟨rfl, b1⟩
/-! root -/
def pw (j : Nat) : Int := ((2 ^ j : Nat) : Int)
theorem pw_succ (j : Nat) : pw (j + 1) = 2 * pw j := by simp [pw, Nat.pow_succ]; omega
theorem pw_pos (j : Nat) : 0 < pw j := by have := Nat.pow_pos (n := j) (show 0 < 2 by omega); simp only [pw]; omega
theorem pw_le : ∀ j, j ≤ 21 → pw j ≤ 2097152 := by decide
def rbit : Nat → Int
  | 0 => 0
  | j + 1 => pw j
theorem rbit_half (j : Nat) : pw j / 2 = rbit j := by
  cases j with
  | zero => rfl
  | succ j =>
    rw [pw_succ, Int.mul_ediv_cancel_left _ (by omega)]
    rfl
theorem root_of {n r : Int} (hr : 0 ≤ r) (h1 : r * r ≤ n) (h2 : n < (r + 1) * (r + 1)) : rootS n = r := by
  obtain ⟨m, rfl⟩ : ∃ m : Nat, r = m := ⟨r.toNat, by omega⟩
  have hm : (0 : Int) ≤ (m : Int) * m := Int.mul_nonneg (by omega) (by omega)
  obtain ⟨k, rfl⟩ : ∃ k : Nat, n = k := ⟨n.toNat, by omega⟩
  unfold rootS
  rw [Int.toNat_natCast, isq_eq (r := m) (by exact_mod_cast h1) (by exact_mod_cast h2)]
theorem sq_le {a b : Int} (h0 : 0 ≤ a) (h : a ≤ b) : a * a ≤ b * b := Int.mul_le_mul h h h0 (by omega)
set_option maxRecDepth 100000 in
set_option maxHeartbeats 1000000 in
theorem root_any (n : Int) (w : World) (h0 : 0 ≤ n) (hn : n ≤ 1099511627776) :
    Calls Tryz.prog 142 #[.int .i64 n] w fun e w' => e = .returned (.int .i64 (rootS n)) ∧ w = w' := by
  have hstart : n < (0 + pw 21) * (0 + pw 21) := Int.lt_of_le_of_lt hn (by decide)
  have hb21 : pw 20 = 1048576 := by decide
  replace hstart := Lib.hid hstart
  replace hb21 := Lib.hid hb21
  go_enter Tryz.func142, Tryz.ntmps142
  go_wp2_with fail
  go_loopw [3, 4] (fun r b wr => ∃ (j : Nat) (q : Int), r = .int .i64 q ∧ b = .int .i64 (rbit j) ∧ j ≤ 21 ∧ 0 ≤ q ∧ q * q ≤ n ∧ n < (q + pw j) * (q + pw j) ∧ wr = w) (fun r b wr => (intOf b).toNat)
  case atStart => exact ⟨21, 0, rfl, by show _ = Value.int .i64 (pw 20); rw [hb21.out], Nat.le_refl _, Int.le_refl _, by omega, hstart.out, rfl⟩
  case round =>
    obtain ⟨j, q, rfl, rfl, hj, hq, h1, h2, rfl⟩ := hrel
    have hq2 : q ≤ 1048576 := by
      rcases Int.lt_or_le 1048576 q with h | h
      · have := sq_le (show (0 : Int) ≤ 1048577 by omega) (show 1048577 ≤ q by omega); omega
      · exact h
    cases j with
    | zero =>
      have e := Lib.hid (root_of hq h1 h2)
      rw [show rbit 0 = 0 from rfl]
      clear h1 h2 hstart hb21
      go_wp2
      go_ret
      exact ⟨ret_int e.out.symm, rfl⟩
    | succ j =>
      have p0 := pw_pos j
      have p1 := pw_le j (by omega)
      have hh := Lib.hid (rbit_half j)
      have hs := pw_succ j
      rw [hs] at h2
      rw [show rbit (j + 1) = pw j from rfl]
      replace h1 := Lib.hid h1
      replace h2 := Lib.hid h2
      have hlow := Lib.hid (rbit_half j)
      generalize hP : pw j = P at *
      replace hP := Lib.hid hP
      have t1 := IntWalk.i64_in (q + P) (by omega)
      have m0 : 0 ≤ (q + P) * (q + P) := Int.mul_nonneg (by omega) (by omega)
      have m1 : (q + P) * (q + P) ≤ 4194304 * 4194304 := sq_le (by omega) (by omega)
      have t2 := IntWalk.i64_in ((q + P) * (q + P)) (by omega)
      have hrb : Hid (rbit j < P ∧ 0 ≤ rbit j) := by
        show _ ∧ _
        rw [← hh.out]
        omega
      by_cases hc : (q + P) * (q + P) ≤ n
      · go_wp2
        refine ⟨⟨j, q + P, rfl, by rw [hh.out], by omega, by omega, hc, ?_, trivial⟩, ?_⟩
        · rw [hP.out]
          have := h2.out
          rwa [show q + P + P = q + 2 * P by omega]
        · rw [hh.out]
          have := hrb.out
          simp [intOf]; omega
      · go_wp2
        refine ⟨⟨j, q, rfl, by rw [hh.out], by omega, hq, h1.out, by rw [hP.out]; omega, trivial⟩, ?_⟩
        rw [hh.out]
        have := hrb.out
        simp [intOf]; omega
set_option maxHeartbeats 400000 in
theorem Root_any (n : Int) (w : World) (h0 : 0 ≤ n) (hn : n ≤ 1099511627776) :
    Calls Tryz.prog 90 #[.int .i64 n] w fun e w' => e = .returned (.tuple #[.int .i64 (rootS n), .int .i64 0]) ∧ w = w' := by
  go_enter Tryz.func90, Tryz.ntmps90
  go_wp2_with (first | (go_at_call 141; refine (rwithin_any _ _ _ _).mono ?_; rintro e w' ⟨rfl, rfl⟩; rw [decide_eq_true ⟨h0, hn⟩]) | (go_at_call 142; refine (root_any n _ h0 hn).mono ?_; rintro e w' ⟨rfl, rfl⟩))
  go_ret2
  exact ⟨rfl, rfl⟩
end Go.Proofs.YtjiaepphnddpoaaGreat
