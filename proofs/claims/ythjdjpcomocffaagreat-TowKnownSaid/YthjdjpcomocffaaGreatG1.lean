/-
  Walks in region: bounds of numbers, regions as four bounds, roots.
  Walks in region: points as regions, operations bound by bound, what checks a region.
  Walks in region: operations bound by bound.
-/
import Derived.Test.YthjdjpcomocffaaGreatW1
import Derived.Test.YthjdjpcomocffaaGreatBase
import Derived.Deep.RegionWith
import Derived.BigQuiet
namespace Go.Proofs.YthjdjpcomocffaaGreat
open Go.RowKit Go.Shelf

set_option maxHeartbeats 400000 in
theorem rwithin_any (n lo hi : Int) (w : World) :
    Calls Tryz.prog 102 #[.int .i64 n, .int .i64 lo, .int .i64 hi] w fun e w' => e = .returned (.bool (decide (lo ≤ n ∧ n ≤ hi))) ∧ w = w' := by
  by_cases h : lo ≤ n
  · go_enter Tryz.func102, Tryz.ntmps102
    go_wp2
    go_ret
    simp [h]
  · go_enter Tryz.func102, Tryz.ntmps102
    go_wp2
    go_ret
    simp; omega
set_option maxHeartbeats 400000 in
theorem fits_any (m : Int) (b : Bnd) (w : World) (hm0 : 0 ≤ m) (hm : m ≤ 100000) :
    Calls Tryz.prog 70 #[.int .i64 m, .agg #[.int .i64 b.lo, .int .i64 b.hi]] w fun e w' => e = .returned (.bool (okBnd m b)) ∧ Below w.heap.size w w' := by
  by_cases h1 : -m ≤ b.lo
  · by_cases h2 : b.lo ≤ b.hi
    · go_enter Tryz.func70, Tryz.ntmps70
      go_wp2
      go_ret
      exact ⟨ret_bool (by simp [okBnd, h1, h2]), (Below.refl _ _).alloc (Nat.le_refl _) _⟩
    · go_enter Tryz.func70, Tryz.ntmps70
      go_wp2
      go_ret
      exact ⟨ret_bool (by simp [okBnd, h1]; omega), (Below.refl _ _).alloc (Nat.le_refl _) _⟩
  · go_enter Tryz.func70, Tryz.ntmps70
    go_wp2
    go_ret
    exact ⟨ret_bool (by simp [okBnd]; omega), (Below.refl _ _).alloc (Nat.le_refl _) _⟩
set_option maxRecDepth 100000 in
set_option maxHeartbeats 400000 in
theorem rbounds_any (r : Reg) (w : World) :
    Calls Tryz.prog 71 #[.agg #[.int .i64 r.x.lo, .int .i64 r.x.hi, .int .i64 r.y.lo, .int .i64 r.y.hi, .int .i64 r.s.lo, .int .i64 r.s.hi, .int .i64 r.d.lo, .int .i64 r.d.hi]] w fun e w' =>
      e = .returned (.agg #[.int .i64 r.x.lo, .int .i64 r.x.hi, .int .i64 r.y.lo, .int .i64 r.y.hi, .int .i64 r.s.lo, .int .i64 r.s.hi, .int .i64 r.d.lo, .int .i64 r.d.hi]) ∧ Below w.heap.size w w' := by
  obtain ⟨wz, hwz⟩ : ∃ x, x = (w.alloc (.cells #[.int .i64 r.x.lo, .int .i64 r.x.hi, .int .i64 r.y.lo, .int .i64 r.y.hi, .int .i64 r.s.lo, .int .i64 r.s.hi, .int .i64 r.d.lo, .int .i64 r.d.hi] 58)).alloc (.cells #[.int .i64 r.x.lo, .int .i64 r.x.hi, .int .i64 r.y.lo, .int .i64 r.y.hi, .int .i64 r.s.lo, .int .i64 r.s.hi, .int .i64 r.d.lo, .int .i64 r.d.hi] 134) := ⟨_, rfl⟩
  have k1 : Blk wz (w.heap.size + 1) 134 #[.int .i64 r.x.lo, .int .i64 r.x.hi, .int .i64 r.y.lo, .int .i64 r.y.hi, .int .i64 r.s.lo, .int .i64 r.s.hi, .int .i64 r.d.lo, .int .i64 r.d.hi] := by rw [hwz]; exact Blk.newAt (by simp)
  have b1 : Below w.heap.size w wz := by rw [hwz]; exact ((Below.refl _ _).alloc (Nat.le_refl _) _).alloc (by simp) _
  go_enter Tryz.func71, Tryz.ntmps71
  go_wp2
  rw [← hwz]
  clear hwz
  obtain ⟨c0, f0, l0⟩ := k1.rules
  exact bodyPost_ret (v := .agg #[.int .i64 r.x.lo, .int .i64 r.x.hi, .int .i64 r.y.lo, .int .i64 r.y.hi, .int .i64 r.s.lo, .int .i64 r.s.hi, .int .i64 r.d.lo, .int .i64 r.d.hi]) (by simp [results, Tryz.results71, go_sem, c0]) rfl ⟨rfl, b1⟩
set_option maxRecDepth 100000 in
set_option maxHeartbeats 400000 in
theorem region_any (r : Reg) (w : World) :
    Calls Tryz.prog 91 #[.agg #[.int .i64 r.x.lo, .int .i64 r.x.hi, .int .i64 r.y.lo, .int .i64 r.y.hi, .int .i64 r.s.lo, .int .i64 r.s.hi, .int .i64 r.d.lo, .int .i64 r.d.hi]] w fun e w' =>
      e = .returned (.agg #[.int .i64 r.x.lo, .int .i64 r.x.hi, .int .i64 r.y.lo, .int .i64 r.y.hi, .int .i64 r.s.lo, .int .i64 r.s.hi, .int .i64 r.d.lo, .int .i64 r.d.hi]) ∧ Below w.heap.size w w' := by
  obtain ⟨wz, hwz⟩ : ∃ x, x = (w.alloc (.cells #[.int .i64 r.x.lo, .int .i64 r.x.hi, .int .i64 r.y.lo, .int .i64 r.y.hi, .int .i64 r.s.lo, .int .i64 r.s.hi, .int .i64 r.d.lo, .int .i64 r.d.hi] 134)).alloc (.cells #[.int .i64 r.x.lo, .int .i64 r.x.hi, .int .i64 r.y.lo, .int .i64 r.y.hi, .int .i64 r.s.lo, .int .i64 r.s.hi, .int .i64 r.d.lo, .int .i64 r.d.hi] 58) := ⟨_, rfl⟩
  have k1 : Blk wz (w.heap.size + 1) 58 #[.int .i64 r.x.lo, .int .i64 r.x.hi, .int .i64 r.y.lo, .int .i64 r.y.hi, .int .i64 r.s.lo, .int .i64 r.s.hi, .int .i64 r.d.lo, .int .i64 r.d.hi] := by rw [hwz]; exact Blk.newAt (by simp)
  have b1 : Below w.heap.size w wz := by rw [hwz]; exact ((Below.refl _ _).alloc (Nat.le_refl _) _).alloc (by simp) _
  go_enter Tryz.func91, Tryz.ntmps91
  go_wp2
  rw [← hwz]
  clear hwz
  obtain ⟨c0, f0, l0⟩ := k1.rules
  exact bodyPost_ret (v := .agg #[.int .i64 r.x.lo, .int .i64 r.x.hi, .int .i64 r.y.lo, .int .i64 r.y.hi, .int .i64 r.s.lo, .int .i64 r.s.hi, .int .i64 r.d.lo, .int .i64 r.d.hi]) (by simp [results, Tryz.results91, go_sem, c0]) rfl ⟨rfl, b1⟩
/-! root -/
def pw (j : Nat) : Int := ((2 ^ j : Nat) : Int)
theorem pw_succ (j : Nat) : pw (j + 1) = 2 * pw j := by simp [pw, Nat.pow_succ]; omega
theorem pw_pos (j : Nat) : 0 < pw j := by have := Nat.pow_pos (n := j) (show 0 < 2 by omega); simp only [pw]; omega
theorem pw_le : ∀ j, j ≤ 21 → pw j ≤ 2097152 := by decide
def rbit : Nat → Int
  | 0 => 0
  | j + 1 => pw j
theorem rbit_half (j : Nat) : pw j / 2 = rbit j := by
  cases j with
  | zero => rfl
  | succ j =>
    rw [pw_succ, Int.mul_ediv_cancel_left _ (by omega)]
    rfl
theorem root_of {n r : Int} (hr : 0 ≤ r) (h1 : r * r ≤ n) (h2 : n < (r + 1) * (r + 1)) : rootS n = r := by
  obtain ⟨m, rfl⟩ : ∃ m : Nat, r = m := ⟨r.toNat, by omega⟩
  have hm : (0 : Int) ≤ (m : Int) * m := Int.mul_nonneg (by omega) (by omega)
  obtain ⟨k, rfl⟩ : ∃ k : Nat, n = k := ⟨n.toNat, by omega⟩
  unfold rootS
  rw [Int.toNat_natCast, isq_eq (r := m) (by exact_mod_cast h1) (by exact_mod_cast h2)]
theorem sq_le {a b : Int} (h0 : 0 ≤ a) (h : a ≤ b) : a * a ≤ b * b := Int.mul_le_mul h h h0 (by omega)
set_option maxRecDepth 100000 in
set_option maxHeartbeats 1000000 in
theorem root_any (n : Int) (w : World) (h0 : 0 ≤ n) (hn : n ≤ 1099511627776) :
    Calls Tryz.prog 103 #[.int .i64 n] w fun e w' => e = .returned (.int .i64 (rootS n)) ∧ w = w' := by
  have hstart : n < (0 + pw 21) * (0 + pw 21) := Int.lt_of_le_of_lt hn (by decide)
  have hb21 : pw 20 = 1048576 := by decide
  replace hstart := Lib.hid hstart
  replace hb21 := Lib.hid hb21
  go_enter Tryz.func103, Tryz.ntmps103
  go_wp2_with fail
  go_loopw [3, 4] (fun r b wr => ∃ (j : Nat) (q : Int), r = .int .i64 q ∧ b = .int .i64 (rbit j) ∧ j ≤ 21 ∧ 0 ≤ q ∧ q * q ≤ n ∧ n < (q + pw j) * (q + pw j) ∧ wr = w) (fun r b wr => (intOf b).toNat)
  case atStart => exact ⟨21, 0, rfl, by show _ = Value.int .i64 (pw 20); rw [hb21.out], Nat.le_refl _, Int.le_refl _, by omega, hstart.out, rfl⟩
  case round =>
    obtain ⟨j, q, rfl, rfl, hj, hq, h1, h2, rfl⟩ := hrel
    have hq2 : q ≤ 1048576 := by
      rcases Int.lt_or_le 1048576 q with h | h
      · have := sq_le (show (0 : Int) ≤ 1048577 by omega) (show 1048577 ≤ q by omega); omega
      · exact h
    cases j with
    | zero =>
      have e := Lib.hid (root_of hq h1 h2)
      rw [show rbit 0 = 0 from rfl]
      clear h1 h2 hstart hb21
      go_wp2
      go_ret
      exact ⟨ret_int e.out.symm, rfl⟩
    | succ j =>
      have p0 := pw_pos j
      have p1 := pw_le j (by omega)
      have hh := Lib.hid (rbit_half j)
      have hs := pw_succ j
      rw [hs] at h2
      rw [show rbit (j + 1) = pw j from rfl]
      replace h1 := Lib.hid h1
      replace h2 := Lib.hid h2
      have hlow := Lib.hid (rbit_half j)
      generalize hP : pw j = P at *
      replace hP := Lib.hid hP
      have t1 := IntWalk.i64_in (q + P) (by omega)
      have m0 : 0 ≤ (q + P) * (q + P) := Int.mul_nonneg (by omega) (by omega)
      have m1 : (q + P) * (q + P) ≤ 4194304 * 4194304 := sq_le (by omega) (by omega)
      have t2 := IntWalk.i64_in ((q + P) * (q + P)) (by omega)
      have hrb : Hid (rbit j < P ∧ 0 ≤ rbit j) := by
        show _ ∧ _
        rw [← hh.out]
        omega
      by_cases hc : (q + P) * (q + P) ≤ n
      · go_wp2
        refine ⟨⟨j, q + P, rfl, by rw [hh.out], by omega, by omega, hc, ?_, trivial⟩, ?_⟩
        · rw [hP.out]
          have := h2.out
          rwa [show q + P + P = q + 2 * P by omega]
        · rw [hh.out]
          have := hrb.out
          simp [intOf]; omega
      · go_wp2
        refine ⟨⟨j, q, rfl, by rw [hh.out], by omega, hq, h1.out, by rw [hP.out]; omega, trivial⟩, ?_⟩
        rw [hh.out]
        have := hrb.out
        simp [intOf]; omega
set_option maxHeartbeats 400000 in
theorem Root_any (n : Int) (w : World) (h0 : 0 ≤ n) (hn : n ≤ 1099511627776) :
    Calls Tryz.prog 94 #[.int .i64 n] w fun e w' => e = .returned (.tuple #[.int .i64 (rootS n), .int .i64 0]) ∧ w = w' := by
  go_enter Tryz.func94, Tryz.ntmps94
  go_wp2_with (first | (go_at_call 102; refine (rwithin_any _ _ _ _).mono ?_; rintro e w' ⟨rfl, rfl⟩; rw [decide_eq_true ⟨h0, hn⟩]) | (go_at_call 103; refine (root_any n _ h0 hn).mono ?_; rintro e w' ⟨rfl, rfl⟩))
  go_ret2
  exact ⟨rfl, rfl⟩
end Go.Proofs.YthjdjpcomocffaaGreat
namespace Go.Proofs.YthjdjpcomocffaaGreat
set_option linter.unusedSimpArgs false
set_option linter.unusedVariables false
open Go.RowKit Go.Shelf

def set8 (w : World) (g : Nat) (v0 v1 v2 v3 v4 v5 v6 v7 : Value) : World :=
  (((((((w.setCell ⟨g, 0, none⟩ v0).setCell ⟨g, 1, none⟩ v1).setCell ⟨g, 2, none⟩ v2).setCell ⟨g, 3, none⟩ v3).setCell ⟨g, 4, none⟩ v4).setCell ⟨g, 5, none⟩ v5).setCell ⟨g, 6, none⟩ v6).setCell ⟨g, 7, none⟩ v7
theorem Blk.set8 {w : World} {g : Nat} {t : TypeId} {a0 a1 a2 a3 a4 a5 a6 a7 : Value} (h : Blk w g t #[a0, a1, a2, a3, a4, a5, a6, a7]) (v0 v1 v2 v3 v4 v5 v6 v7 : Value) : Blk (set8 w g v0 v1 v2 v3 v4 v5 v6 v7) g t #[v0, v1, v2, v3, v4, v5, v6, v7] := by
  have k := (((((((h.set_ 0 v0).set_ 1 v1).set_ 2 v2).set_ 3 v3).set_ 4 v4).set_ 5 v5).set_ 6 v6).set_ 7 v7
  simp only [List.setIfInBounds_toArray, List.set_cons_zero, List.set_cons_succ] at k
  exact k
theorem below_set8 {B : Nat} {w0 w : World} {g : Nat} (h : Below B w0 w) (hg : B ≤ g) (v0 v1 v2 v3 v4 v5 v6 v7 : Value) : Below B w0 (set8 w g v0 v1 v2 v3 v4 v5 v6 v7) :=
  (((((((h.setCell (p := ⟨g, 0, none⟩) hg v0).setCell (p := ⟨g, 1, none⟩) hg v1).setCell (p := ⟨g, 2, none⟩) hg v2).setCell (p := ⟨g, 3, none⟩) hg v3).setCell (p := ⟨g, 4, none⟩) hg v4).setCell (p := ⟨g, 5, none⟩) hg v5).setCell (p := ⟨g, 6, none⟩) hg v6).setCell (p := ⟨g, 7, none⟩) hg v7
theorem far_set8 {w : World} {g g' : Nat} {t : TypeId} {cs : Array Value} (h : Blk w g' t cs) (hg : g' ≠ g) (v0 v1 v2 v3 v4 v5 v6 v7 : Value) : Blk (set8 w g v0 v1 v2 v3 v4 v5 v6 v7) g' t cs :=
  (((((((h.far (p := ⟨g, 0, none⟩) hg v0).far (p := ⟨g, 1, none⟩) hg v1).far (p := ⟨g, 2, none⟩) hg v2).far (p := ⟨g, 3, none⟩) hg v3).far (p := ⟨g, 4, none⟩) hg v4).far (p := ⟨g, 5, none⟩) hg v5).far (p := ⟨g, 6, none⟩) hg v6).far (p := ⟨g, 7, none⟩) hg v7
theorem heap_set8 {g k : Nat} (w : World) (h : k ≠ g) (v0 v1 v2 v3 v4 v5 v6 v7 : Value) : (set8 w g v0 v1 v2 v3 v4 v5 v6 v7).heap[k]? = w.heap[k]? := by
  unfold set8
  repeat rw [Below.heap_setCell _ _ _ _ (by exact h)]
set_option maxRecDepth 100000 in
set_option maxHeartbeats 400000 in
theorem rspanB_any (a b : Bnd) (w : World) (h1 : -1000000 ≤ a.lo ∧ a.lo ≤ 1000000 ∧ -1000000 ≤ a.hi ∧ a.hi ≤ 1000000) (h2 : -1000000 ≤ b.lo ∧ b.lo ≤ 1000000 ∧ -1000000 ≤ b.hi ∧ b.hi ≤ 1000000) :
    Calls Tryz.prog 99 #[.agg #[.int .i64 a.lo, .int .i64 a.hi], .agg #[.int .i64 b.lo, .int .i64 b.hi]] w fun e w' => e = .returned (.agg #[.int .i64 (spanB a b).lo, .int .i64 (spanB a b).hi]) ∧ Below w.heap.size w w' := by
  go_enter Tryz.func99, Tryz.ntmps99
  go_wp2
  all_goals
    refine bodyPost_ret (v := .agg #[.int .i64 (spanB a b).lo, .int .i64 (spanB a b).hi]) (by simp [results, Tryz.results99, go_sem, spanB] <;> omega) rfl ⟨rfl, ?_⟩
    exact (((Below.refl w.heap.size w).alloc (Nat.le_refl _) _).alloc (by simp) _).alloc (by simp; omega) _
set_option maxRecDepth 100000 in
set_option maxHeartbeats 400000 in
theorem rplusB_any (a b : Bnd) (w : World) (h1 : -1000000 ≤ a.lo ∧ a.lo ≤ 1000000 ∧ -1000000 ≤ a.hi ∧ a.hi ≤ 1000000) (h2 : -1000000 ≤ b.lo ∧ b.lo ≤ 1000000 ∧ -1000000 ≤ b.hi ∧ b.hi ≤ 1000000) :
    Calls Tryz.prog 83 #[.agg #[.int .i64 a.lo, .int .i64 a.hi], .agg #[.int .i64 b.lo, .int .i64 b.hi]] w fun e w' => e = .returned (.agg #[.int .i64 (plusB a b).lo, .int .i64 (plusB a b).hi]) ∧ Below w.heap.size w w' := by
  go_enter Tryz.func83, Tryz.ntmps83
  go_wp2
  all_goals
    refine bodyPost_ret (v := .agg #[.int .i64 (plusB a b).lo, .int .i64 (plusB a b).hi]) (by simp [results, Tryz.results83, go_sem, plusB] <;> omega) rfl ⟨rfl, ?_⟩
    exact (((Below.refl w.heap.size w).alloc (Nat.le_refl _) _).alloc (by simp) _).alloc (by simp; omega) _
def jv : Nat → Value
  | 0 => .int .i64 0
  | 1 => .int .i64 1
  | 2 => .int .i64 2
  | 3 => .int .i64 3
  | _ => .int .i64 4
def ofCells (p : Pnt) : Nat → Array Value
  | 0 => #[.int .i64 0, .int .i64 0, .int .i64 0, .int .i64 0, .int .i64 0, .int .i64 0, .int .i64 0, .int .i64 0]
  | 1 => #[.int .i64 p.x, .int .i64 p.x, .int .i64 0, .int .i64 0, .int .i64 0, .int .i64 0, .int .i64 0, .int .i64 0]
  | 2 => #[.int .i64 p.x, .int .i64 p.x, .int .i64 p.y, .int .i64 p.y, .int .i64 0, .int .i64 0, .int .i64 0, .int .i64 0]
  | 3 => #[.int .i64 p.x, .int .i64 p.x, .int .i64 p.y, .int .i64 p.y, .int .i64 (p.x + p.y), .int .i64 (p.x + p.y), .int .i64 0, .int .i64 0]
  | _ => #[.int .i64 p.x, .int .i64 p.x, .int .i64 p.y, .int .i64 p.y, .int .i64 (p.x + p.y), .int .i64 (p.x + p.y), .int .i64 (p.x - p.y), .int .i64 (p.x - p.y)]
set_option maxRecDepth 100000 in
set_option maxHeartbeats 1000000 in
theorem of_any (p : Pnt) (w : World) (h1 : -1000000 ≤ p.x ∧ p.x ≤ 1000000 ∧ -1000000 ≤ p.y ∧ p.y ≤ 1000000) :
    Calls Tryz.prog 82 #[.agg #[.int .i64 p.x, .int .i64 p.y]] w fun e w' =>
      e = .returned (.agg #[.int .i64 (ofP p).x.lo, .int .i64 (ofP p).x.hi, .int .i64 (ofP p).y.lo, .int .i64 (ofP p).y.hi, .int .i64 (ofP p).s.lo, .int .i64 (ofP p).s.hi, .int .i64 (ofP p).d.lo, .int .i64 (ofP p).d.hi]) ∧ Below w.heap.size w w' := by
  have i0 : ∀ (a b c d : Value) w, (Instr.index 157 (.agg #[a, b, c, d]) (.int .i64 0)).run Tryz.prog w = .ok a w := fun _ _ _ _ _ => by kernel_rfl
  have i1 : ∀ (a b c d : Value) w, (Instr.index 157 (.agg #[a, b, c, d]) (.int .i64 1)).run Tryz.prog w = .ok b w := fun _ _ _ _ _ => by kernel_rfl
  have i2 : ∀ (a b c d : Value) w, (Instr.index 157 (.agg #[a, b, c, d]) (.int .i64 2)).run Tryz.prog w = .ok c w := fun _ _ _ _ _ => by kernel_rfl
  have i3 : ∀ (a b c d : Value) w, (Instr.index 157 (.agg #[a, b, c, d]) (.int .i64 3)).run Tryz.prog w = .ok d w := fun _ _ _ _ _ => by kernel_rfl
  go_enter Tryz.func82, Tryz.ntmps82
  go_wp2_with fail
  go_loopw [21] (fun j wr => ∃ k : Nat, j = jv k ∧ k ≤ 4 ∧ Blk wr (w.heap.size + 1) 134 #[.int .i64 0, .int .i64 0, .int .i64 0, .int .i64 0, .int .i64 0, .int .i64 0, .int .i64 0, .int .i64 0] ∧ Blk wr (w.heap.size + 1 + 1) 134 (ofCells p k) ∧ Below w.heap.size w wr) (fun j wr => 4 - (intOf j).toNat)
  case atStart =>
    exact ⟨0, rfl, by omega, (Blk.newAt (by simp)).alloc _, Blk.newAt (by simp), (((Below.refl w.heap.size w).alloc (Nat.le_refl _) _).alloc (by simp) _).alloc (by simp; omega) _⟩
  case round =>
    obtain ⟨k, rfl, hk, k2, k3, hb⟩ := hrel
    match k, hk with
    | 0, _ =>
      have k3n : Blk ((wr.setCell ⟨w.heap.size + 1 + 1, 0, none⟩ (.int .i64 p.x)).setCell ⟨w.heap.size + 1 + 1, 1, none⟩ (.int .i64 p.x)) (w.heap.size + 1 + 1) 134 (ofCells p (0 + 1)) := (k3.set_ 0 _).set_ 1 _
      have k2n := (k2.far (p := ⟨w.heap.size + 1 + 1, 0, none⟩) (by dsimp only; omega) (.int .i64 p.x)).far (p := ⟨w.heap.size + 1 + 1, 1, none⟩) (by dsimp only; omega) (.int .i64 p.x)
      have hbn := (hb.setCell (p := ⟨w.heap.size + 1 + 1, 0, none⟩) (by dsimp only; omega) (.int .i64 p.x)).setCell (p := ⟨w.heap.size + 1 + 1, 1, none⟩) (by dsimp only; omega) (.int .i64 p.x)
      simp only [ofCells] at k3
      simp only [jv]
      obtain ⟨c3, f3, l3⟩ := k3.rules
      go_wp2_with fail
      go_roundw
      case rel => exact ⟨0 + 1, rfl, by omega, k2n, k3n, hbn⟩
      case measure => simp [intOf]
    | 1, _ =>
      have k3n : Blk ((wr.setCell ⟨w.heap.size + 1 + 1, 2, none⟩ (.int .i64 p.y)).setCell ⟨w.heap.size + 1 + 1, 3, none⟩ (.int .i64 p.y)) (w.heap.size + 1 + 1) 134 (ofCells p (1 + 1)) := (k3.set_ 2 _).set_ 3 _
      have k2n := (k2.far (p := ⟨w.heap.size + 1 + 1, 2, none⟩) (by dsimp only; omega) (.int .i64 p.y)).far (p := ⟨w.heap.size + 1 + 1, 3, none⟩) (by dsimp only; omega) (.int .i64 p.y)
      have hbn := (hb.setCell (p := ⟨w.heap.size + 1 + 1, 2, none⟩) (by dsimp only; omega) (.int .i64 p.y)).setCell (p := ⟨w.heap.size + 1 + 1, 3, none⟩) (by dsimp only; omega) (.int .i64 p.y)
      simp only [ofCells] at k3
      simp only [jv]
      obtain ⟨c3, f3, l3⟩ := k3.rules
      go_wp2_with fail
      go_roundw
      case rel => exact ⟨1 + 1, rfl, by omega, k2n, k3n, hbn⟩
      case measure => simp [intOf]
    | 2, _ =>
      have k3n : Blk ((wr.setCell ⟨w.heap.size + 1 + 1, 4, none⟩ (.int .i64 (p.x + p.y))).setCell ⟨w.heap.size + 1 + 1, 5, none⟩ (.int .i64 (p.x + p.y))) (w.heap.size + 1 + 1) 134 (ofCells p (2 + 1)) := (k3.set_ 4 _).set_ 5 _
      have k2n := (k2.far (p := ⟨w.heap.size + 1 + 1, 4, none⟩) (by dsimp only; omega) (.int .i64 (p.x + p.y))).far (p := ⟨w.heap.size + 1 + 1, 5, none⟩) (by dsimp only; omega) (.int .i64 (p.x + p.y))
      have hbn := (hb.setCell (p := ⟨w.heap.size + 1 + 1, 4, none⟩) (by dsimp only; omega) (.int .i64 (p.x + p.y))).setCell (p := ⟨w.heap.size + 1 + 1, 5, none⟩) (by dsimp only; omega) (.int .i64 (p.x + p.y))
      simp only [ofCells] at k3
      simp only [jv]
      obtain ⟨c3, f3, l3⟩ := k3.rules
      go_wp2_with fail
      go_roundw
      case rel => exact ⟨2 + 1, rfl, by omega, k2n, k3n, hbn⟩
      case measure => simp [intOf]
    | 3, _ =>
      have k3n : Blk ((wr.setCell ⟨w.heap.size + 1 + 1, 6, none⟩ (.int .i64 (p.x - p.y))).setCell ⟨w.heap.size + 1 + 1, 7, none⟩ (.int .i64 (p.x - p.y))) (w.heap.size + 1 + 1) 134 (ofCells p (3 + 1)) := (k3.set_ 6 _).set_ 7 _
      have k2n := (k2.far (p := ⟨w.heap.size + 1 + 1, 6, none⟩) (by dsimp only; omega) (.int .i64 (p.x - p.y))).far (p := ⟨w.heap.size + 1 + 1, 7, none⟩) (by dsimp only; omega) (.int .i64 (p.x - p.y))
      have hbn := (hb.setCell (p := ⟨w.heap.size + 1 + 1, 6, none⟩) (by dsimp only; omega) (.int .i64 (p.x - p.y))).setCell (p := ⟨w.heap.size + 1 + 1, 7, none⟩) (by dsimp only; omega) (.int .i64 (p.x - p.y))
      simp only [ofCells] at k3
      simp only [jv]
      obtain ⟨c3, f3, l3⟩ := k3.rules
      go_wp2_with fail
      go_roundw
      case rel => exact ⟨3 + 1, rfl, by omega, k2n, k3n, hbn⟩
      case measure => simp [intOf]
    | 4, _ =>
      simp only [ofCells] at k3
      simp only [jv]
      obtain ⟨c3, f3, l3⟩ := k3.rules
      obtain ⟨c2, f2, l2⟩ := k2.rules
      have kz := k2.set8 (.int .i64 p.x) (.int .i64 p.x) (.int .i64 p.y) (.int .i64 p.y) (.int .i64 (p.x + p.y)) (.int .i64 (p.x + p.y)) (.int .i64 (p.x - p.y)) (.int .i64 (p.x - p.y))
      have bz := below_set8 (g := w.heap.size + 1) hb (by omega) (.int .i64 p.x) (.int .i64 p.x) (.int .i64 p.y) (.int .i64 p.y) (.int .i64 (p.x + p.y)) (.int .i64 (p.x + p.y)) (.int .i64 (p.x - p.y)) (.int .i64 (p.x - p.y))
      obtain ⟨wz, hwz⟩ : ∃ x, x = set8 wr (w.heap.size + 1) (.int .i64 p.x) (.int .i64 p.x) (.int .i64 p.y) (.int .i64 p.y) (.int .i64 (p.x + p.y)) (.int .i64 (p.x + p.y)) (.int .i64 (p.x - p.y)) (.int .i64 (p.x - p.y)) := ⟨_, rfl⟩
      rw [← hwz] at kz bz
      simp only [set8] at hwz
      go_wp2
      rw [← hwz]
      clear hwz c2 f2 l2
      obtain ⟨c2, f2, l2⟩ := kz.rules
      exact bodyPost_ret (v := .agg #[.int .i64 p.x, .int .i64 p.x, .int .i64 p.y, .int .i64 p.y, .int .i64 (p.x + p.y), .int .i64 (p.x + p.y), .int .i64 (p.x - p.y), .int .i64 (p.x - p.y)]) (by simp [results, Tryz.results82, go_sem, c2]) rfl ⟨rfl, bz⟩
end Go.Proofs.YthjdjpcomocffaaGreat
namespace Go.Proofs.YthjdjpcomocffaaGreat
open Go.RowKit Go.Shelf

def midB (b : Bnd) : Prop := -1000000 ≤ b.lo ∧ b.lo ≤ 1000000 ∧ -1000000 ≤ b.hi ∧ b.hi ≤ 1000000
def midR (r : Reg) : Prop := midB r.x ∧ midB r.y ∧ midB r.s ∧ midB r.d
/-- An operation with two bounds, as it is handed to combined. -/
def OpB (g : Nat) (f : Bnd → Bnd → Bnd) : Prop :=
  ∀ (W : World) (a b : Bnd), midB a → midB b → Calls Tryz.prog g #[.agg #[.int .i64 a.lo, .int .i64 a.hi], .agg #[.int .i64 b.lo, .int .i64 b.hi]] W fun e w' => e = .returned (.agg #[.int .i64 (f a b).lo, .int .i64 (f a b).hi]) ∧ Below W.heap.size W w'
theorem op_spanB : OpB 99 spanB := fun W a b h1 h2 => rspanB_any a b W h1 h2
theorem eg_spanB : Enters Tryz.prog 99 := enters_of Tryz.func99 (by kernel_rfl) rfl
theorem op_plusB : OpB 83 plusB := fun W a b h1 h2 => rplusB_any a b W h1 h2
theorem eg_plusB : Enters Tryz.prog 83 := enters_of Tryz.func83 (by kernel_rfl) rfl
def regA (r : Reg) : Array Value := #[.int .i64 r.x.lo, .int .i64 r.x.hi, .int .i64 r.y.lo, .int .i64 r.y.hi, .int .i64 r.s.lo, .int .i64 r.s.hi, .int .i64 r.d.lo, .int .i64 r.d.hi]
def combK (f : Bnd → Bnd → Bnd) (a b : Reg) : Nat → Reg
  | 0 => a
  | 1 => { a with x := f a.x b.x }
  | 2 => { a with x := f a.x b.x, y := f a.y b.y }
  | 3 => { a with x := f a.x b.x, y := f a.y b.y, s := f a.s b.s }
  | _ => zipR f a b
set_option maxRecDepth 100000 in
set_option maxHeartbeats 2000000 in
theorem combined_any (a b : Reg) (f : Bnd → Bnd → Bnd) (g : Nat) (w : World) (eg : ∀ args w, (callFunc g args).run Tryz.prog w = .ok (.enter g args) w) (ha : midR a) (hb0 : midR b) (hop : OpB g f) :
    Calls Tryz.prog 81 #[.agg (regA a), .agg (regA b), .func (.func g) #[] #[]] w fun e w' =>
      e = .returned (.agg (regA (zipR f a b))) ∧ Below w.heap.size w w' := by
  replace hop := Lib.hid hop
  replace ha := Lib.hid ha
  replace hb0 := Lib.hid hb0
  simp only [regA]
  go_enter Tryz.func81, Tryz.ntmps81
  go_wp2_with fail
  go_loopw [8] (fun j wr => ∃ k : Nat, j = jv k ∧ k ≤ 4 ∧ Blk wr w.heap.size 134 (regA (combK f a b k)) ∧ Blk wr (w.heap.size + 1) 134 (regA b) ∧ Blk wr (w.heap.size + 1 + 1) 134 #[.int .i64 0, .int .i64 0, .int .i64 0, .int .i64 0, .int .i64 0, .int .i64 0, .int .i64 0, .int .i64 0] ∧ Below w.heap.size w wr) (fun j wr => 4 - (intOf j).toNat)
  case atStart =>
    exact ⟨0, rfl, by omega, ((Blk.newAt rfl).alloc _).alloc _, (Blk.newAt (by simp)).alloc _, Blk.newAt (by simp), (((Below.refl w.heap.size w).alloc (Nat.le_refl _) _).alloc (by simp) _).alloc (by simp; omega) _⟩
  case round =>
    obtain ⟨k, rfl, hk, k3, k4, k6, hb⟩ := hrel
    match k, hk with
    | 0, _ =>
      have hcall := fun W => hop.out W a.x b.x ha.out.1 hb0.out.1
      simp only [combK, regA] at k3
      simp only [regA] at k4
      rw [show jv 0 = .int .i64 0 from rfl]
      obtain ⟨c3, f3, l3⟩ := k3.rules
      obtain ⟨c4, f4, l4⟩ := k4.rules
      go_wp2_with fail
      go_region_with (first | (go_at_fn g; refine (hcall _).mono ?_; rintro e w' ⟨rfl, hbx⟩; replace hbx := below_of_drew hbx; have k3x := k3.below hbx; clear c3 f3 l3 c4 f4 l4; obtain ⟨c3, f3, l3⟩ := k3x.rules))
      all_goals
        clear c3 f3 l3
        have b2 := hb.trans (hbx.mono hb.size)
        have k4x := k4.below hbx
        have k6x := k6.below hbx
        go_wp2_with fail
        go_roundw
        case rel => exact ⟨0 + 1, rfl, by omega, (k3x.set_ 0 _).set_ 1 _, (k4x.far (by dsimp only; omega) _).far (by dsimp only; omega) _, (k6x.far (by dsimp only; omega) _).far (by dsimp only; omega) _, (b2.setCell (p := ⟨w.heap.size, 0, none⟩) (Nat.le_refl _) _).setCell (p := ⟨w.heap.size, 1, none⟩) (Nat.le_refl _) _⟩
        case measure => simp [intOf]
    | 1, _ =>
      have hcall := fun W => hop.out W a.y b.y ha.out.2.1 hb0.out.2.1
      simp only [combK, regA] at k3
      simp only [regA] at k4
      rw [show jv 1 = .int .i64 1 from rfl]
      obtain ⟨c3, f3, l3⟩ := k3.rules
      obtain ⟨c4, f4, l4⟩ := k4.rules
      go_wp2_with fail
      go_region_with (first | (go_at_fn g; refine (hcall _).mono ?_; rintro e w' ⟨rfl, hbx⟩; replace hbx := below_of_drew hbx; have k3x := k3.below hbx; clear c3 f3 l3 c4 f4 l4; obtain ⟨c3, f3, l3⟩ := k3x.rules))
      all_goals
        clear c3 f3 l3
        have b2 := hb.trans (hbx.mono hb.size)
        have k4x := k4.below hbx
        have k6x := k6.below hbx
        go_wp2_with fail
        go_roundw
        case rel => exact ⟨1 + 1, rfl, by omega, (k3x.set_ 2 _).set_ 3 _, (k4x.far (by dsimp only; omega) _).far (by dsimp only; omega) _, (k6x.far (by dsimp only; omega) _).far (by dsimp only; omega) _, (b2.setCell (p := ⟨w.heap.size, 2, none⟩) (Nat.le_refl _) _).setCell (p := ⟨w.heap.size, 3, none⟩) (Nat.le_refl _) _⟩
        case measure => simp [intOf]
    | 2, _ =>
      have hcall := fun W => hop.out W a.s b.s ha.out.2.2.1 hb0.out.2.2.1
      simp only [combK, regA] at k3
      simp only [regA] at k4
      rw [show jv 2 = .int .i64 2 from rfl]
      obtain ⟨c3, f3, l3⟩ := k3.rules
      obtain ⟨c4, f4, l4⟩ := k4.rules
      go_wp2_with fail
      go_region_with (first | (go_at_fn g; refine (hcall _).mono ?_; rintro e w' ⟨rfl, hbx⟩; replace hbx := below_of_drew hbx; have k3x := k3.below hbx; clear c3 f3 l3 c4 f4 l4; obtain ⟨c3, f3, l3⟩ := k3x.rules))
      all_goals
        clear c3 f3 l3
        have b2 := hb.trans (hbx.mono hb.size)
        have k4x := k4.below hbx
        have k6x := k6.below hbx
        go_wp2_with fail
        go_roundw
        case rel => exact ⟨2 + 1, rfl, by omega, (k3x.set_ 4 _).set_ 5 _, (k4x.far (by dsimp only; omega) _).far (by dsimp only; omega) _, (k6x.far (by dsimp only; omega) _).far (by dsimp only; omega) _, (b2.setCell (p := ⟨w.heap.size, 4, none⟩) (Nat.le_refl _) _).setCell (p := ⟨w.heap.size, 5, none⟩) (Nat.le_refl _) _⟩
        case measure => simp [intOf]
    | 3, _ =>
      have hcall := fun W => hop.out W a.d b.d ha.out.2.2.2 hb0.out.2.2.2
      simp only [combK, regA] at k3
      simp only [regA] at k4
      rw [show jv 3 = .int .i64 3 from rfl]
      obtain ⟨c3, f3, l3⟩ := k3.rules
      obtain ⟨c4, f4, l4⟩ := k4.rules
      go_wp2_with fail
      go_region_with (first | (go_at_fn g; refine (hcall _).mono ?_; rintro e w' ⟨rfl, hbx⟩; replace hbx := below_of_drew hbx; have k3x := k3.below hbx; clear c3 f3 l3 c4 f4 l4; obtain ⟨c3, f3, l3⟩ := k3x.rules))
      all_goals
        clear c3 f3 l3
        have b2 := hb.trans (hbx.mono hb.size)
        have k4x := k4.below hbx
        have k6x := k6.below hbx
        go_wp2_with fail
        go_roundw
        case rel => exact ⟨3 + 1, rfl, by omega, (k3x.set_ 6 _).set_ 7 _, (k4x.far (by dsimp only; omega) _).far (by dsimp only; omega) _, (k6x.far (by dsimp only; omega) _).far (by dsimp only; omega) _, (b2.setCell (p := ⟨w.heap.size, 6, none⟩) (Nat.le_refl _) _).setCell (p := ⟨w.heap.size, 7, none⟩) (Nat.le_refl _) _⟩
        case measure => simp [intOf]
    | 4, _ =>
      simp only [combK, regA] at k3
      rw [show jv 4 = .int .i64 4 from rfl]
      obtain ⟨c3, f3, l3⟩ := k3.rules
      obtain ⟨c6, f6, l6⟩ := k6.rules
      have kz := k6.set8 (.int .i64 (zipR f a b).x.lo) (.int .i64 (zipR f a b).x.hi) (.int .i64 (zipR f a b).y.lo) (.int .i64 (zipR f a b).y.hi) (.int .i64 (zipR f a b).s.lo) (.int .i64 (zipR f a b).s.hi) (.int .i64 (zipR f a b).d.lo) (.int .i64 (zipR f a b).d.hi)
      have bz := below_set8 (g := w.heap.size + 1 + 1) hb (by omega) (.int .i64 (zipR f a b).x.lo) (.int .i64 (zipR f a b).x.hi) (.int .i64 (zipR f a b).y.lo) (.int .i64 (zipR f a b).y.hi) (.int .i64 (zipR f a b).s.lo) (.int .i64 (zipR f a b).s.hi) (.int .i64 (zipR f a b).d.lo) (.int .i64 (zipR f a b).d.hi)
      obtain ⟨wz, hwz⟩ : ∃ x, x = set8 wr (w.heap.size + 1 + 1) (.int .i64 (zipR f a b).x.lo) (.int .i64 (zipR f a b).x.hi) (.int .i64 (zipR f a b).y.lo) (.int .i64 (zipR f a b).y.hi) (.int .i64 (zipR f a b).s.lo) (.int .i64 (zipR f a b).s.hi) (.int .i64 (zipR f a b).d.lo) (.int .i64 (zipR f a b).d.hi) := ⟨_, rfl⟩
      rw [← hwz] at kz bz
      simp only [set8] at hwz
      go_wp2
      rw [← hwz]
      clear hwz c6 f6 l6
      obtain ⟨c6, f6, l6⟩ := kz.rules
      exact bodyPost_ret (v := .agg #[.int .i64 (zipR f a b).x.lo, .int .i64 (zipR f a b).x.hi, .int .i64 (zipR f a b).y.lo, .int .i64 (zipR f a b).y.hi, .int .i64 (zipR f a b).s.lo, .int .i64 (zipR f a b).s.hi, .int .i64 (zipR f a b).d.lo, .int .i64 (zipR f a b).d.hi]) (by simp [results, Tryz.results81, go_sem, c6]) rfl ⟨rfl, bz⟩
end Go.Proofs.YthjdjpcomocffaaGreat
