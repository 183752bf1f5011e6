/-
  Walks in region: bounds of numbers, regions as four bounds, roots.
  Walks in region: points as regions, operations bound by bound, what checks a region.
  Walks in region: operations bound by bound.
  The rows of a region, and the ends of its rows, as iterators.
  The ends of the rows of a region, as an iterator.
  Walks in region: Check, All, done, CheckPoint, inside.
  The least bounds of the ends of all rows.
  The tight region.
-/
import Derived.Test.YtcmbmmpihiekhaaGreatTW
import Derived.Test.YtcmbmmpihiekhaaGreatBase
import Derived.Deep.RegionWith
import Derived.BigQuiet
import Derived.LoopN
set_option maxRecDepth 100000
set_option maxHeartbeats 16000000
set_option linter.unusedSimpArgs false
set_option linter.unusedVariables false
namespace Go.Proofs.YtcmbmmpihiekhaaGreat
open Go.RowKit Go.Shelf

theorem rwithin_any (n lo hi : Int) (w : World) :
    Calls Tryz.prog 85 #[.int .i64 n, .int .i64 lo, .int .i64 hi] w fun e w' => e = .returned (.bool (decide (lo ≤ n ∧ n ≤ hi))) ∧ w = w' := by
  by_cases h : lo ≤ n
  · go_enter Tryz.func85, Tryz.ntmps85
    go_wp2
    go_ret
    simp [h]
  · go_enter Tryz.func85, Tryz.ntmps85
    go_wp2
    go_ret
    simp; omega
theorem fits_any (m : Int) (b : Bnd) (w : World) (hm0 : 0 ≤ m) (hm : m ≤ 100000) :
    Calls Tryz.prog 84 #[.int .i64 m, .agg #[.int .i64 b.lo, .int .i64 b.hi]] w fun e w' => e = .returned (.bool (okBnd m b)) ∧ Below w.heap.size w w' := by
  by_cases h1 : -m ≤ b.lo
  · by_cases h2 : b.lo ≤ b.hi
    · go_enter Tryz.func84, Tryz.ntmps84
      go_wp2
      go_ret
      exact ⟨ret_bool (by simp [okBnd, h1, h2]), (Below.refl _ _).alloc (Nat.le_refl _) _⟩
    · go_enter Tryz.func84, Tryz.ntmps84
      go_wp2
      go_ret
      exact ⟨ret_bool (by simp [okBnd, h1]; omega), (Below.refl _ _).alloc (Nat.le_refl _) _⟩
  · go_enter Tryz.func84, Tryz.ntmps84
    go_wp2
    go_ret
    exact ⟨ret_bool (by simp [okBnd]; omega), (Below.refl _ _).alloc (Nat.le_refl _) _⟩
theorem rbounds_any (r : Reg) (w : World) :
    Calls Tryz.prog 71 #[.agg #[.int .i64 r.x.lo, .int .i64 r.x.hi, .int .i64 r.y.lo, .int .i64 r.y.hi, .int .i64 r.s.lo, .int .i64 r.s.hi, .int .i64 r.d.lo, .int .i64 r.d.hi]] w fun e w' =>
      e = .returned (.agg #[.int .i64 r.x.lo, .int .i64 r.x.hi, .int .i64 r.y.lo, .int .i64 r.y.hi, .int .i64 r.s.lo, .int .i64 r.s.hi, .int .i64 r.d.lo, .int .i64 r.d.hi]) ∧ Below w.heap.size w w' := by
  obtain ⟨wz, hwz⟩ : ∃ x, x = (w.alloc (.cells #[.int .i64 r.x.lo, .int .i64 r.x.hi, .int .i64 r.y.lo, .int .i64 r.y.hi, .int .i64 r.s.lo, .int .i64 r.s.hi, .int .i64 r.d.lo, .int .i64 r.d.hi] 68)).alloc (.cells #[.int .i64 r.x.lo, .int .i64 r.x.hi, .int .i64 r.y.lo, .int .i64 r.y.hi, .int .i64 r.s.lo, .int .i64 r.s.hi, .int .i64 r.d.lo, .int .i64 r.d.hi] 173) := ⟨_, rfl⟩
  have k1 : Blk wz (w.heap.size + 1) 173 #[.int .i64 r.x.lo, .int .i64 r.x.hi, .int .i64 r.y.lo, .int .i64 r.y.hi, .int .i64 r.s.lo, .int .i64 r.s.hi, .int .i64 r.d.lo, .int .i64 r.d.hi] := by rw [hwz]; exact Blk.newAt (by simp)
  have b1 : Below w.heap.size w wz := by rw [hwz]; exact ((Below.refl _ _).alloc (Nat.le_refl _) _).alloc (by simp) _
  go_enter Tryz.func71, Tryz.ntmps71
  go_wp2
  rw [← hwz]
  clear hwz
  obtain ⟨c0, f0, l0⟩ := k1.rules
  exact bodyPost_ret (v := .agg #[.int .i64 r.x.lo, .int .i64 r.x.hi, .int .i64 r.y.lo, .int .i64 r.y.hi, .int .i64 r.s.lo, .int .i64 r.s.hi, .int .i64 r.d.lo, .int .i64 r.d.hi]) (by simp [results, Tryz.results71, go_sem, c0]) rfl ⟨rfl, b1⟩
theorem region_any (r : Reg) (w : World) :
    Calls Tryz.prog 148 #[.agg #[.int .i64 r.x.lo, .int .i64 r.x.hi, .int .i64 r.y.lo, .int .i64 r.y.hi, .int .i64 r.s.lo, .int .i64 r.s.hi, .int .i64 r.d.lo, .int .i64 r.d.hi]] w fun e w' =>
      e = .returned (.agg #[.int .i64 r.x.lo, .int .i64 r.x.hi, .int .i64 r.y.lo, .int .i64 r.y.hi, .int .i64 r.s.lo, .int .i64 r.s.hi, .int .i64 r.d.lo, .int .i64 r.d.hi]) ∧ Below w.heap.size w w' := by
  obtain ⟨wz, hwz⟩ : ∃ x, x = (w.alloc (.cells #[.int .i64 r.x.lo, .int .i64 r.x.hi, .int .i64 r.y.lo, .int .i64 r.y.hi, .int .i64 r.s.lo, .int .i64 r.s.hi, .int .i64 r.d.lo, .int .i64 r.d.hi] 173)).alloc (.cells #[.int .i64 r.x.lo, .int .i64 r.x.hi, .int .i64 r.y.lo, .int .i64 r.y.hi, .int .i64 r.s.lo, .int .i64 r.s.hi, .int .i64 r.d.lo, .int .i64 r.d.hi] 68) := ⟨_, rfl⟩
  have k1 : Blk wz (w.heap.size + 1) 68 #[.int .i64 r.x.lo, .int .i64 r.x.hi, .int .i64 r.y.lo, .int .i64 r.y.hi, .int .i64 r.s.lo, .int .i64 r.s.hi, .int .i64 r.d.lo, .int .i64 r.d.hi] := by rw [hwz]; exact Blk.newAt (by simp)
  have b1 : Below w.heap.size w wz := by rw [hwz]; exact ((Below.refl _ _).alloc (Nat.le_refl _) _).alloc (by simp) _
  go_enter Tryz.func148, Tryz.ntmps148
  go_wp2
  rw [← hwz]
  clear hwz
  obtain ⟨c0, f0, l0⟩ := k1.rules
  exact bodyPost_ret (v := .agg #[.int .i64 r.x.lo, .int .i64 r.x.hi, .int .i64 r.y.lo, .int .i64 r.y.hi, .int .i64 r.s.lo, .int .i64 r.s.hi, .int .i64 r.d.lo, .int .i64 r.d.hi]) (by simp [results, Tryz.results148, go_sem, c0]) rfl ⟨rfl, b1⟩
/-! root -/
def pw (j : Nat) : Int := ((2 ^ j : Nat) : Int)
theorem pw_succ (j : Nat) : pw (j + 1) = 2 * pw j := by simp [pw, Nat.pow_succ]; omega
theorem pw_pos (j : Nat) : 0 < pw j := by have := Nat.pow_pos (n := j) (show 0 < 2 by omega); simp only [pw]; omega
theorem pw_le : ∀ j, j ≤ 21 → pw j ≤ 2097152 := by decide
def rbit : Nat → Int
  | 0 => 0
  | j + 1 => pw j
theorem rbit_half (j : Nat) : pw j / 2 = rbit j := by
  cases j with
  | zero => rfl
  | succ j =>
    rw [pw_succ, Int.mul_ediv_cancel_left _ (by omega)]
    rfl
theorem root_of {n r : Int} (hr : 0 ≤ r) (h1 : r * r ≤ n) (h2 : n < (r + 1) * (r + 1)) : rootS n = r := by
  obtain ⟨m, rfl⟩ : ∃ m : Nat, r = m := ⟨r.toNat, by omega⟩
  have hm : (0 : Int) ≤ (m : Int) * m := Int.mul_nonneg (by omega) (by omega)
  obtain ⟨k, rfl⟩ : ∃ k : Nat, n = k := ⟨n.toNat, by omega⟩
  unfold rootS
  rw [Int.toNat_natCast, isq_eq (r := m) (by exact_mod_cast h1) (by exact_mod_cast h2)]
theorem sq_le {a b : Int} (h0 : 0 ≤ a) (h : a ≤ b) : a * a ≤ b * b := Int.mul_le_mul h h h0 (by omega)
theorem root_any (n : Int) (w : World) (h0 : 0 ≤ n) (hn : n ≤ 1099511627776) :
    Calls Tryz.prog 200 #[.int .i64 n] w fun e w' => e = .returned (.int .i64 (rootS n)) ∧ w = w' := by
  have hstart : n < (0 + pw 21) * (0 + pw 21) := Int.lt_of_le_of_lt hn (by decide)
  have hb21 : pw 20 = 1048576 := by decide
  replace hstart := Lib.hid hstart
  replace hb21 := Lib.hid hb21
  go_enter Tryz.func200, Tryz.ntmps200
  go_wp2_with fail
  go_loopw [3, 4] (fun r b wr => ∃ (j : Nat) (q : Int), r = .int .i64 q ∧ b = .int .i64 (rbit j) ∧ j ≤ 21 ∧ 0 ≤ q ∧ q * q ≤ n ∧ n < (q + pw j) * (q + pw j) ∧ wr = w) (fun r b wr => (intOf b).toNat)
  case atStart => exact ⟨21, 0, rfl, by show _ = Value.int .i64 (pw 20); rw [hb21.out], Nat.le_refl _, Int.le_refl _, by omega, hstart.out, rfl⟩
  case round =>
    obtain ⟨j, q, rfl, rfl, hj, hq, h1, h2, rfl⟩ := hrel
    have hq2 : q ≤ 1048576 := by
      rcases Int.lt_or_le 1048576 q with h | h
      · have := sq_le (show (0 : Int) ≤ 1048577 by omega) (show 1048577 ≤ q by omega); omega
      · exact h
    cases j with
    | zero =>
      have e := Lib.hid (root_of hq h1 h2)
      rw [show rbit 0 = 0 from rfl]
      clear h1 h2 hstart hb21
      go_wp2
      go_ret
      exact ⟨ret_int e.out.symm, rfl⟩
    | succ j =>
      have p0 := pw_pos j
      have p1 := pw_le j (by omega)
      have hh := Lib.hid (rbit_half j)
      have hs := pw_succ j
      rw [hs] at h2
      rw [show rbit (j + 1) = pw j from rfl]
      replace h1 := Lib.hid h1
      replace h2 := Lib.hid h2
      have hlow := Lib.hid (rbit_half j)
      generalize hP : pw j = P at *
      replace hP := Lib.hid hP
      have t1 := IntWalk.i64_in (q + P) (by omega)
      have m0 : 0 ≤ (q + P) * (q + P) := Int.mul_nonneg (by omega) (by omega)
      have m1 : (q + P) * (q + P) ≤ 4194304 * 4194304 := sq_le (by omega) (by omega)
      have t2 := IntWalk.i64_in ((q + P) * (q + P)) (by omega)
      have hrb : Hid (rbit j < P ∧ 0 ≤ rbit j) := by
        show _ ∧ _
        rw [← hh.out]
        omega
      by_cases hc : (q + P) * (q + P) ≤ n
      · go_wp2
        refine ⟨⟨j, q + P, rfl, by rw [hh.out], by omega, by omega, hc, ?_, trivial⟩, ?_⟩
        · rw [hP.out]
          have := h2.out
          rwa [show q + P + P = q + 2 * P by omega]
        · rw [hh.out]
          have := hrb.out
          simp [intOf]; omega
      · go_wp2
        refine ⟨⟨j, q, rfl, by rw [hh.out], by omega, hq, h1.out, by rw [hP.out]; omega, trivial⟩, ?_⟩
        rw [hh.out]
        have := hrb.out
        simp [intOf]; omega
theorem Root_any (n : Int) (w : World) (h0 : 0 ≤ n) (hn : n ≤ 1099511627776) :
    Calls Tryz.prog 184 #[.int .i64 n] w fun e w' => e = .returned (.tuple #[.int .i64 (rootS n), .int .i64 0]) ∧ w = w' := by
  go_enter Tryz.func184, Tryz.ntmps184
  go_wp2_with (first | (go_at_call 85; refine (rwithin_any _ _ _ _).mono ?_; rintro e w' ⟨rfl, rfl⟩; rw [decide_eq_true ⟨h0, hn⟩]) | (go_at_call 200; refine (root_any n _ h0 hn).mono ?_; rintro e w' ⟨rfl, rfl⟩))
  go_ret2
  exact ⟨rfl, rfl⟩
end Go.Proofs.YtcmbmmpihiekhaaGreat
namespace Go.Proofs.YtcmbmmpihiekhaaGreat
open Go.RowKit Go.Shelf

def set8 (w : World) (g : Nat) (v0 v1 v2 v3 v4 v5 v6 v7 : Value) : World :=
  (((((((w.setCell ⟨g, 0, none⟩ v0).setCell ⟨g, 1, none⟩ v1).setCell ⟨g, 2, none⟩ v2).setCell ⟨g, 3, none⟩ v3).setCell ⟨g, 4, none⟩ v4).setCell ⟨g, 5, none⟩ v5).setCell ⟨g, 6, none⟩ v6).setCell ⟨g, 7, none⟩ v7
theorem Blk.set8 {w : World} {g : Nat} {t : TypeId} {a0 a1 a2 a3 a4 a5 a6 a7 : Value} (h : Blk w g t #[a0, a1, a2, a3, a4, a5, a6, a7]) (v0 v1 v2 v3 v4 v5 v6 v7 : Value) : Blk (set8 w g v0 v1 v2 v3 v4 v5 v6 v7) g t #[v0, v1, v2, v3, v4, v5, v6, v7] := by
  have k := (((((((h.set_ 0 v0).set_ 1 v1).set_ 2 v2).set_ 3 v3).set_ 4 v4).set_ 5 v5).set_ 6 v6).set_ 7 v7
  simp only [sA, sZ, sS] at k
  exact k
theorem below_set8 {B : Nat} {w0 w : World} {g : Nat} (h : Below B w0 w) (hg : B ≤ g) (v0 v1 v2 v3 v4 v5 v6 v7 : Value) : Below B w0 (set8 w g v0 v1 v2 v3 v4 v5 v6 v7) :=
  (((((((h.setCell (p := ⟨g, 0, none⟩) hg v0).setCell (p := ⟨g, 1, none⟩) hg v1).setCell (p := ⟨g, 2, none⟩) hg v2).setCell (p := ⟨g, 3, none⟩) hg v3).setCell (p := ⟨g, 4, none⟩) hg v4).setCell (p := ⟨g, 5, none⟩) hg v5).setCell (p := ⟨g, 6, none⟩) hg v6).setCell (p := ⟨g, 7, none⟩) hg v7
theorem far_set8 {w : World} {g g' : Nat} {t : TypeId} {cs : Array Value} (h : Blk w g' t cs) (hg : g' ≠ g) (v0 v1 v2 v3 v4 v5 v6 v7 : Value) : Blk (set8 w g v0 v1 v2 v3 v4 v5 v6 v7) g' t cs :=
  (((((((h.far (p := ⟨g, 0, none⟩) hg v0).far (p := ⟨g, 1, none⟩) hg v1).far (p := ⟨g, 2, none⟩) hg v2).far (p := ⟨g, 3, none⟩) hg v3).far (p := ⟨g, 4, none⟩) hg v4).far (p := ⟨g, 5, none⟩) hg v5).far (p := ⟨g, 6, none⟩) hg v6).far (p := ⟨g, 7, none⟩) hg v7
theorem heap_set8 {g k : Nat} (w : World) (h : k ≠ g) (v0 v1 v2 v3 v4 v5 v6 v7 : Value) : (set8 w g v0 v1 v2 v3 v4 v5 v6 v7).heap[k]? = w.heap[k]? := by
  unfold set8
  repeat rw [Below.heap_setCell _ _ _ _ (by exact h)]
theorem rspanB_any (a b : Bnd) (w : World) (h1 : -1000000 ≤ a.lo ∧ a.lo ≤ 1000000 ∧ -1000000 ≤ a.hi ∧ a.hi ≤ 1000000) (h2 : -1000000 ≤ b.lo ∧ b.lo ≤ 1000000 ∧ -1000000 ≤ b.hi ∧ b.hi ≤ 1000000) :
    Calls Tryz.prog 166 #[.agg #[.int .i64 a.lo, .int .i64 a.hi], .agg #[.int .i64 b.lo, .int .i64 b.hi]] w fun e w' => e = .returned (.agg #[.int .i64 (spanB a b).lo, .int .i64 (spanB a b).hi]) ∧ Below w.heap.size w w' := by
  go_enter Tryz.func166, Tryz.ntmps166
  go_wp2
  all_goals
    refine bodyPost_ret (v := .agg #[.int .i64 (spanB a b).lo, .int .i64 (spanB a b).hi]) (by simp [results, Tryz.results166, go_sem, spanB] <;> omega) rfl ⟨rfl, ?_⟩
    exact (((Below.refl w.heap.size w).alloc (Nat.le_refl _) _).alloc (by simp) _).alloc (by simp; omega) _
theorem rplusB_any (a b : Bnd) (w : World) (h1 : -1000000 ≤ a.lo ∧ a.lo ≤ 1000000 ∧ -1000000 ≤ a.hi ∧ a.hi ≤ 1000000) (h2 : -1000000 ≤ b.lo ∧ b.lo ≤ 1000000 ∧ -1000000 ≤ b.hi ∧ b.hi ≤ 1000000) :
    Calls Tryz.prog 208 #[.agg #[.int .i64 a.lo, .int .i64 a.hi], .agg #[.int .i64 b.lo, .int .i64 b.hi]] w fun e w' => e = .returned (.agg #[.int .i64 (plusB a b).lo, .int .i64 (plusB a b).hi]) ∧ Below w.heap.size w w' := by
  go_enter Tryz.func208, Tryz.ntmps208
  go_wp2
  all_goals
    refine bodyPost_ret (v := .agg #[.int .i64 (plusB a b).lo, .int .i64 (plusB a b).hi]) (by simp [results, Tryz.results208, go_sem, plusB] <;> omega) rfl ⟨rfl, ?_⟩
    exact (((Below.refl w.heap.size w).alloc (Nat.le_refl _) _).alloc (by simp) _).alloc (by simp; omega) _
theorem rcutB_any (a b : Bnd) (w : World) (h1 : -1000000 ≤ a.lo ∧ a.lo ≤ 1000000 ∧ -1000000 ≤ a.hi ∧ a.hi ≤ 1000000) (h2 : -1000000 ≤ b.lo ∧ b.lo ≤ 1000000 ∧ -1000000 ≤ b.hi ∧ b.hi ≤ 1000000) :
    Calls Tryz.prog 74 #[.agg #[.int .i64 a.lo, .int .i64 a.hi], .agg #[.int .i64 b.lo, .int .i64 b.hi]] w fun e w' => e = .returned (.agg #[.int .i64 (cutB a b).lo, .int .i64 (cutB a b).hi]) ∧ Below w.heap.size w w' := by
  go_enter Tryz.func74, Tryz.ntmps74
  go_wp2
  all_goals
    refine bodyPost_ret (v := .agg #[.int .i64 (cutB a b).lo, .int .i64 (cutB a b).hi]) (by simp [results, Tryz.results74, go_sem, cutB] <;> omega) rfl ⟨rfl, ?_⟩
    exact (((Below.refl w.heap.size w).alloc (Nat.le_refl _) _).alloc (by simp) _).alloc (by simp; omega) _
def jv : Nat → Value
  | 0 => .int .i64 0
  | 1 => .int .i64 1
  | 2 => .int .i64 2
  | 3 => .int .i64 3
  | _ => .int .i64 4
def ofCells (p : Pnt) : Nat → Array Value
  | 0 => #[.int .i64 0, .int .i64 0, .int .i64 0, .int .i64 0, .int .i64 0, .int .i64 0, .int .i64 0, .int .i64 0]
  | 1 => #[.int .i64 p.x, .int .i64 p.x, .int .i64 0, .int .i64 0, .int .i64 0, .int .i64 0, .int .i64 0, .int .i64 0]
  | 2 => #[.int .i64 p.x, .int .i64 p.x, .int .i64 p.y, .int .i64 p.y, .int .i64 0, .int .i64 0, .int .i64 0, .int .i64 0]
  | 3 => #[.int .i64 p.x, .int .i64 p.x, .int .i64 p.y, .int .i64 p.y, .int .i64 (p.x + p.y), .int .i64 (p.x + p.y), .int .i64 0, .int .i64 0]
  | _ => #[.int .i64 p.x, .int .i64 p.x, .int .i64 p.y, .int .i64 p.y, .int .i64 (p.x + p.y), .int .i64 (p.x + p.y), .int .i64 (p.x - p.y), .int .i64 (p.x - p.y)]
theorem of_any (p : Pnt) (w : World) (h1 : -1000000 ≤ p.x ∧ p.x ≤ 1000000 ∧ -1000000 ≤ p.y ∧ p.y ≤ 1000000) :
    Calls Tryz.prog 73 #[.agg #[.int .i64 p.x, .int .i64 p.y]] w fun e w' =>
      e = .returned (.agg #[.int .i64 (ofP p).x.lo, .int .i64 (ofP p).x.hi, .int .i64 (ofP p).y.lo, .int .i64 (ofP p).y.hi, .int .i64 (ofP p).s.lo, .int .i64 (ofP p).s.hi, .int .i64 (ofP p).d.lo, .int .i64 (ofP p).d.hi]) ∧ Below w.heap.size w w' := by
  have i0 : ∀ (a b c d : Value) w, (Instr.index 248 (.agg #[a, b, c, d]) (.int .i64 0)).run Tryz.prog w = .ok a w := fun _ _ _ _ _ => by kernel_rfl
  have i1 : ∀ (a b c d : Value) w, (Instr.index 248 (.agg #[a, b, c, d]) (.int .i64 1)).run Tryz.prog w = .ok b w := fun _ _ _ _ _ => by kernel_rfl
  have i2 : ∀ (a b c d : Value) w, (Instr.index 248 (.agg #[a, b, c, d]) (.int .i64 2)).run Tryz.prog w = .ok c w := fun _ _ _ _ _ => by kernel_rfl
  have i3 : ∀ (a b c d : Value) w, (Instr.index 248 (.agg #[a, b, c, d]) (.int .i64 3)).run Tryz.prog w = .ok d w := fun _ _ _ _ _ => by kernel_rfl
  go_enter Tryz.func73, Tryz.ntmps73
  go_wp2_with fail
  go_loopw [21] (fun j wr => ∃ k : Nat, j = jv k ∧ k ≤ 4 ∧ Blk wr (w.heap.size + 1) 173 #[.int .i64 0, .int .i64 0, .int .i64 0, .int .i64 0, .int .i64 0, .int .i64 0, .int .i64 0, .int .i64 0] ∧ Blk wr (w.heap.size + 1 + 1) 173 (ofCells p k) ∧ Below w.heap.size w wr) (fun j wr => 4 - (intOf j).toNat)
  case atStart =>
    exact ⟨0, rfl, by omega, (Blk.newAt (by simp)).alloc _, Blk.newAt (by simp), (((Below.refl w.heap.size w).alloc (Nat.le_refl _) _).alloc (by simp) _).alloc (by simp; omega) _⟩
  case round =>
    obtain ⟨k, rfl, hk, k2, k3, hb⟩ := hrel
    match k, hk with
    | 0, _ =>
      have k3n : Blk ((wr.setCell ⟨w.heap.size + 1 + 1, 0, none⟩ (.int .i64 p.x)).setCell ⟨w.heap.size + 1 + 1, 1, none⟩ (.int .i64 p.x)) (w.heap.size + 1 + 1) 173 (ofCells p (0 + 1)) := (k3.set_ 0 _).set_ 1 _
      have k2n := (k2.far (p := ⟨w.heap.size + 1 + 1, 0, none⟩) (by dsimp only; omega) (.int .i64 p.x)).far (p := ⟨w.heap.size + 1 + 1, 1, none⟩) (by dsimp only; omega) (.int .i64 p.x)
      have hbn := (hb.setCell (p := ⟨w.heap.size + 1 + 1, 0, none⟩) (by dsimp only; omega) (.int .i64 p.x)).setCell (p := ⟨w.heap.size + 1 + 1, 1, none⟩) (by dsimp only; omega) (.int .i64 p.x)
      simp only [ofCells] at k3
      simp only [jv]
      obtain ⟨c3, f3, l3⟩ := k3.rules
      go_wp2_with fail
      go_roundw
      case rel => exact ⟨0 + 1, rfl, by omega, k2n, k3n, hbn⟩
      case measure => simp [intOf]
    | 1, _ =>
      have k3n : Blk ((wr.setCell ⟨w.heap.size + 1 + 1, 2, none⟩ (.int .i64 p.y)).setCell ⟨w.heap.size + 1 + 1, 3, none⟩ (.int .i64 p.y)) (w.heap.size + 1 + 1) 173 (ofCells p (1 + 1)) := (k3.set_ 2 _).set_ 3 _
      have k2n := (k2.far (p := ⟨w.heap.size + 1 + 1, 2, none⟩) (by dsimp only; omega) (.int .i64 p.y)).far (p := ⟨w.heap.size + 1 + 1, 3, none⟩) (by dsimp only; omega) (.int .i64 p.y)
      have hbn := (hb.setCell (p := ⟨w.heap.size + 1 + 1, 2, none⟩) (by dsimp only; omega) (.int .i64 p.y)).setCell (p := ⟨w.heap.size + 1 + 1, 3, none⟩) (by dsimp only; omega) (.int .i64 p.y)
      simp only [ofCells] at k3
      simp only [jv]
      obtain ⟨c3, f3, l3⟩ := k3.rules
      go_wp2_with fail
      go_roundw
      case rel => exact ⟨1 + 1, rfl, by omega, k2n, k3n, hbn⟩
      case measure => simp [intOf]
    | 2, _ =>
      have k3n : Blk ((wr.setCell ⟨w.heap.size + 1 + 1, 4, none⟩ (.int .i64 (p.x + p.y))).setCell ⟨w.heap.size + 1 + 1, 5, none⟩ (.int .i64 (p.x + p.y))) (w.heap.size + 1 + 1) 173 (ofCells p (2 + 1)) := (k3.set_ 4 _).set_ 5 _
      have k2n := (k2.far (p := ⟨w.heap.size + 1 + 1, 4, none⟩) (by dsimp only; omega) (.int .i64 (p.x + p.y))).far (p := ⟨w.heap.size + 1 + 1, 5, none⟩) (by dsimp only; omega) (.int .i64 (p.x + p.y))
      have hbn := (hb.setCell (p := ⟨w.heap.size + 1 + 1, 4, none⟩) (by dsimp only; omega) (.int .i64 (p.x + p.y))).setCell (p := ⟨w.heap.size + 1 + 1, 5, none⟩) (by dsimp only; omega) (.int .i64 (p.x + p.y))
      simp only [ofCells] at k3
      simp only [jv]
      obtain ⟨c3, f3, l3⟩ := k3.rules
      go_wp2_with fail
      go_roundw
      case rel => exact ⟨2 + 1, rfl, by omega, k2n, k3n, hbn⟩
      case measure => simp [intOf]
    | 3, _ =>
      have k3n : Blk ((wr.setCell ⟨w.heap.size + 1 + 1, 6, none⟩ (.int .i64 (p.x - p.y))).setCell ⟨w.heap.size + 1 + 1, 7, none⟩ (.int .i64 (p.x - p.y))) (w.heap.size + 1 + 1) 173 (ofCells p (3 + 1)) := (k3.set_ 6 _).set_ 7 _
      have k2n := (k2.far (p := ⟨w.heap.size + 1 + 1, 6, none⟩) (by dsimp only; omega) (.int .i64 (p.x - p.y))).far (p := ⟨w.heap.size + 1 + 1, 7, none⟩) (by dsimp only; omega) (.int .i64 (p.x - p.y))
      have hbn := (hb.setCell (p := ⟨w.heap.size + 1 + 1, 6, none⟩) (by dsimp only; omega) (.int .i64 (p.x - p.y))).setCell (p := ⟨w.heap.size + 1 + 1, 7, none⟩) (by dsimp only; omega) (.int .i64 (p.x - p.y))
      simp only [ofCells] at k3
      simp only [jv]
      obtain ⟨c3, f3, l3⟩ := k3.rules
      go_wp2_with fail
      go_roundw
      case rel => exact ⟨3 + 1, rfl, by omega, k2n, k3n, hbn⟩
      case measure => simp [intOf]
    | 4, _ =>
      simp only [ofCells] at k3
      simp only [jv]
      obtain ⟨c3, f3, l3⟩ := k3.rules
      obtain ⟨c2, f2, l2⟩ := k2.rules
      have kz := k2.set8 (.int .i64 p.x) (.int .i64 p.x) (.int .i64 p.y) (.int .i64 p.y) (.int .i64 (p.x + p.y)) (.int .i64 (p.x + p.y)) (.int .i64 (p.x - p.y)) (.int .i64 (p.x - p.y))
      have bz := below_set8 (g := w.heap.size + 1) hb (by omega) (.int .i64 p.x) (.int .i64 p.x) (.int .i64 p.y) (.int .i64 p.y) (.int .i64 (p.x + p.y)) (.int .i64 (p.x + p.y)) (.int .i64 (p.x - p.y)) (.int .i64 (p.x - p.y))
      obtain ⟨wz, hwz⟩ : ∃ x, x = set8 wr (w.heap.size + 1) (.int .i64 p.x) (.int .i64 p.x) (.int .i64 p.y) (.int .i64 p.y) (.int .i64 (p.x + p.y)) (.int .i64 (p.x + p.y)) (.int .i64 (p.x - p.y)) (.int .i64 (p.x - p.y)) := ⟨_, rfl⟩
      rw [← hwz] at kz bz
      simp only [set8] at hwz
      go_wp2
      rw [← hwz]
      clear hwz c2 f2 l2
      obtain ⟨c2, f2, l2⟩ := kz.rules
      exact bodyPost_ret (v := .agg #[.int .i64 p.x, .int .i64 p.x, .int .i64 p.y, .int .i64 p.y, .int .i64 (p.x + p.y), .int .i64 (p.x + p.y), .int .i64 (p.x - p.y), .int .i64 (p.x - p.y)]) (by simp [results, Tryz.results73, go_sem, c2]) rfl ⟨rfl, bz⟩
end Go.Proofs.YtcmbmmpihiekhaaGreat
namespace Go.Proofs.YtcmbmmpihiekhaaGreat
open Go.RowKit Go.Shelf

def midB (b : Bnd) : Prop := -1000000 ≤ b.lo ∧ b.lo ≤ 1000000 ∧ -1000000 ≤ b.hi ∧ b.hi ≤ 1000000
def midR (r : Reg) : Prop := midB r.x ∧ midB r.y ∧ midB r.s ∧ midB r.d
/-- An operation with two bounds, as it is handed to combined. -/
def OpB (g : Nat) (f : Bnd → Bnd → Bnd) : Prop :=
  ∀ (W : World) (a b : Bnd), midB a → midB b → Calls Tryz.prog g #[.agg #[.int .i64 a.lo, .int .i64 a.hi], .agg #[.int .i64 b.lo, .int .i64 b.hi]] W fun e w' => e = .returned (.agg #[.int .i64 (f a b).lo, .int .i64 (f a b).hi]) ∧ Below W.heap.size W w'
theorem op_spanB : OpB 166 spanB := fun W a b h1 h2 => rspanB_any a b W h1 h2
theorem eg_spanB : Enters Tryz.prog 166 := enters_of Tryz.func166 (by kernel_rfl) rfl
theorem op_plusB : OpB 208 plusB := fun W a b h1 h2 => rplusB_any a b W h1 h2
theorem eg_plusB : Enters Tryz.prog 208 := enters_of Tryz.func208 (by kernel_rfl) rfl
theorem op_cutB : OpB 74 cutB := fun W a b h1 h2 => rcutB_any a b W h1 h2
theorem eg_cutB : Enters Tryz.prog 74 := enters_of Tryz.func74 (by kernel_rfl) rfl
def regA (r : Reg) : Array Value := #[.int .i64 r.x.lo, .int .i64 r.x.hi, .int .i64 r.y.lo, .int .i64 r.y.hi, .int .i64 r.s.lo, .int .i64 r.s.hi, .int .i64 r.d.lo, .int .i64 r.d.hi]
def combK (f : Bnd → Bnd → Bnd) (a b : Reg) : Nat → Reg
  | 0 => a
  | 1 => { a with x := f a.x b.x }
  | 2 => { a with x := f a.x b.x, y := f a.y b.y }
  | 3 => { a with x := f a.x b.x, y := f a.y b.y, s := f a.s b.s }
  | _ => zipR f a b
theorem combined_any (a b : Reg) (f : Bnd → Bnd → Bnd) (g : Nat) (w : World) (eg : ∀ args w, (callFunc g args).run Tryz.prog w = .ok (.enter g args) w) (ha : midR a) (hb0 : midR b) (hop : OpB g f) :
    Calls Tryz.prog 72 #[.agg (regA a), .agg (regA b), .func (.func g) #[] #[]] w fun e w' =>
      e = .returned (.agg (regA (zipR f a b))) ∧ Below w.heap.size w w' := by
  replace hop := Lib.hid hop
  replace ha := Lib.hid ha
  replace hb0 := Lib.hid hb0
  simp only [regA]
  go_enter Tryz.func72, Tryz.ntmps72
  go_wp2_with fail
  go_loopw [8] (fun j wr => ∃ k : Nat, j = jv k ∧ k ≤ 4 ∧ Blk wr w.heap.size 173 (regA (combK f a b k)) ∧ Blk wr (w.heap.size + 1) 173 (regA b) ∧ Blk wr (w.heap.size + 1 + 1) 173 #[.int .i64 0, .int .i64 0, .int .i64 0, .int .i64 0, .int .i64 0, .int .i64 0, .int .i64 0, .int .i64 0] ∧ Below w.heap.size w wr) (fun j wr => 4 - (intOf j).toNat)
  case atStart =>
    exact ⟨0, rfl, by omega, ((Blk.newAt rfl).alloc _).alloc _, (Blk.newAt (by simp)).alloc _, Blk.newAt (by simp), (((Below.refl w.heap.size w).alloc (Nat.le_refl _) _).alloc (by simp) _).alloc (by simp; omega) _⟩
  case round =>
    obtain ⟨k, rfl, hk, k3, k4, k6, hb⟩ := hrel
    match k, hk with
    | 0, _ =>
      have hcall := fun W => hop.out W a.x b.x ha.out.1 hb0.out.1
      simp only [combK, regA] at k3
      simp only [regA] at k4
      rw [show jv 0 = .int .i64 0 from rfl]
      obtain ⟨c3, f3, l3⟩ := k3.rules
      obtain ⟨c4, f4, l4⟩ := k4.rules
      go_wp2_with fail
      go_region_with (first | (go_at_fn g; refine (hcall _).mono ?_; rintro e w' ⟨rfl, hbx⟩; replace hbx := below_of_drew hbx; have k3x := k3.below hbx; clear c3 f3 l3 c4 f4 l4; obtain ⟨c3, f3, l3⟩ := k3x.rules))
      all_goals
        clear c3 f3 l3
        have b2 := hb.trans (hbx.mono hb.size)
        have k4x := k4.below hbx
        have k6x := k6.below hbx
        go_wp2_with fail
        go_roundw
        case rel => exact ⟨0 + 1, rfl, by omega, (k3x.set_ 0 _).set_ 1 _, (k4x.far (by dsimp only; omega) _).far (by dsimp only; omega) _, (k6x.far (by dsimp only; omega) _).far (by dsimp only; omega) _, (b2.setCell (p := ⟨w.heap.size, 0, none⟩) (Nat.le_refl _) _).setCell (p := ⟨w.heap.size, 1, none⟩) (Nat.le_refl _) _⟩
        case measure => simp [intOf]
    | 1, _ =>
      have hcall := fun W => hop.out W a.y b.y ha.out.2.1 hb0.out.2.1
      simp only [combK, regA] at k3
      simp only [regA] at k4
      rw [show jv 1 = .int .i64 1 from rfl]
      obtain ⟨c3, f3, l3⟩ := k3.rules
      obtain ⟨c4, f4, l4⟩ := k4.rules
      go_wp2_with fail
      go_region_with (first | (go_at_fn g; refine (hcall _).mono ?_; rintro e w' ⟨rfl, hbx⟩; replace hbx := below_of_drew hbx; have k3x := k3.below hbx; clear c3 f3 l3 c4 f4 l4; obtain ⟨c3, f3, l3⟩ := k3x.rules))
      all_goals
        clear c3 f3 l3
        have b2 := hb.trans (hbx.mono hb.size)
        have k4x := k4.below hbx
        have k6x := k6.below hbx
        go_wp2_with fail
        go_roundw
        case rel => exact ⟨1 + 1, rfl, by omega, (k3x.set_ 2 _).set_ 3 _, (k4x.far (by dsimp only; omega) _).far (by dsimp only; omega) _, (k6x.far (by dsimp only; omega) _).far (by dsimp only; omega) _, (b2.setCell (p := ⟨w.heap.size, 2, none⟩) (Nat.le_refl _) _).setCell (p := ⟨w.heap.size, 3, none⟩) (Nat.le_refl _) _⟩
        case measure => simp [intOf]
    | 2, _ =>
      have hcall := fun W => hop.out W a.s b.s ha.out.2.2.1 hb0.out.2.2.1
      simp only [combK, regA] at k3
      simp only [regA] at k4
      rw [show jv 2 = .int .i64 2 from rfl]
      obtain ⟨c3, f3, l3⟩ := k3.rules
      obtain ⟨c4, f4, l4⟩ := k4.rules
      go_wp2_with fail
      go_region_with (first | (go_at_fn g; refine (hcall _).mono ?_; rintro e w' ⟨rfl, hbx⟩; replace hbx := below_of_drew hbx; have k3x := k3.below hbx; clear c3 f3 l3 c4 f4 l4; obtain ⟨c3, f3, l3⟩ := k3x.rules))
      all_goals
        clear c3 f3 l3
        have b2 := hb.trans (hbx.mono hb.size)
        have k4x := k4.below hbx
        have k6x := k6.below hbx
        go_wp2_with fail
        go_roundw
        case rel => exact ⟨2 + 1, rfl, by omega, (k3x.set_ 4 _).set_ 5 _, (k4x.far (by dsimp only; omega) _).far (by dsimp only; omega) _, (k6x.far (by dsimp only; omega) _).far (by dsimp only; omega) _, (b2.setCell (p := ⟨w.heap.size, 4, none⟩) (Nat.le_refl _) _).setCell (p := ⟨w.heap.size, 5, none⟩) (Nat.le_refl _) _⟩
        case measure => simp [intOf]
    | 3, _ =>
      have hcall := fun W => hop.out W a.d b.d ha.out.2.2.2 hb0.out.2.2.2
      simp only [combK, regA] at k3
      simp only [regA] at k4
      rw [show jv 3 = .int .i64 3 from rfl]
      obtain ⟨c3, f3, l3⟩ := k3.rules
      obtain ⟨c4, f4, l4⟩ := k4.rules
      go_wp2_with fail
      go_region_with (first | (go_at_fn g; refine (hcall _).mono ?_; rintro e w' ⟨rfl, hbx⟩; replace hbx := below_of_drew hbx; have k3x := k3.below hbx; clear c3 f3 l3 c4 f4 l4; obtain ⟨c3, f3, l3⟩ := k3x.rules))
      all_goals
        clear c3 f3 l3
        have b2 := hb.trans (hbx.mono hb.size)
        have k4x := k4.below hbx
        have k6x := k6.below hbx
        go_wp2_with fail
        go_roundw
        case rel => exact ⟨3 + 1, rfl, by omega, (k3x.set_ 6 _).set_ 7 _, (k4x.far (by dsimp only; omega) _).far (by dsimp only; omega) _, (k6x.far (by dsimp only; omega) _).far (by dsimp only; omega) _, (b2.setCell (p := ⟨w.heap.size, 6, none⟩) (Nat.le_refl _) _).setCell (p := ⟨w.heap.size, 7, none⟩) (Nat.le_refl _) _⟩
        case measure => simp [intOf]
    | 4, _ =>
      simp only [combK, regA] at k3
      rw [show jv 4 = .int .i64 4 from rfl]
      obtain ⟨c3, f3, l3⟩ := k3.rules
      obtain ⟨c6, f6, l6⟩ := k6.rules
      have kz := k6.set8 (.int .i64 (zipR f a b).x.lo) (.int .i64 (zipR f a b).x.hi) (.int .i64 (zipR f a b).y.lo) (.int .i64 (zipR f a b).y.hi) (.int .i64 (zipR f a b).s.lo) (.int .i64 (zipR f a b).s.hi) (.int .i64 (zipR f a b).d.lo) (.int .i64 (zipR f a b).d.hi)
      have bz := below_set8 (g := w.heap.size + 1 + 1) hb (by omega) (.int .i64 (zipR f a b).x.lo) (.int .i64 (zipR f a b).x.hi) (.int .i64 (zipR f a b).y.lo) (.int .i64 (zipR f a b).y.hi) (.int .i64 (zipR f a b).s.lo) (.int .i64 (zipR f a b).s.hi) (.int .i64 (zipR f a b).d.lo) (.int .i64 (zipR f a b).d.hi)
      obtain ⟨wz, hwz⟩ : ∃ x, x = set8 wr (w.heap.size + 1 + 1) (.int .i64 (zipR f a b).x.lo) (.int .i64 (zipR f a b).x.hi) (.int .i64 (zipR f a b).y.lo) (.int .i64 (zipR f a b).y.hi) (.int .i64 (zipR f a b).s.lo) (.int .i64 (zipR f a b).s.hi) (.int .i64 (zipR f a b).d.lo) (.int .i64 (zipR f a b).d.hi) := ⟨_, rfl⟩
      rw [← hwz] at kz bz
      simp only [set8] at hwz
      go_wp2
      rw [← hwz]
      clear hwz c6 f6 l6
      obtain ⟨c6, f6, l6⟩ := kz.rules
      exact bodyPost_ret (v := .agg #[.int .i64 (zipR f a b).x.lo, .int .i64 (zipR f a b).x.hi, .int .i64 (zipR f a b).y.lo, .int .i64 (zipR f a b).y.hi, .int .i64 (zipR f a b).s.lo, .int .i64 (zipR f a b).s.hi, .int .i64 (zipR f a b).d.lo, .int .i64 (zipR f a b).d.hi]) (by simp [results, Tryz.results72, go_sem, c6]) rfl ⟨rfl, bz⟩
end Go.Proofs.YtcmbmmpihiekhaaGreat
namespace Go.Proofs.YtcmbmmpihiekhaaGreat
open Go.RowKit Go.Shelf
attribute [local go_sem] Oper.semAt_some

theorem max3_int (ats : Array TypeId) (ty : TypeId) (a b c : Int) : Builtin.max_ ats ty #[.int .i64 a, .int .i64 b, .int .i64 c] = pure (.int .i64 (max a (max b c))) := by
  simp only [Builtin.max_, Builtin.max2, List.foldlM_cons, List.foldlM_nil, pure_bind, bind_pure]
  congr 2
  repeat' split
  all_goals omega
theorem min3_int (ats : Array TypeId) (ty : TypeId) (a b c : Int) : Builtin.min_ ats ty #[.int .i64 a, .int .i64 b, .int .i64 c] = pure (.int .i64 (min a (min b c))) := by
  simp only [Builtin.min_, Builtin.min2, List.foldlM_cons, List.foldlM_nil, pure_bind, bind_pure]
  congr 2
  repeat' split
  all_goals omega
theorem rowsTo_succ (r : Reg) (j : Nat) : rowsTo r (j + 1) = rowsTo r j ++ (if (rowB r (r.x.lo + j)).fr ≤ (rowB r (r.x.lo + j)).to then [rowB r (r.x.lo + j)] else []) := rfl
theorem rowsTo_get {r : Reg} : ∀ {n j : Nat}, j ≤ n → ∀ (k : Nat) (q : RRow), (rowsTo r j)[k]? = some q → (rowsTo r n)[k]? = some q := by
  intro n
  induction n with
  | zero => intro j hj k q h; obtain rfl : j = 0 := by omega
            exact h
  | succ n ih =>
    intro j hj k q h
    rcases Nat.lt_or_eq_of_le hj with h1 | rfl
    · have := ih (show j ≤ n by omega) k q h
      rw [rowsTo_succ, List.getElem?_append_left (List.getElem?_eq_some_iff.1 this).1]
      exact this
    · exact h
/-- The four bounds, boxed. -/
def FourL (r : Reg) (gf : Nat) (W : World) : Prop := Blk W gf 173 (regA r)
def RowG (r : Reg) (k : Nat) (vs : Array Value) (_ : World) : Prop := ∃ q, (rowsL r)[k]? = some q ∧ vs = #[.agg #[.int .i64 q.x, .int .i64 q.fr, .int .i64 q.to]]
theorem RoundIn.anyn {n m : Nat} {P : Program} {l : Nat} {f : FuncId} {tmps : Array Value} {assign body : Code} {w : World} {R : Ending → World → Prop} (h : RoundIn Fence.wide n P l f tmps assign body w R) : RoundIn Fence.wide m P l f tmps assign body w R :=
  ⟨h.1, fun c cs _ => h.2 c cs (room_wide _)⟩
theorem RoundIn.anyl {n m lr : Nat} {P : Program} {l : Nat} {f : FuncId} {tmps : Array Value} {assign body : Code} {w : World} {R : Ending → World → Prop} (h : RoundIn Fence.wide n P l f tmps assign body w R) : RoundIn (Fence.wide.inRound lr) m P l f tmps assign body w R :=
  ⟨h.1, fun c cs _ => h.2 c cs (room_wide _)⟩
theorem rows1_iter (m : Nat) (r : Reg) (gf : Nat) (hr : midR r) :
    IterK Fence.wide m Tryz.prog 154 #[.pointer (some ⟨gf, 0, none⟩)] (rowsL r).length (RowG r) (FourL r gf) := by
  intro lr J Jx W hJ hJx hY hL h0
  have hmax := max3_int
  have hmin := min3_int
  obtain ⟨⟨x1, x2, x3, x4⟩, ⟨y1, y2, y3, y4⟩, ⟨s1, s2, s3, s4⟩, ⟨d1, d2, d3, d4⟩⟩ := hr
  refine callsIn_of_wp Tryz.func154 rfl trivial ?_ rfl
  simp only [Tryz.ntmps154, List.size_toArray, List.length_cons, List.length_nil, Nat.reduceAdd, Nat.reduceSub, Array.replicate_succ, Array.replicate_zero, List.push_toArray, List.append_toArray, List.nil_append, List.cons_append]
  have k1 : Blk W gf 173 (regA r) := hL
  simp only [regA] at k1
  obtain ⟨c1, f1, l1⟩ := k1.rules
  gi_wp2_with fail
  clear c1 f1 l1 k1
  gi_loopw [3] (fun i wr => ∃ j : Nat, i = .int .i64 (r.x.lo + j) ∧ j ≤ nX r ∧ FourL r gf wr ∧ W.heap.size ≤ wr.heap.size ∧ J (rowsTo r j).length wr) (fun i wr => (r.x.hi + 1 - intOf i).toNat)
  case atStart => exact ⟨0, by simp, Nat.zero_le _, hL, Nat.le_refl _, h0⟩
  case round =>
    obtain ⟨j, rfl, hj, hLr, hWr, hJr⟩ := hrel
    have k1 : Blk wr gf 173 (regA r) := hLr
    simp only [regA] at k1
    obtain ⟨c1, f1, l1⟩ := k1.rules
    have hjx : j < nX r ↔ r.x.lo + j ≤ r.x.hi := by unfold nX; omega
    replace hj := Lib.hid hj
    by_cases hlt : r.x.lo + j ≤ r.x.hi
    · have hj1 := Lib.hid (hjx.2 hlt)
      have hstep := Lib.hid (rowsTo_succ r j)
      have hlast := fun (h : (rowB r (r.x.lo + j)).fr ≤ (rowB r (r.x.lo + j)).to) => Lib.hid (show (rowsL r)[(rowsTo r j).length]? = some (rowB r (r.x.lo + j)) from
        rowsTo_get (show j + 1 ≤ nX r from hj1.out) _ _ (by rw [hstep.out, if_pos h]; simp))
      have e1 : Hid ((rowB r (r.x.lo + j)).fr = max r.y.lo (max (r.s.lo - (r.x.lo + j)) (r.x.lo + j - r.d.hi))) := rfl
      have e2 : Hid ((rowB r (r.x.lo + j)).to = min r.y.hi (min (r.s.hi - (r.x.lo + j)) (r.x.lo + j - r.d.lo))) := rfl
      have e3 : Hid ((rowB r (r.x.lo + j)).x = r.x.lo + j) := rfl
      have e1b : -3000000 ≤ (rowB r (r.x.lo + j)).fr ∧ (rowB r (r.x.lo + j)).fr ≤ 3000000 := by rw [e1.out]; omega
      clear hjx
      generalize rowB r (r.x.lo + j) = q at *
      generalize hx : r.x.lo + (j : Int) = x at *
      have hxb : -1000000 ≤ x ∧ x ≤ 1000000 := by omega
      have t1 := IntWalk.i64_in (r.s.lo - x) (by omega)
      have t2 := IntWalk.i64_in (x - r.d.hi) (by omega)
      have t3 := IntWalk.i64_in (r.s.hi - x) (by omega)
      have t4 := IntWalk.i64_in (x - r.d.lo) (by omega)
      have t5 := IntWalk.i64_in (x + 1) (by omega)
      replace hx := Lib.hid hx
      have e1r := e1.out.symm
      have e2r := e2.out.symm
      have ba : Below wr.heap.size wr (wr.alloc (.cells #[.int .i64 x, .int .i64 q.fr, .int .i64 q.to] 257)) := (Below.refl _ _).alloc (Nat.le_refl _) _
      have k4 := Blk.new wr 257 #[.int .i64 x, .int .i64 q.fr, .int .i64 q.to]
      have hLa : FourL r gf (wr.alloc (.cells #[.int .i64 x, .int .i64 q.fr, .int .i64 q.to] 257)) := k1.alloc _
      by_cases hq : q.fr ≤ q.to
      · replace hlast := hlast hq
        have hl2 : Hid ((rowsTo r (j + 1)).length = (rowsTo r j).length + 1) := by show _ = _; rw [hstep.out, if_pos hq]; simp
        have hlN : Hid ((rowsTo r j).length < (rowsL r).length) := (List.getElem?_eq_some_iff.1 hlast.out).1
        obtain ⟨fn, tmps, assign, body, hy, hR⟩ := hY (rowsTo r j).length #[.agg #[.int .i64 x, .int .i64 q.fr, .int .i64 q.to]] _ hlN.out (hJ _ _ _ hJr (calm_of_below ba hWr)) hLa ⟨q, hlast.out, by rw [e3.out]⟩
        clear hY
        replace hstep := Lib.hid hstep
        replace e1 := Lib.hid e1
        obtain ⟨c4, f4, l4⟩ := k4.rules
        gi_wp2_with fail
        refine ⟨fun h => (by cases h), hR.mono ?_⟩
        rintro e W3 (⟨rfl, hJ3, hL3, hn3⟩ | ⟨rfl, hJx3, -⟩)
        · gi_wp2
          go_roundw
          case rel =>
            refine ⟨j + 1, by rw [← hx.out]; congr 1; push_cast; omega, hj1.out, hL3, Nat.le_trans hWr (Nat.le_trans ba.size hn3.1), ?_⟩
            rw [hl2.out]; exact hJ3
          case measure => simp [intOf]; omega
        · gi_wp2
          refine bodyPost_ret (results_none rfl _ _ _) rfl ?_
          exact ⟨⟨_, rfl⟩, .inr hJx3⟩
      · have hl2 : Hid (rowsTo r (j + 1) = rowsTo r j) := by show _ = _; rw [hstep.out, if_neg hq]; simp
        obtain ⟨c4, f4, l4⟩ := k4.rules
        gi_wp2_with fail
        refine ⟨fun _ h => (by cases h), ?_⟩
        gi_wp2
        go_roundw
        case rel =>
          refine ⟨j + 1, by rw [← hx.out]; congr 1; push_cast; omega, hj1.out, hLa, Nat.le_trans hWr ba.size, ?_⟩
          rw [hl2.out]; exact hJ _ _ _ hJr (calm_of_below ba hWr)
        case measure => simp [intOf]; omega
    · obtain rfl : j = nX r := by have := hj.out; have : ¬ j < nX r := fun h => hlt (hjx.1 h); omega
      gi_wp2
      go_end0
      exact ⟨⟨_, rfl⟩, .inl hJr⟩
theorem eg_rows1 : Enters Tryz.prog 154 := enters_of Tryz.func154 (by kernel_rfl) rfl
theorem rows_any (r : Reg) (w : World) :
    Calls Tryz.prog 131 #[.agg (regA r)] w fun e w' =>
      e = .returned (.func (.func 154) #[] #[.pointer (some ⟨w.heap.size, 0, none⟩)]) ∧ w' = w.alloc (.cells (regA r) 173) := by
  simp only [regA]
  go_enter Tryz.func131, Tryz.ntmps131
  go_wp2
  go_ret
  exact ⟨rfl, rfl⟩
end Go.Proofs.YtcmbmmpihiekhaaGreat
namespace Go.Proofs.YtcmbmmpihiekhaaGreat
open Go.RowKit Go.Shelf
attribute [local go_sem] Oper.semAt_some

def ptsTo (r : Reg) (i : Nat) : List Pnt := ((rowsL r).take i).flatMap rowPts
theorem ptsTo_succ {r : Reg} {i : Nat} {q : RRow} (h : (rowsL r)[i]? = some q) : ptsTo r (i + 1) = ptsTo r i ++ rowPts q := by
  unfold ptsTo
  rw [List.take_add_one, h]
  simp
theorem ptsTo_all (r : Reg) : ptsTo r (rowsL r).length = ptsL r := by unfold ptsTo ptsL; rw [List.take_length]
theorem ptsTo_get {r : Reg} {i k : Nat} {p : Pnt} (h : (ptsTo r i)[k]? = some p) : (ptsL r)[k]? = some p := by
  have e : ptsL r = ptsTo r i ++ ((rowsL r).drop i).flatMap rowPts := by
    unfold ptsTo ptsL
    rw [← List.flatMap_append, List.take_append_drop]
  rw [e, List.getElem?_append_left (List.getElem?_eq_some_iff.1 h).1]
  exact h
def PntG (r : Reg) (k : Nat) (vs : Array Value) (_ : World) : Prop := ∃ p, (ptsL r)[k]? = some p ∧ vs = #[.agg #[.int .i64 p.x, .int .i64 p.y]]
theorem nc_four {B gf : Nat} {r : Reg} {W W' : World} (h : NC B W W') (k : FourL r gf W) (hg : B ≤ gf) : FourL r gf W' := nc_blk h k hg
theorem ends1_iter (m : Nat) (r : Reg) (gf : Nat) (hm1 : 1 ≤ m) (hr : midR r) :
    IterK Fence.wide m Tryz.prog 130 #[.pointer (some ⟨gf, 0, none⟩)] (ptsL r).length (PntG r) (FourL r gf) := by
  intro lr J Jx W hJ hJx hY hL h0
  refine callsIn_of_wp_marks Tryz.func130 rfl trivial ?_ rfl
  simp only [Tryz.ntmps130, List.size_toArray, List.length_cons, List.length_nil, Nat.reduceAdd, Nat.reduceSub, Array.replicate_succ, Array.replicate_zero, List.push_toArray, List.append_toArray, List.nil_append, List.cons_append]
  have k1 : Blk W gf 173 (regA r) := hL
  have k1a := k1.alloc (.cells #[.func (.yield lr) #[] #[]] 253)
  simp only [regA] at k1a
  obtain ⟨c1, f1, l1⟩ := k1a.rules
  have hst := @hstT Tryz.prog
  gi_wp2_with fail
  refine ⟨trivial, ?_⟩
  refine (callsIn_wide.2 (rows_any r _)).mono ?_
  rintro e w1 ⟨rfl, rfl⟩
  clear c1 f1 l1
  gi_wp2_with fail
  obtain ⟨W0, hW0⟩ : ∃ W0, W0 = (W.alloc (.cells #[.func (.yield lr) #[] #[]] 253)).alloc (.cells (regA r) 173) := ⟨_, rfl⟩
  rw [← hW0]
  have hL0 : FourL r (W.heap.size + 1) W0 := by rw [hW0]; exact Blk.newAt (by simp)
  have k2 : Blk W0 W.heap.size 253 #[.func (.yield lr) #[] #[]] := by rw [hW0]; exact (Blk.new _ _ _).alloc _
  have bW : Below W.heap.size W W0 := by rw [hW0]; exact ((Below.refl _ _).alloc (Nat.le_refl _) _).alloc (by simp) _
  have hsz : W0.heap.size = W.heap.size + 2 := by rw [hW0]; simp
  have cW : Calm W.heap.size W W0 := calm_of_below bW (Nat.le_refl _)
  clear hW0
  refine wp_range rfl hm1 (gf := 154) (lb := #[.pointer (some ⟨W.heap.size + 1, 0, none⟩)]) rfl trivial eg_rows1
    (rows1_iter _ r _ hr) (fun k vs W ⟨q, _, e⟩ => by rw [e]; rfl)
    (fun i A => Blk A W.heap.size 253 #[.func (.yield lr) #[] #[]] ∧ J (ptsTo r i).length A ∧ FourL r gf A)
    (fun c A => c = .ret ∧ Jx A) (fun k A B h hc => ⟨calm_blk hc h.1, hJ _ _ _ h.2.1 (hc.mono (by omega)), calm_blk hc h.2.2⟩) (fun _ A B h hc => ⟨h.1, hJx _ _ h.2 (hc.mono (by omega))⟩) (fun A B h hc => calm_blk hc h)
    ⟨k2, hJ _ _ _ h0 cW, calm_blk cW hL⟩ hL0 ?round ?done ?stop
  case stop =>
    rintro D c W3 hD ⟨rfl, hj⟩ hK
    gi_wp2_with fail
    exact ⟨by simp, .inl ⟨_, _, rfl, run_takeDeferred hK, _, results_none rfl _ _ _, ⟨_, rfl⟩, .inr (hJx _ _ hj (calm_put _ hK rfl (by omega)))⟩⟩
  case done =>
    rintro D W3 hD ⟨-, hj, -⟩ hK
    rw [ptsTo_all] at hj
    gi_wp2_with fail
    exact ⟨by simp, .inl ⟨_, _, rfl, run_takeDeferred hK, _, results_none rfl _ _ _, ⟨_, rfl⟩, .inl (hJ _ _ _ hj (calm_put _ hK rfl (by omega)))⟩⟩
  case round =>
    rintro l i vs W3 hW hi ⟨k2, hj, hLo⟩ hLi ⟨q, hq, rfl⟩
    gi_wp2_with fail
    refine ⟨(Below.refl _ _).alloc (Nat.le_refl _) _, fun W2 hc => ?_⟩
    have hc3 : Calm W0.heap.size W3 W2 := (calm_of_below ((Below.refl _ _).alloc (Nat.le_refl _) _) hW).trans hc
    have k3 : Blk W2 W3.heap.size 257 #[.int .i64 q.x, .int .i64 q.fr, .int .i64 q.to] := calm_blk hc (Blk.new _ _ _)
    replace k2 := calm_blk hc3 k2
    replace hLo : FourL r gf W2 := calm_blk hc3 hLo
    replace hLi : FourL r (W.heap.size + 1) W2 := calm_blk hc3 hLi
    replace hj := hJ _ _ _ hj (hc3.mono (by omega))
    have hs3 : W3.heap.size < W2.heap.size := by have := hc.1.size; simp at this; omega
    have hJ' := hJ
    clear hc hc3 hJ hJx cW bW h0 hL hL0 k1 k1a
    gi_wp2_with fail
    refine wpIn_held_round (fun w' => ∀ j, w'.cell? ⟨W3.heap.size, j, none⟩ = #[Value.int .i64 q.x, .int .i64 q.fr, .int .i64 q.to][j]?) (by kernel_rfl) (by kernel_rfl) (by rintro ⟨_, _, h⟩; exact h) ?_
    have hS : (fun w' : World => ∀ j, w'.cell? ⟨W3.heap.size, j, none⟩ = #[Value.int .i64 q.x, .int .i64 q.fr, .int .i64 q.to][j]?) W2.drew := k3.cell
    refine held_take (i := 0) (v := ?_) 9 rfl rfl (by kernel_rfl) (by kernel_rfl) (by kernel_rfl) (fun _ _ _ h => h) (Or.inl ⟨by rfl, ?_⟩) hS ?_
    rotate_left 1
    · intro w' hSw
      try dsimp only at hSw
      go_simp
      all_goals with_reducible rfl
    try simp only [Act.put, sA, sZ, sS]
    refine held_take (i := 1) (v := ?_) 10 rfl rfl (by kernel_rfl) (by kernel_rfl) (by kernel_rfl) (fun _ _ _ h => h) (Or.inl ⟨by rfl, ?_⟩) hS ?_
    rotate_left 1
    · intro w' hSw
      try dsimp only at hSw
      go_simp
      all_goals with_reducible rfl
    try simp only [Act.put, sA, sZ, sS]
    refine held_take (i := 2) (v := ?_) 11 rfl rfl (by kernel_rfl) (by kernel_rfl) (by kernel_rfl) (fun _ _ _ h => h) (Or.inl ⟨by rfl, ?_⟩) hS ?_
    rotate_left 1
    · intro w' hSw
      try dsimp only at hSw
      go_simp
      all_goals with_reducible rfl
    try simp only [Act.put, sA, sZ, sS]
    refine held_take (i := 3) (v := ?_) 12 rfl rfl (by kernel_rfl) (by kernel_rfl) (by kernel_rfl) (fun _ _ _ h => h) (Or.inl ⟨by rfl, ?_⟩) hS ?_
    rotate_left 1
    · intro w' hSw
      try dsimp only at hSw
      go_simp
      all_goals with_reducible rfl
    try simp only [Act.put, sA, sZ, sS]
    refine held_take (i := 4) (v := ?_) 13 rfl rfl (by kernel_rfl) (by kernel_rfl) (by kernel_rfl) (fun _ _ _ h => h) (Or.inl ⟨by rfl, ?_⟩) hS ?_
    rotate_left 1
    · intro w' hSw
      try dsimp only at hSw
      go_simp
      all_goals with_reducible rfl
    try simp only [Act.put, sA, sZ, sS]
    refine held_take (i := 5) (v := ?_) 14 rfl rfl (by kernel_rfl) (by kernel_rfl) (by kernel_rfl) (fun _ _ _ h => h) (Or.inl ⟨by rfl, ?_⟩) hS ?_
    rotate_left 1
    · intro w' hSw
      try dsimp only at hSw
      go_simp
      all_goals with_reducible rfl
    try simp only [Act.put, sA, sZ, sS]
    refine held_take (i := 6) (v := ?_) 15 rfl rfl (by kernel_rfl) (by kernel_rfl) (by kernel_rfl) (fun _ _ _ h => h) (Or.inl ⟨by rfl, ?_⟩) hS ?_
    rotate_left 1
    · intro w' hSw
      try dsimp only at hSw
      go_simp
      all_goals with_reducible rfl
    try simp only [Act.put, sA, sZ, sS]
    refine held_take (i := 7) (v := ?_) 16 rfl rfl (by kernel_rfl) (by kernel_rfl) (by kernel_rfl) (fun _ _ _ h => h) (Or.inl ⟨by rfl, ?_⟩) hS ?_
    rotate_left 1
    · intro w' hSw
      try dsimp only at hSw
      go_simp
      all_goals with_reducible rfl
    try simp only [Act.put, sA, sZ, sS]
    refine held_take (i := 8) (v := ?_) 17 rfl rfl (by kernel_rfl) (by kernel_rfl) (by kernel_rfl) (fun _ _ _ h => h) (Or.inl ⟨by rfl, ?_⟩) hS ?_
    rotate_left 1
    · intro w' hSw
      try dsimp only at hSw
      go_simp
      all_goals with_reducible rfl
    try simp only [Act.put, sA, sZ, sS]
    refine held_take (i := 9) (v := ?_) 18 rfl rfl (by kernel_rfl) (by kernel_rfl) (by kernel_rfl) (fun _ _ _ h => h) (Or.inl ⟨by rfl, ?_⟩) hS ?_
    rotate_left 1
    · intro w' hSw
      try dsimp only at hSw
      go_simp
      all_goals with_reducible rfl
    try simp only [Act.put, sA, sZ, sS]
    refine wpAnyH_two 4 5 (fun g4 g5 W5 => Blk W5 g4 48 #[.int .i64 q.x, .int .i64 q.fr] ∧ Blk W5 g5 48 #[.int .i64 q.x, .int .i64 q.to] ∧ W2.heap.size ≤ g4 ∧ W2.heap.size ≤ g5 ∧ Below W2.heap.size W2 W5) ?_ (fun hrest => ?_)
    · rintro g4 g5 W5 ⟨k4, k5, hg4, hg5, hb5⟩
      try simp only [Act.put, sA, sZ, sS]
      clear hS
      replace hLo : FourL r gf W5 := Blk.below hLo hb5
      replace hLi : FourL r (W.heap.size + 1) W5 := Blk.below hLi hb5
      replace hj := hJ' _ _ _ hj (calm_of_below hb5 (by omega))
      replace k2 := k2.below hb5
      have hnb := nc_of_below (B := W0.heap.size) hb5
      have hpt := Lib.hid (ptsTo_succ hq)
      have hlow : (ptsL r)[(ptsTo r i).length]? = some ⟨q.x, q.fr⟩ := ptsTo_get (i := i + 1) (by rw [hpt.out, List.getElem?_append_right (Nat.le_refl _), Nat.sub_self]; unfold rowPts; split <;> rfl)
      obtain ⟨fn, tmps, assign, body, hy, hR⟩ := hY (ptsTo r i).length #[.agg #[.int .i64 q.x, .int .i64 q.fr]] W5 (List.getElem?_eq_some_iff.1 hlow).1 hj hLo ⟨_, hlow, rfl⟩
      replace hlow := Lib.hid hlow
      obtain ⟨c2, f2, l2⟩ := k2.rules
      obtain ⟨c4, f4, l4⟩ := k4.rules
      gi_wp2_with fail
      refine ⟨fun h => (by cases h), (RoundIn.anyl hR).mono ?_⟩
      clear hR hy c2 f2 l2 c4 f4 l4
      rintro e W6 (⟨rfl, hj6, hLo6, hn6⟩ | ⟨rfl, hJx6, hn6⟩)
      · replace k2 := nc_blk hn6 k2 (Nat.le_refl _)
        replace k4 := nc_blk hn6 k4 (by omega)
        replace k5 := nc_blk hn6 k5 (by omega)
        replace hLi := nc_four hn6 hLi (by omega)
        obtain ⟨c2, f2, l2⟩ := k2.rules
        obtain ⟨c4, f4, l4⟩ := k4.rules
        obtain ⟨c5, f5, l5⟩ := k5.rules
        by_cases hft : q.fr = q.to
        · have hl1 : Hid ((ptsTo r (i + 1)).length = (ptsTo r i).length + 1) := by show _ = _; rw [hpt.out]; unfold rowPts; rw [if_pos hft]; simp
          gi_wp2_with fail
          all_goals
            refine ⟨fun _ h => (by cases h), ?_⟩
            gi_wp2_with fail
            exact ⟨hnb.trans (hn6.mono (by omega)), ⟨k2, by rw [hl1.out]; exact hj6, hLo6⟩, hLi⟩
        · have hl1 : Hid ((ptsTo r (i + 1)).length = (ptsTo r i).length + 1 + 1) := by show _ = _; rw [hpt.out]; unfold rowPts; rw [if_neg hft]; simp
          have hhigh : (ptsL r)[(ptsTo r i).length + 1]? = some ⟨q.x, q.to⟩ := ptsTo_get (i := i + 1) (by rw [hpt.out, List.getElem?_append_right (by omega), Nat.add_sub_cancel_left]; unfold rowPts; rw [if_neg hft]; rfl)
          obtain ⟨fn2, tmps2, assign2, body2, hy2, hR2⟩ := hY ((ptsTo r i).length + 1) #[.agg #[.int .i64 q.x, .int .i64 q.to]] W6 (List.getElem?_eq_some_iff.1 hhigh).1 hj6 hLo6 ⟨_, hhigh, rfl⟩
          replace hhigh := Lib.hid hhigh
          gi_wp2_with fail
          refine ⟨fun h => (by cases h), (RoundIn.anyl hR2).mono ?_⟩
          clear hR2 hy2 c2 f2 l2 c4 f4 l4 c5 f5 l5
          rintro e W7 (⟨rfl, hj7, hLo7, hn7⟩ | ⟨rfl, hJx7, hn7⟩)
          · gi_wp2_with fail
            exact ⟨(hnb.trans (hn6.mono (by omega))).trans (hn7.mono (by omega)), ⟨nc_blk hn7 k2 (Nat.le_refl _), by rw [hl1.out]; exact hj7, hLo7⟩, nc_four hn7 hLi (by omega)⟩
          · gi_wp2_with fail
            exact ⟨(hnb.trans (hn6.mono (by omega))).trans (hn7.mono (by omega)), rfl, hJx7⟩
      · gi_wp2_with fail
        all_goals first
          | (refine ⟨fun _ _ => trivial, ?_⟩
             gi_wp2_with fail
             exact ⟨hnb.trans (hn6.mono (by omega)), rfl, hJx6⟩)
          | (exact absurd ‹some undef = some (Value.bool _)› (by simp [undef]))
    · try simp only [Act.put, sA, sZ, sS] at hrest
      refine held_two (i := 10) (j := 11) (by kernel_rfl) rfl rfl rfl rfl (fun K hK => ?_) (fun K hK => ?_)
      · go_simp
        refine hK _ _ (fun j => (World.cell?_alloc_lt _ _ _ hs3).trans (k3.cell j)) ?_
        clear hK K
        refine hOne 11 fun K hK => ?_
        go_simp
        refine hK _ _ (fun j => (World.cell?_alloc_lt _ _ _ (by simp; omega)).trans ((World.cell?_alloc_lt _ _ _ hs3).trans (k3.cell j))) ?_
        clear hK K
        refine hOne 12 fun K hK => ?_
        go_simp
        refine hK _ _ (fun j => (World.cell?_alloc_lt _ _ _ (by simp; omega)).trans ((World.cell?_alloc_lt _ _ _ hs3).trans (k3.cell j))) ?_
        clear hK K
        refine hOne 13 fun K hK => ?_
        go_simp
        refine hK _ _ (fun j => (World.cell?_alloc_lt _ _ _ (by simp; omega)).trans ((World.cell?_alloc_lt _ _ _ hs3).trans (k3.cell j))) ?_
        clear hK K
        refine wpAnyH_done (by kernel_rfl) (hrest W2.heap.size (W2.heap.size + 1) _ ?_) _
        exact ⟨(Blk.new _ _ _).alloc _, Blk.newAt (by simp), by omega, by omega, (((Below.refl _ _).alloc (Nat.le_refl _) _).alloc (by simp) _).drew⟩
      · go_simp
        refine hK _ _ (fun j => (World.cell?_alloc_lt _ _ _ hs3).trans (k3.cell j)) ?_
        clear hK K
        refine hOne 10 fun K hK => ?_
        go_simp
        refine hK _ _ (fun j => (World.cell?_alloc_lt _ _ _ (by simp; omega)).trans ((World.cell?_alloc_lt _ _ _ hs3).trans (k3.cell j))) ?_
        clear hK K
        refine hOne 12 fun K hK => ?_
        go_simp
        refine hK _ _ (fun j => (World.cell?_alloc_lt _ _ _ (by simp; omega)).trans ((World.cell?_alloc_lt _ _ _ hs3).trans (k3.cell j))) ?_
        clear hK K
        refine hOne 13 fun K hK => ?_
        go_simp
        refine hK _ _ (fun j => (World.cell?_alloc_lt _ _ _ (by simp; omega)).trans ((World.cell?_alloc_lt _ _ _ hs3).trans (k3.cell j))) ?_
        clear hK K
        refine wpAnyH_done (by kernel_rfl) (hrest (W2.heap.size + 1) W2.heap.size _ ?_) _
        exact ⟨Blk.newAt (by simp), (Blk.new _ _ _).alloc _, by omega, by omega, (((Below.refl _ _).alloc (Nat.le_refl _) _).alloc (by simp) _).drew⟩
theorem eg_ends1 : Enters Tryz.prog 130 := enters_of Tryz.func130 (by kernel_rfl) rfl
theorem ends_any (r : Reg) (w : World) :
    Calls Tryz.prog 87 #[.agg (regA r)] w fun e w' =>
      e = .returned (.func (.func 130) #[] #[.pointer (some ⟨w.heap.size, 0, none⟩)]) ∧ w' = w.alloc (.cells (regA r) 173) := by
  simp only [regA]
  go_enter Tryz.func87, Tryz.ntmps87
  go_wp2
  go_ret
  exact ⟨rfl, rfl⟩
end Go.Proofs.YtcmbmmpihiekhaaGreat
namespace Go.Proofs.YtcmbmmpihiekhaaGreat
open Go.RowKit Go.Shelf

def okRTo (r : Reg) : Nat → Bool
  | 0 => true
  | 1 => okBnd 32768 r.x
  | 2 => okBnd 32768 r.x && okBnd 32768 r.y
  | 3 => okBnd 32768 r.x && okBnd 32768 r.y && okBnd 65536 r.s
  | _ => okBnd 32768 r.x && okBnd 32768 r.y && okBnd 65536 r.s && okBnd 65536 r.d
theorem rCheck_any (r : Reg) (w : World) :
    Calls Tryz.prog 38 #[.agg (regA r)] w fun e w' => e = .returned (.int .i64 (chkReg r)) ∧ Below w.heap.size w w' := by
  have i0 : ∀ (a b c d a' b' c' d' : Value) w, (Instr.index 173 (.agg #[a, a', b, b', c, c', d, d']) (.int .i64 0)).run Tryz.prog w = .ok (.agg #[a, a']) w := fun _ _ _ _ _ _ _ _ _ => by kernel_rfl
  have i1 : ∀ (a b c d a' b' c' d' : Value) w, (Instr.index 173 (.agg #[a, a', b, b', c, c', d, d']) (.int .i64 1)).run Tryz.prog w = .ok (.agg #[b, b']) w := fun _ _ _ _ _ _ _ _ _ => by kernel_rfl
  have i2 : ∀ (a b c d a' b' c' d' : Value) w, (Instr.index 173 (.agg #[a, a', b, b', c, c', d, d']) (.int .i64 2)).run Tryz.prog w = .ok (.agg #[c, c']) w := fun _ _ _ _ _ _ _ _ _ => by kernel_rfl
  have i3 : ∀ (a b c d a' b' c' d' : Value) w, (Instr.index 173 (.agg #[a, a', b, b', c, c', d, d']) (.int .i64 3)).run Tryz.prog w = .ok (.agg #[d, d']) w := fun _ _ _ _ _ _ _ _ _ => by kernel_rfl
  have hst := @hstT Tryz.prog
  have hchk : Hid (chkReg r = if okRTo r 4 = true then 0 else 11) := rfl
  obtain ⟨er, her⟩ : ∃ er, er = chkReg r := ⟨_, rfl⟩
  rw [← her] at hchk ⊢
  simp only [regA]
  go_enter Tryz.func38, Tryz.ntmps38
  go_wp2_with fail
  refine (rbounds_any r _).mono ?_
  rintro e w1 ⟨rfl, hb1⟩
  have k3 := (Blk.new _ _ _).below hb1
  rw [World.size_alloc] at k3
  have b1 := (((Below.refl w.heap.size w).alloc (Nat.le_refl _) _).alloc (by simp) _).trans (hb1.mono (by simp; omega))
  go_wp2_with fail
  clear hb1
  go_loopw [13] (fun j wr => ∃ k : Nat, j = jv k ∧ k ≤ 4 ∧ okRTo r k = true ∧ Blk wr (w.heap.size + 1) 186 #[.func (.func 84) #[.int .i64 32768] #[], .func (.func 84) #[.int .i64 32768] #[], .func (.func 84) #[.int .i64 65536] #[], .func (.func 84) #[.int .i64 65536] #[]] ∧ Below w.heap.size w wr) (fun j wr => 4 - (intOf j).toNat)
  case atStart => exact ⟨0, rfl, by omega, rfl, k3, b1⟩
  case round =>
    obtain ⟨k, rfl, hk, hok, k3, hb⟩ := hrel
    match k, hk with
    | 0, _ =>
      have hfit := fun W => fits_any 32768 r.x W (by omega) (by omega)
      rw [show jv 0 = .int .i64 0 from rfl]
      replace hok := Lib.hid hok
      have k5 := Blk.new wr 26 #[.int .i64 r.x.lo, .int .i64 r.x.hi]
      have k3a := k3.alloc (.cells #[.int .i64 r.x.lo, .int .i64 r.x.hi] 26)
      have ba := hb.alloc hb.size (.cells #[.int .i64 r.x.lo, .int .i64 r.x.hi] 26)
      cases hq : okBnd 32768 r.x
      · simp only [hq] at hfit
        replace hq := Lib.hid hq
        go_wp2_with fail
        clear b1
        generalize wr.alloc (.cells #[.int .i64 r.x.lo, .int .i64 r.x.hi] 26) = wa at *
        obtain ⟨c3, f3, l3⟩ := k3a.rules
        obtain ⟨c5, f5, l5⟩ := k5.rules
        go_region_with (first | (refine (hfit _).mono ?_; rintro e w' ⟨rfl, hbx⟩; replace hbx := below_of_drew hbx; clear c3 f3 l3 c5 f5 l5))
        all_goals
          have b2 := ba.trans (hbx.mono ba.size)
          go_wp2
          go_ret
          exact ⟨ret_int (by rw [hchk.out, if_neg (by simp [okRTo, hq.out])]), b2⟩
      · simp only [hq] at hfit
        replace hq := Lib.hid hq
        go_wp2_with fail
        clear b1
        generalize wr.alloc (.cells #[.int .i64 r.x.lo, .int .i64 r.x.hi] 26) = wa at *
        obtain ⟨c3, f3, l3⟩ := k3a.rules
        obtain ⟨c5, f5, l5⟩ := k5.rules
        go_region_with (first | (refine (hfit _).mono ?_; rintro e w' ⟨rfl, hbx⟩; replace hbx := below_of_drew hbx; clear c3 f3 l3 c5 f5 l5))
        all_goals
          have b2 := ba.trans (hbx.mono ba.size)
          have k3b := k3a.below hbx
          go_wp2
          go_roundw
          case rel => exact ⟨0 + 1, rfl, by omega, by simp [okRTo, hq.out] <;> simpa [okRTo] using hok.out, k3b, b2⟩
          case measure => simp [intOf]
    | 1, _ =>
      have hfit := fun W => fits_any 32768 r.y W (by omega) (by omega)
      rw [show jv 1 = .int .i64 1 from rfl]
      replace hok := Lib.hid hok
      have k5 := Blk.new wr 26 #[.int .i64 r.y.lo, .int .i64 r.y.hi]
      have k3a := k3.alloc (.cells #[.int .i64 r.y.lo, .int .i64 r.y.hi] 26)
      have ba := hb.alloc hb.size (.cells #[.int .i64 r.y.lo, .int .i64 r.y.hi] 26)
      cases hq : okBnd 32768 r.y
      · simp only [hq] at hfit
        replace hq := Lib.hid hq
        go_wp2_with fail
        clear b1
        generalize wr.alloc (.cells #[.int .i64 r.y.lo, .int .i64 r.y.hi] 26) = wa at *
        obtain ⟨c3, f3, l3⟩ := k3a.rules
        obtain ⟨c5, f5, l5⟩ := k5.rules
        go_region_with (first | (refine (hfit _).mono ?_; rintro e w' ⟨rfl, hbx⟩; replace hbx := below_of_drew hbx; clear c3 f3 l3 c5 f5 l5))
        all_goals
          have b2 := ba.trans (hbx.mono ba.size)
          go_wp2
          go_ret
          exact ⟨ret_int (by rw [hchk.out, if_neg (by simp [okRTo, hq.out])]), b2⟩
      · simp only [hq] at hfit
        replace hq := Lib.hid hq
        go_wp2_with fail
        clear b1
        generalize wr.alloc (.cells #[.int .i64 r.y.lo, .int .i64 r.y.hi] 26) = wa at *
        obtain ⟨c3, f3, l3⟩ := k3a.rules
        obtain ⟨c5, f5, l5⟩ := k5.rules
        go_region_with (first | (refine (hfit _).mono ?_; rintro e w' ⟨rfl, hbx⟩; replace hbx := below_of_drew hbx; clear c3 f3 l3 c5 f5 l5))
        all_goals
          have b2 := ba.trans (hbx.mono ba.size)
          have k3b := k3a.below hbx
          go_wp2
          go_roundw
          case rel => exact ⟨1 + 1, rfl, by omega, by simp [okRTo, hq.out] <;> simpa [okRTo] using hok.out, k3b, b2⟩
          case measure => simp [intOf]
    | 2, _ =>
      have hfit := fun W => fits_any 65536 r.s W (by omega) (by omega)
      rw [show jv 2 = .int .i64 2 from rfl]
      replace hok := Lib.hid hok
      have k5 := Blk.new wr 26 #[.int .i64 r.s.lo, .int .i64 r.s.hi]
      have k3a := k3.alloc (.cells #[.int .i64 r.s.lo, .int .i64 r.s.hi] 26)
      have ba := hb.alloc hb.size (.cells #[.int .i64 r.s.lo, .int .i64 r.s.hi] 26)
      cases hq : okBnd 65536 r.s
      · simp only [hq] at hfit
        replace hq := Lib.hid hq
        go_wp2_with fail
        clear b1
        generalize wr.alloc (.cells #[.int .i64 r.s.lo, .int .i64 r.s.hi] 26) = wa at *
        obtain ⟨c3, f3, l3⟩ := k3a.rules
        obtain ⟨c5, f5, l5⟩ := k5.rules
        go_region_with (first | (refine (hfit _).mono ?_; rintro e w' ⟨rfl, hbx⟩; replace hbx := below_of_drew hbx; clear c3 f3 l3 c5 f5 l5))
        all_goals
          have b2 := ba.trans (hbx.mono ba.size)
          go_wp2
          go_ret
          exact ⟨ret_int (by rw [hchk.out, if_neg (by simp [okRTo, hq.out])]), b2⟩
      · simp only [hq] at hfit
        replace hq := Lib.hid hq
        go_wp2_with fail
        clear b1
        generalize wr.alloc (.cells #[.int .i64 r.s.lo, .int .i64 r.s.hi] 26) = wa at *
        obtain ⟨c3, f3, l3⟩ := k3a.rules
        obtain ⟨c5, f5, l5⟩ := k5.rules
        go_region_with (first | (refine (hfit _).mono ?_; rintro e w' ⟨rfl, hbx⟩; replace hbx := below_of_drew hbx; clear c3 f3 l3 c5 f5 l5))
        all_goals
          have b2 := ba.trans (hbx.mono ba.size)
          have k3b := k3a.below hbx
          go_wp2
          go_roundw
          case rel => exact ⟨2 + 1, rfl, by omega, by simp [okRTo, hq.out] <;> simpa [okRTo] using hok.out, k3b, b2⟩
          case measure => simp [intOf]
    | 3, _ =>
      have hfit := fun W => fits_any 65536 r.d W (by omega) (by omega)
      rw [show jv 3 = .int .i64 3 from rfl]
      replace hok := Lib.hid hok
      have k5 := Blk.new wr 26 #[.int .i64 r.d.lo, .int .i64 r.d.hi]
      have k3a := k3.alloc (.cells #[.int .i64 r.d.lo, .int .i64 r.d.hi] 26)
      have ba := hb.alloc hb.size (.cells #[.int .i64 r.d.lo, .int .i64 r.d.hi] 26)
      cases hq : okBnd 65536 r.d
      · simp only [hq] at hfit
        replace hq := Lib.hid hq
        go_wp2_with fail
        clear b1
        generalize wr.alloc (.cells #[.int .i64 r.d.lo, .int .i64 r.d.hi] 26) = wa at *
        obtain ⟨c3, f3, l3⟩ := k3a.rules
        obtain ⟨c5, f5, l5⟩ := k5.rules
        go_region_with (first | (refine (hfit _).mono ?_; rintro e w' ⟨rfl, hbx⟩; replace hbx := below_of_drew hbx; clear c3 f3 l3 c5 f5 l5))
        all_goals
          have b2 := ba.trans (hbx.mono ba.size)
          go_wp2
          go_ret
          exact ⟨ret_int (by rw [hchk.out, if_neg (by simp [okRTo, hq.out])]), b2⟩
      · simp only [hq] at hfit
        replace hq := Lib.hid hq
        go_wp2_with fail
        clear b1
        generalize wr.alloc (.cells #[.int .i64 r.d.lo, .int .i64 r.d.hi] 26) = wa at *
        obtain ⟨c3, f3, l3⟩ := k3a.rules
        obtain ⟨c5, f5, l5⟩ := k5.rules
        go_region_with (first | (refine (hfit _).mono ?_; rintro e w' ⟨rfl, hbx⟩; replace hbx := below_of_drew hbx; clear c3 f3 l3 c5 f5 l5))
        all_goals
          have b2 := ba.trans (hbx.mono ba.size)
          have k3b := k3a.below hbx
          go_wp2
          go_roundw
          case rel => exact ⟨3 + 1, rfl, by omega, by simp [okRTo, hq.out] <;> simpa [okRTo] using hok.out, k3b, b2⟩
          case measure => simp [intOf]
    | 4, _ =>
      rw [show jv 4 = .int .i64 4 from rfl]
      rw [if_pos hok] at hchk
      clear hok
      go_wp2
      go_ret
      exact ⟨ret_int hchk.out.symm, hb⟩
theorem done_any (f : Reg) (er : Int) (w : World) : Calls Tryz.prog 123 #[.agg (regA f), .int .i64 er] w fun e w' => e = .returned (.tuple #[.agg (regA (if er = 0 then f else noReg)), .int .i64 er]) ∧ Below w.heap.size w w' := by
  by_cases h : er = 0
  · subst h
    rw [if_pos rfl]
    simp only [regA]
    go_enter Tryz.func123, Tryz.ntmps123
    go_wp2_with fail
    refine (region_any f _).mono ?_
    rintro e w1 ⟨rfl, hb1⟩
    have k0 := (Blk.new _ _ _).below hb1
    rw [World.size_alloc] at k0
    have b1 := (((Below.refl w.heap.size w).alloc (Nat.le_refl _) _).alloc (by simp) _).trans (hb1.mono (by simp; omega))
    obtain ⟨c0, f0, l0⟩ := k0.rules
    have kz := k0.set8 (.int .i64 f.x.lo) (.int .i64 f.x.hi) (.int .i64 f.y.lo) (.int .i64 f.y.hi) (.int .i64 f.s.lo) (.int .i64 f.s.hi) (.int .i64 f.d.lo) (.int .i64 f.d.hi)
    have bz := below_set8 (g := w.heap.size + 1) b1 (by omega) (.int .i64 f.x.lo) (.int .i64 f.x.hi) (.int .i64 f.y.lo) (.int .i64 f.y.hi) (.int .i64 f.s.lo) (.int .i64 f.s.hi) (.int .i64 f.d.lo) (.int .i64 f.d.hi)
    obtain ⟨wz, hwz⟩ : ∃ x, x = set8 w1 (w.heap.size + 1) (.int .i64 f.x.lo) (.int .i64 f.x.hi) (.int .i64 f.y.lo) (.int .i64 f.y.hi) (.int .i64 f.s.lo) (.int .i64 f.s.hi) (.int .i64 f.d.lo) (.int .i64 f.d.hi) := ⟨_, rfl⟩
    rw [← hwz] at kz bz
    simp only [set8] at hwz
    go_wp2
    rw [← hwz]
    clear hwz c0 f0 l0
    obtain ⟨c0, f0, l0⟩ := kz.rules
    exact bodyPost_ret (v := .tuple #[.agg #[.int .i64 f.x.lo, .int .i64 f.x.hi, .int .i64 f.y.lo, .int .i64 f.y.hi, .int .i64 f.s.lo, .int .i64 f.s.hi, .int .i64 f.d.lo, .int .i64 f.d.hi], .int .i64 0]) (by simp [results, Tryz.results123, go_sem, c0]) rfl ⟨rfl, bz⟩
  · have h' : (er != 0) = true := by rw [bne_iff_ne]; exact h
    rw [if_neg h]
    replace h := Lib.hid h
    simp only [regA, noReg]
    obtain ⟨wz, hwz⟩ : ∃ x, x = (w.alloc (.cells #[.int .i64 f.x.lo, .int .i64 f.x.hi, .int .i64 f.y.lo, .int .i64 f.y.hi, .int .i64 f.s.lo, .int .i64 f.s.hi, .int .i64 f.d.lo, .int .i64 f.d.hi] 173)).alloc (.cells #[.int .i64 0, .int .i64 0, .int .i64 0, .int .i64 0, .int .i64 0, .int .i64 0, .int .i64 0, .int .i64 0] 68) := ⟨_, rfl⟩
    have k1 : Blk wz (w.heap.size + 1) 68 #[.int .i64 0, .int .i64 0, .int .i64 0, .int .i64 0, .int .i64 0, .int .i64 0, .int .i64 0, .int .i64 0] := by rw [hwz]; exact Blk.newAt (by simp)
    have b1 : Below w.heap.size w wz := by rw [hwz]; exact ((Below.refl _ _).alloc (Nat.le_refl _) _).alloc (by simp) _
    go_enter Tryz.func123, Tryz.ntmps123
    go_wp2
    rw [← hwz]
    clear hwz
    obtain ⟨c0, f0, l0⟩ := k1.rules
    exact bodyPost_ret (v := .tuple #[.agg #[.int .i64 0, .int .i64 0, .int .i64 0, .int .i64 0, .int .i64 0, .int .i64 0, .int .i64 0, .int .i64 0], .int .i64 er]) (by simp [results, Tryz.results123, go_sem, c0]) rfl ⟨rfl, b1⟩
end Go.Proofs.YtcmbmmpihiekhaaGreat
namespace Go.Proofs.YtcmbmmpihiekhaaGreat
open Go.RowKit Go.Shelf
attribute [local go_sem] Oper.semAt_some

def hullTo (r : Reg) (k : Nat) : Option Reg := hullL ((ptsL r).take k)
theorem hullTo_succ {r : Reg} {k : Nat} {p : Pnt} (h : (ptsL r)[k]? = some p) : hullTo r (k + 1) = addP (hullTo r k) p := by
  unfold hullTo hullL
  rw [List.take_add_one, h]
  simp
theorem hullTo_all (r : Reg) : hullTo r (ptsL r).length = tightO r := by unfold hullTo tightO; rw [List.take_length]
def optR (o : Option Reg) : Reg := o.getD noReg
theorem zipR_self (p : Pnt) : zipR spanB (ofP p) (ofP p) = ofP p := by simp [zipR, spanB, ofP, still]
theorem optR_add (o : Option Reg) (p : Pnt) : optR (addP o p) = zipR spanB (if o.isSome = true then optR o else ofP p) (ofP p) := by cases o <;> rfl
theorem isSome_add (o : Option Reg) (p : Pnt) : (addP o p).isSome = true := by cases o <;> rfl
/-! All ends lie in the bounds. -/
def midP (p : Pnt) : Prop := -1000000 ≤ p.x ∧ p.x ≤ 1000000 ∧ -1000000 ≤ p.y ∧ p.y ≤ 1000000 ∧ -1000000 ≤ p.x + p.y ∧ p.x + p.y ≤ 1000000 ∧ -1000000 ≤ p.x - p.y ∧ p.x - p.y ≤ 1000000
theorem rowsTo_mem {r : Reg} : ∀ {n : Nat} {q : RRow}, q ∈ rowsTo r n → ∃ j : Nat, j < n ∧ q = rowB r (r.x.lo + j) ∧ q.fr ≤ q.to
  | n + 1, q, h => by
    rw [rowsTo_succ, List.mem_append] at h
    rcases h with h | h
    · obtain ⟨j, h1, h2⟩ := rowsTo_mem h
      exact ⟨j, by omega, h2⟩
    · split at h
      · rename_i hc
        simp only [List.mem_singleton] at h
        subst h
        exact ⟨n, by omega, rfl, hc⟩
      · cases h
theorem ptsL_mid {r : Reg} (hr : okReg r = true) {p : Pnt} (h : p ∈ ptsL r) : -32768 ≤ p.x ∧ p.x ≤ 32768 ∧ -32768 ≤ p.y ∧ p.y ≤ 32768 := by
  unfold ptsL at h
  rw [List.mem_flatMap] at h
  obtain ⟨q, hq, hp⟩ := h
  obtain ⟨j, hj, rfl, hle⟩ := rowsTo_mem hq
  simp only [okReg, Bool.and_eq_true, okBnd, decide_eq_true_eq] at hr
  obtain ⟨⟨⟨⟨x1, x2, x3⟩, ⟨y1, y2, y3⟩⟩, _⟩, _⟩ := hr
  have hx : j < (r.x.hi + 1 - r.x.lo).toNat := hj
  have e1 : (rowB r (r.x.lo + j)).fr = max r.y.lo (max (r.s.lo - (r.x.lo + j)) (r.x.lo + j - r.d.hi)) := rfl
  have e2 : (rowB r (r.x.lo + j)).to = min r.y.hi (min (r.s.hi - (r.x.lo + j)) (r.x.lo + j - r.d.lo)) := rfl
  have e3 : (rowB r (r.x.lo + j)).x = r.x.lo + j := rfl
  have hp2 : p = ⟨(rowB r (r.x.lo + j)).x, (rowB r (r.x.lo + j)).fr⟩ ∨ p = ⟨(rowB r (r.x.lo + j)).x, (rowB r (r.x.lo + j)).to⟩ := by
    unfold rowPts at hp
    split at hp
    · simp only [List.mem_singleton] at hp
      exact .inl hp
    · simpa using hp
  rcases hp2 with rfl | rfl <;> (simp only; omega)
theorem okReg_mid {r : Reg} (hr : okReg r = true) : midR r := by
  simp only [okReg, Bool.and_eq_true, okBnd, decide_eq_true_eq] at hr
  unfold midR midB
  omega
theorem foldl_addP_mid : ∀ (l : List Pnt) (o : Option Reg), (∀ p ∈ l, midP p) → (∀ h, o = some h → midR h) → ∀ h, l.foldl addP o = some h → midR h
  | [], o, _, ho, h, e => ho h e
  | p :: l, o, hl, ho, h, e => by
    refine foldl_addP_mid l (addP o p) (fun q hq => hl q (List.mem_cons_of_mem _ hq)) (fun h' e' => ?_) h e
    have hp := hl p (List.mem_cons_self ..)
    unfold midP at hp
    cases o with
    | none =>
      simp only [addP, Option.some.injEq] at e'
      subst e'
      simp only [midR, midB, zipR, spanB, ofP, still]
      omega
    | some g =>
      have hg := ho g rfl
      unfold midR midB at hg
      simp only [addP, Option.some.injEq] at e'
      subst e'
      simp only [midR, midB, zipR, spanB, ofP, still]
      omega
theorem hullTo_mid {r : Reg} (hr : okReg r = true) (k : Nat) : midR (optR (hullTo r k)) := by
  cases h : hullTo r k with
  | none => simp [optR, midR, midB, noReg]
  | some g =>
    refine foldl_addP_mid _ none (fun p hp => ?_) (fun _ e => by cases e) g h
    have := ptsL_mid hr (List.mem_of_mem_take hp)
    unfold midP
    omega
theorem nc_set8 {B g : Nat} (w : World) (h : g < B) (v0 v1 v2 v3 v4 v5 v6 v7 : Value) : NC B w (set8 w g v0 v1 v2 v3 v4 v5 v6 v7) :=
  (((((((nc_setCell _ ⟨g, 0, none⟩ v0 h).trans (nc_setCell _ ⟨g, 1, none⟩ v1 h)).trans (nc_setCell _ ⟨g, 2, none⟩ v2 h)).trans (nc_setCell _ ⟨g, 3, none⟩ v3 h)).trans (nc_setCell _ ⟨g, 4, none⟩ v4 h)).trans (nc_setCell _ ⟨g, 5, none⟩ v5 h)).trans (nc_setCell _ ⟨g, 6, none⟩ v6 h)).trans (nc_setCell _ ⟨g, 7, none⟩ v7 h)
def HullI (r : Reg) (w : World) (k : Nat) (A : World) : Prop :=
  Blk A w.heap.size 173 (regA (optR (hullTo r k))) ∧ Blk A (w.heap.size + 1) 4 #[.bool (hullTo r k).isSome] ∧ Below w.heap.size w A
theorem HullI.calm {r : Reg} {w A B : World} {k B0 : Nat} (h : HullI r w k A) (hc : Calm B0 A B) (hB : w.heap.size ≤ B0) : HullI r w k B := ⟨calm_blk hc h.1, calm_blk hc h.2.1, calm_below hc h.2.2 hB⟩
theorem hull_any (r : Reg) (A : Option Addr) (c gf b off : Nat) (w : World) (hr : okReg r = true) (hA : A = some ⟨b, off, none⟩) (hc : w.cell? ⟨b, off, none⟩ = some (.func (.func 130) #[] #[.pointer (some ⟨gf, 0, none⟩)])) (hL : FourL r gf w) :
    Calls Tryz.prog 149 #[.slice A 1 c] w fun e w' => e = .returned (.tuple #[.agg (regA (optR (tightO r))), .bool (tightO r).isSome]) ∧ Below w.heap.size w w' := by
  subst hA
  have hmid := Lib.hid (hullTo_mid hr)
  have hpt := Lib.hid (fun (p : Pnt) (hp : p ∈ ptsL r) => ptsL_mid hr hp)
  have hrm := okReg_mid hr
  replace hr := Lib.hid hr
  have hbl := World.block_lt_of_cell? _ _ hc
  have hgf : gf < w.heap.size := Blk.lt hL
  refine (callsIn_wide (n := 9)).1 ?_
  refine callsIn_of_wp_marks Tryz.func149 rfl trivial ?_ rfl
  simp only [Tryz.ntmps149, List.size_toArray, List.length_cons, List.length_nil, Nat.reduceAdd, Nat.reduceSub, Array.replicate_succ, Array.replicate_zero, List.push_toArray, List.append_toArray, List.nil_append, List.cons_append]
  refine wpIn_wide.2 ?_
  go_wp2_with fail
  refine wp_loop_rounds 2 ?_
  rw [rounds_succ]
  obtain ⟨W0, hW0⟩ : ∃ W0, W0 = (w.alloc (.cells #[.int .i64 0, .int .i64 0, .int .i64 0, .int .i64 0, .int .i64 0, .int .i64 0, .int .i64 0, .int .i64 0] 173)).alloc (.cells #[.bool false] 4) := ⟨_, rfl⟩
  rw [← hW0]
  have hI0 : HullI r w 0 W0 := by rw [hW0]; exact ⟨(Blk.newAt rfl).alloc _, Blk.newAt (by simp), ((Below.refl _ _).alloc (Nat.le_refl _) _).alloc (by simp) _⟩
  have hL0 : FourL r gf W0 := by rw [hW0]; exact (Blk.alloc hL _).alloc _
  have hc0 : W0.cell? ⟨b, off, none⟩ = some (.func (.func 130) #[] #[.pointer (some ⟨gf, 0, none⟩)]) := (hI0.2.2.cell hbl).trans hc
  have hsz : W0.heap.size = w.heap.size + 2 := by rw [hW0]; simp
  clear hW0
  go_wp2_with fail
  refine (wpIn_wide (n := 9)).1 ?_
  refine wp_range rfl (by decide) (gf := 130) (lb := #[.pointer (some ⟨gf, 0, none⟩)]) rfl trivial eg_ends1
    (ends1_iter _ r gf (by decide) hrm) (fun k vs W ⟨_, _, e⟩ => by rw [e]; rfl)
    (HullI r w) (fun _ _ => False) (fun k A B h hc => h.calm hc (by omega)) (fun _ _ _ h _ => h) (fun A B h hc => calm_blk hc h) hI0 hL0 ?round ?done ?stop
  case stop => exact fun _ _ _ _ h _ => h.elim
  case done =>
    rintro D W hD ⟨k1, k2, hb⟩ hK
    rw [hullTo_all] at k1 k2
    obtain ⟨R, hR⟩ : ∃ R, optR (tightO r) = R := ⟨_, rfl⟩
    obtain ⟨S, hS⟩ : ∃ S, (tightO r).isSome = S := ⟨_, rfl⟩
    rw [hR] at k1
    rw [hS] at k2
    replace hR := Lib.hid hR
    replace hS := Lib.hid hS
    simp only [regA] at k1
    obtain ⟨c1, f1, l1⟩ := k1.rules
    obtain ⟨c2, f2, l2⟩ := k2.rules
    go_wp2_with fail
    rw [rounds_succ]
    go_wp2_with fail
    refine wp_held_np ((fun w' : World => (∀ j, w'.cell? ⟨w.heap.size, j, none⟩ = #[Value.int .i64 R.x.lo, .int .i64 R.x.hi, .int .i64 R.y.lo, .int .i64 R.y.hi, .int .i64 R.s.lo, .int .i64 R.s.hi, .int .i64 R.d.lo, .int .i64 R.d.hi][j]?) ∧ (∀ j, w'.cell? ⟨w.heap.size + 1, j, none⟩ = #[Value.bool S][j]?))) (by kernel_rfl) ?_
    have k1d := k1.drew
    have k2d := k2.drew
    have hKd : W.drew.heap[D]? = some (.deferred (some [])) := hK
    replace hb := hb.drew
    clear k1 k2 hK c1 f1 l1 c2 f2 l2
    generalize W.drew = Wd at *
    have hSd : (fun w' : World => (∀ j, w'.cell? ⟨w.heap.size, j, none⟩ = #[Value.int .i64 R.x.lo, .int .i64 R.x.hi, .int .i64 R.y.lo, .int .i64 R.y.hi, .int .i64 R.s.lo, .int .i64 R.s.hi, .int .i64 R.d.lo, .int .i64 R.d.hi][j]?) ∧ (∀ j, w'.cell? ⟨w.heap.size + 1, j, none⟩ = #[Value.bool S][j]?)) Wd := ⟨k1d.cell, k2d.cell⟩
    refine held_take (i := 0) (v := ?_) 24 rfl rfl (by kernel_rfl) (by kernel_rfl) (by kernel_rfl) (fun _ _ _ h => h) (Or.inl ⟨by rfl, ?_⟩) hSd ?_
    rotate_left 1
    · intro w' hSw
      try dsimp only at hSw
      obtain ⟨q1, q2⟩ := hSw
      go_simp
      all_goals with_reducible rfl
    try simp only [Act.put, sA, sZ, sS]
    refine held_take (i := 1) (v := ?_) 25 rfl rfl (by kernel_rfl) (by kernel_rfl) (by kernel_rfl) (fun _ _ _ h => h) (Or.inl ⟨by rfl, ?_⟩) hSd ?_
    rotate_left 1
    · intro w' hSw
      try dsimp only at hSw
      obtain ⟨q1, q2⟩ := hSw
      go_simp
      all_goals with_reducible rfl
    try simp only [Act.put, sA, sZ, sS]
    clear hSd
    have k1z := k1d.set8 (.int .i64 R.x.lo) (.int .i64 R.x.hi) (.int .i64 R.y.lo) (.int .i64 R.y.hi) (.int .i64 R.s.lo) (.int .i64 R.s.hi) (.int .i64 R.d.lo) (.int .i64 R.d.hi)
    have k2z := far_set8 k2d (g := w.heap.size) (by omega) (.int .i64 R.x.lo) (.int .i64 R.x.hi) (.int .i64 R.y.lo) (.int .i64 R.y.hi) (.int .i64 R.s.lo) (.int .i64 R.s.hi) (.int .i64 R.d.lo) (.int .i64 R.d.hi)
    have hbz := below_set8 (g := w.heap.size) hb (Nat.le_refl _) (.int .i64 R.x.lo) (.int .i64 R.x.hi) (.int .i64 R.y.lo) (.int .i64 R.y.hi) (.int .i64 R.s.lo) (.int .i64 R.s.hi) (.int .i64 R.d.lo) (.int .i64 R.d.hi)
    have hKz : (set8 Wd w.heap.size (.int .i64 R.x.lo) (.int .i64 R.x.hi) (.int .i64 R.y.lo) (.int .i64 R.y.hi) (.int .i64 R.s.lo) (.int .i64 R.s.hi) (.int .i64 R.d.lo) (.int .i64 R.d.hi)).heap[D]? = some (.deferred (some [])) := (heap_set8 _ (by omega) _ _ _ _ _ _ _ _).trans hKd
    obtain ⟨wz, hwz⟩ : ∃ x, x = set8 Wd w.heap.size (.int .i64 R.x.lo) (.int .i64 R.x.hi) (.int .i64 R.y.lo) (.int .i64 R.y.hi) (.int .i64 R.s.lo) (.int .i64 R.s.hi) (.int .i64 R.d.lo) (.int .i64 R.d.hi) := ⟨_, rfl⟩
    rw [← hwz] at k1z k2z hbz hKz
    simp only [set8] at hwz
    refine hOne 2 fun K hK => ?_
    obtain ⟨c1, f1, l1⟩ := k1d.rules
    go_simp
    rw [← hwz]
    refine hK _ _ ⟨k1z.cell, k2z.cell⟩ ?_
    clear hK K hwz c1 f1 l1 k1d k2d hb hKd
    try simp only [Act.put, sA, sZ, sS]
    have k1y := k1z.far (p := ⟨w.heap.size + 1, 0, none⟩) (by dsimp only; omega) (.bool S)
    have k2y := k2z.set_ 0 (.bool S)
    have hby := hbz.setCell (p := ⟨w.heap.size + 1, 0, none⟩) (by dsimp only; omega) (.bool S)
    have hKy : (wz.setCell ⟨w.heap.size + 1, 0, none⟩ (.bool S)).heap[D]? = some (.deferred (some [])) := (Below.heap_setCell _ _ _ _ (by dsimp only; omega)).trans hKz
    refine hOne 3 fun K hK => ?_
    obtain ⟨c2, f2, l2⟩ := k2z.rules
    go_simp
    refine hK _ _ ⟨k1y.cell, k2y.cell⟩ ?_
    clear hK K c2 f2 l2 k1z k2z hbz hKz
    generalize wz.setCell ⟨w.heap.size + 1, 0, none⟩ (.bool S) = wy at *
    refine wpAnyH_done (by kernel_rfl) (noPanic_normal ?_) _
    go_wp2_with fail
    refine ⟨by simp, .inl ⟨_, _, rfl, run_takeDeferred hKy, ?_⟩⟩
    have hpu : Below w.heap.size w (wy.putObj D (.deferred none)) := calm_below (calm_put (B := w.heap.size) _ hKy rfl (by omega)) hby (Nat.le_refl _)
    have k1e := calm_blk (calm_put (B := w.heap.size) (.deferred none) hKy rfl (by omega)) k1y
    have k2e := calm_blk (calm_put (B := w.heap.size) (.deferred none) hKy rfl (by omega)) k2y
    obtain ⟨c1, f1, l1⟩ := k1e.rules
    obtain ⟨c2, f2, l2⟩ := k2e.rules
    refine ⟨.tuple #[.agg (regA R), .bool S], ?_, by rw [hR.out, hS.out], hpu⟩
    simp [results, Tryz.results149, go_sem, c1, c2, regA]
  case round =>
    rintro l i vs W hW hi ⟨k1, k2, hb⟩ hLi ⟨p, hp, rfl⟩
    gi_wp2_with fail
    refine ⟨(Below.refl _ _).alloc (Nat.le_refl _) _, fun W2 hc => ?_⟩
    have hc3 : Calm W0.heap.size W W2 := (calm_of_below ((Below.refl _ _).alloc (Nat.le_refl _) _) hW).trans hc
    have k6 : Blk W2 W.heap.size 48 #[.int .i64 p.x, .int .i64 p.y] := calm_blk hc (Blk.new _ _ _)
    replace hLi : FourL r gf W2 := calm_blk hc3 hLi
    have hI : HullI r w i W2 := HullI.calm ⟨k1, k2, hb⟩ hc3 (by omega)
    clear hc hc3 k1 k2 hb hI0 hL0 hc0 hL
    have hpm := hpt.out p (List.mem_of_getElem? hp)
    have hst := Lib.hid (hullTo_succ hp)
    have hm1 := Lib.hid (hmid.out i)
    have hz := Lib.hid (optR_add (hullTo r i) p)
    have hz2 := Lib.hid (isSome_add (hullTo r i) p)
    obtain ⟨k1, k2, hb⟩ := hI
    replace hp := Lib.hid hp
    have hofm : midR (ofP p) := by simp only [midR, midB, ofP, still]; omega
    replace hofm := Lib.hid hofm
    cases hs : (hullTo r i).isSome with
    | true =>
      rw [hs] at k2
      rw [hs, if_pos rfl] at hz
      generalize optR (hullTo r i) = R at *
      simp only [regA] at k1
      obtain ⟨c2, f2, l2⟩ := k2.rules
      gi_wp2_with fail
      clear c2 f2 l2
      have hn := NC.refl W0.heap.size W2
      have hmR := hm1
      refine wpIn_till_round (fun w' => (∀ j, w'.cell? ⟨w.heap.size, j, none⟩ = #[Value.int .i64 R.x.lo, .int .i64 R.x.hi, .int .i64 R.y.lo, .int .i64 R.y.hi, .int .i64 R.s.lo, .int .i64 R.s.hi, .int .i64 R.d.lo, .int .i64 R.d.hi][j]?) ∧ (∀ j, w'.cell? ⟨W.heap.size, j, none⟩ = #[Value.int .i64 p.x, .int .i64 p.y][j]?)) 4 (by kernel_rfl) (by kernel_rfl) (by rintro ⟨_, _, h⟩; exact h) ?_
      have hS : (fun w' : World => (∀ j, w'.cell? ⟨w.heap.size, j, none⟩ = #[Value.int .i64 R.x.lo, .int .i64 R.x.hi, .int .i64 R.y.lo, .int .i64 R.y.hi, .int .i64 R.s.lo, .int .i64 R.s.hi, .int .i64 R.d.lo, .int .i64 R.d.hi][j]?) ∧ (∀ j, w'.cell? ⟨W.heap.size, j, none⟩ = #[Value.int .i64 p.x, .int .i64 p.y][j]?)) W2.drew := ⟨k1.cell, k6.cell⟩
      refine till_taked (i := 0) (v := ?_) 19 rfl rfl (by kernel_rfl) (by kernel_rfl) (by kernel_rfl) (by kernel_rfl) (by kernel_rfl) (by kernel_rfl) (fun _ _ _ h => h) (Or.inl ⟨by rfl, ?_⟩) hS ?_
      rotate_left 1
      · intro w' hSw
        try dsimp only at hSw
        obtain ⟨q1, q2⟩ := hSw
        go_simp
        all_goals with_reducible rfl
      try simp only [Act.put, sA, sZ, sS]
      refine till_taked (i := 1) (v := ?_) 20 rfl rfl (by kernel_rfl) (by kernel_rfl) (by kernel_rfl) (by kernel_rfl) (by kernel_rfl) (by kernel_rfl) (fun _ _ _ h => h) (Or.inl ⟨by rfl, ?_⟩) hS ?_
      rotate_left 1
      · intro w' hSw
        try dsimp only at hSw
        obtain ⟨q1, q2⟩ := hSw
        go_simp
        all_goals with_reducible rfl
      try simp only [Act.put, sA, sZ, sS]
      refine till_one (i := 2) (by kernel_rfl) rfl rfl (fun K hK => ?_)
      go_simp
      refine (of_any p _ (by omega)).mono ?_
      rintro e w5 ⟨rfl, hb5⟩
      replace hb5 := below_of_drew hb5
      replace k1 := k1.below hb5
      replace k2 := k2.below hb5
      replace k6 := k6.below hb5
      replace hb := hb.trans (hb5.mono hb.size)
      replace hn := hn.trans (nc_of_below hb5)
      replace hLi : FourL r gf w5 := Blk.below hLi hb5
      refine hK _ _ (fun _ => ⟨k1.cell, k6.cell⟩) ?_
      clear hK K hS
      try simp only [Act.put, sA, sZ, sS]
      have hcomb := fun W => combined_any R (ofP p) spanB 166 W eg_spanB hmR.out hofm.out op_spanB
      simp only [regA] at hcomb
      refine till_one (i := 3) (by kernel_rfl) rfl rfl (fun K hK => ?_)
      go_simp
      refine (hcomb _).mono ?_
      clear hcomb
      rintro e w6 ⟨rfl, hb6⟩
      replace k1 := k1.below hb6
      replace k2 := k2.below hb6
      replace k6 := k6.below hb6
      replace hb := hb.trans (hb6.mono hb.size)
      replace hn := hn.trans (nc_of_below hb6)
      replace hLi : FourL r gf w6 := Blk.below hLi hb6
      refine hK _ _ (fun _ => ⟨k1.cell, k6.cell⟩) ?_
      clear hK K hb5 hb6
      try simp only [Act.put, sA, sZ, sS]
      refine till_one (i := 4) (by kernel_rfl) rfl rfl (fun K hK => ?_)
      obtain ⟨c1, f1, l1⟩ := k1.rules
      go_simp
      refine hK _ _ (fun h => nomatch (show true = false from h)) ?_
      clear hK K c1 f1 l1
      refine till_done (by kernel_rfl) ?_ _
      refine ⟨hn.trans (nc_set8 _ (by omega) _ _ _ _ _ _ _ _), ⟨?_, ?_, below_set8 (g := w.heap.size) hb (Nat.le_refl _) _ _ _ _ _ _ _ _⟩, far_set8 hLi (g := w.heap.size) (by omega) _ _ _ _ _ _ _ _⟩
      · rw [hst.out, hz.out]; exact k1.set8 _ _ _ _ _ _ _ _
      · rw [hst.out, hz2.out]; exact far_set8 k2 (g := w.heap.size) (by omega) _ _ _ _ _ _ _ _
    | false =>
      rw [hs] at k2
      rw [hs, if_neg (by simp)] at hz
      generalize optR (hullTo r i) = R at *
      simp only [regA] at k1
      obtain ⟨c2, f2, l2⟩ := k2.rules
      obtain ⟨c6, f6, l6⟩ := k6.rules
      gi_wp2_with fail
      refine ⟨trivial, (CallsIn.inRound l (callsIn_wide.2 (of_any p _ (by omega)))).mono ?_⟩
      rintro e w5 ⟨rfl, hb5⟩
      clear c2 f2 l2 c6 f6 l6
      replace k1 := k1.below hb5
      replace k2 := k2.below hb5
      replace k6 := k6.below hb5
      replace hb := hb.trans (hb5.mono hb.size)
      have hn := nc_of_below (B := W0.heap.size) hb5
      replace hLi : FourL r gf w5 := Blk.below hLi hb5
      clear hb5
      have k1z := (k1.set8 (.int .i64 (ofP p).x.lo) (.int .i64 (ofP p).x.hi) (.int .i64 (ofP p).y.lo) (.int .i64 (ofP p).y.hi) (.int .i64 (ofP p).s.lo) (.int .i64 (ofP p).s.hi) (.int .i64 (ofP p).d.lo) (.int .i64 (ofP p).d.hi)).far (p := ⟨w.heap.size + 1, 0, none⟩) (by dsimp only; omega) (.bool true)
      have k2z := (far_set8 k2 (g := w.heap.size) (by omega) (.int .i64 (ofP p).x.lo) (.int .i64 (ofP p).x.hi) (.int .i64 (ofP p).y.lo) (.int .i64 (ofP p).y.hi) (.int .i64 (ofP p).s.lo) (.int .i64 (ofP p).s.hi) (.int .i64 (ofP p).d.lo) (.int .i64 (ofP p).d.hi)).set_ 0 (.bool true)
      have k6z := (far_set8 k6 (g := w.heap.size) (by omega) (.int .i64 (ofP p).x.lo) (.int .i64 (ofP p).x.hi) (.int .i64 (ofP p).y.lo) (.int .i64 (ofP p).y.hi) (.int .i64 (ofP p).s.lo) (.int .i64 (ofP p).s.hi) (.int .i64 (ofP p).d.lo) (.int .i64 (ofP p).d.hi)).far (p := ⟨w.heap.size + 1, 0, none⟩) (by dsimp only; omega) (.bool true)
      have hbz := (below_set8 (g := w.heap.size) hb (Nat.le_refl _) (.int .i64 (ofP p).x.lo) (.int .i64 (ofP p).x.hi) (.int .i64 (ofP p).y.lo) (.int .i64 (ofP p).y.hi) (.int .i64 (ofP p).s.lo) (.int .i64 (ofP p).s.hi) (.int .i64 (ofP p).d.lo) (.int .i64 (ofP p).d.hi)).setCell (p := ⟨w.heap.size + 1, 0, none⟩) (by dsimp only; omega) (.bool true)
      have hnz := (hn.trans (nc_set8 (g := w.heap.size) _ (by omega) (.int .i64 (ofP p).x.lo) (.int .i64 (ofP p).x.hi) (.int .i64 (ofP p).y.lo) (.int .i64 (ofP p).y.hi) (.int .i64 (ofP p).s.lo) (.int .i64 (ofP p).s.hi) (.int .i64 (ofP p).d.lo) (.int .i64 (ofP p).d.hi))).trans (nc_setCell _ ⟨w.heap.size + 1, 0, none⟩ (.bool true) (by dsimp only; omega))
      have hLz : FourL r gf _ := (far_set8 hLi (g := w.heap.size) (by omega) (.int .i64 (ofP p).x.lo) (.int .i64 (ofP p).x.hi) (.int .i64 (ofP p).y.lo) (.int .i64 (ofP p).y.hi) (.int .i64 (ofP p).s.lo) (.int .i64 (ofP p).s.hi) (.int .i64 (ofP p).d.lo) (.int .i64 (ofP p).d.hi)).far (p := ⟨w.heap.size + 1, 0, none⟩) (by dsimp only; omega) (.bool true)
      obtain ⟨wz, hwz⟩ : ∃ x, x = (set8 w5 w.heap.size (.int .i64 (ofP p).x.lo) (.int .i64 (ofP p).x.hi) (.int .i64 (ofP p).y.lo) (.int .i64 (ofP p).y.hi) (.int .i64 (ofP p).s.lo) (.int .i64 (ofP p).s.hi) (.int .i64 (ofP p).d.lo) (.int .i64 (ofP p).d.hi)).setCell ⟨w.heap.size + 1, 0, none⟩ (.bool true) := ⟨_, rfl⟩
      rw [← hwz] at k1z k2z k6z hbz hnz hLz
      simp only [set8] at hwz
      obtain ⟨c1, f1, l1⟩ := k1.rules
      obtain ⟨c2, f2, l2⟩ := k2.rules
      gi_wp2_with fail
      rw [← hwz]
      clear hwz c1 f1 l1 c2 f2 l2 k1 k2 k6 hb hn hLi
      have k1 := k1z
      have k2 := k2z
      have k6 := k6z
      have hb := hbz
      have hn := hnz
      have hLi := hLz
      clear k1z k2z k6z hbz hnz hLz
      have hmR := hofm
      refine wpIn_till_round (fun w' => (∀ j, w'.cell? ⟨w.heap.size, j, none⟩ = #[Value.int .i64 (ofP p).x.lo, .int .i64 (ofP p).x.hi, .int .i64 (ofP p).y.lo, .int .i64 (ofP p).y.hi, .int .i64 (ofP p).s.lo, .int .i64 (ofP p).s.hi, .int .i64 (ofP p).d.lo, .int .i64 (ofP p).d.hi][j]?) ∧ (∀ j, w'.cell? ⟨W.heap.size, j, none⟩ = #[Value.int .i64 p.x, .int .i64 p.y][j]?)) 4 (by kernel_rfl) (by kernel_rfl) (by rintro ⟨_, _, h⟩; exact h) ?_
      have hS : (fun w' : World => (∀ j, w'.cell? ⟨w.heap.size, j, none⟩ = #[Value.int .i64 (ofP p).x.lo, .int .i64 (ofP p).x.hi, .int .i64 (ofP p).y.lo, .int .i64 (ofP p).y.hi, .int .i64 (ofP p).s.lo, .int .i64 (ofP p).s.hi, .int .i64 (ofP p).d.lo, .int .i64 (ofP p).d.hi][j]?) ∧ (∀ j, w'.cell? ⟨W.heap.size, j, none⟩ = #[Value.int .i64 p.x, .int .i64 p.y][j]?)) wz.drew := ⟨k1.cell, k6.cell⟩
      refine till_taked (i := 0) (v := ?_) 19 rfl rfl (by kernel_rfl) (by kernel_rfl) (by kernel_rfl) (by kernel_rfl) (by kernel_rfl) (by kernel_rfl) (fun _ _ _ h => h) (Or.inl ⟨by rfl, ?_⟩) hS ?_
      rotate_left 1
      · intro w' hSw
        try dsimp only at hSw
        obtain ⟨q1, q2⟩ := hSw
        go_simp
        all_goals with_reducible rfl
      try simp only [Act.put, sA, sZ, sS]
      refine till_taked (i := 1) (v := ?_) 20 rfl rfl (by kernel_rfl) (by kernel_rfl) (by kernel_rfl) (by kernel_rfl) (by kernel_rfl) (by kernel_rfl) (fun _ _ _ h => h) (Or.inl ⟨by rfl, ?_⟩) hS ?_
      rotate_left 1
      · intro w' hSw
        try dsimp only at hSw
        obtain ⟨q1, q2⟩ := hSw
        go_simp
        all_goals with_reducible rfl
      try simp only [Act.put, sA, sZ, sS]
      refine till_one (i := 2) (by kernel_rfl) rfl rfl (fun K hK => ?_)
      go_simp
      refine (of_any p _ (by omega)).mono ?_
      rintro e w5 ⟨rfl, hb5⟩
      replace hb5 := below_of_drew hb5
      replace k1 := k1.below hb5
      replace k2 := k2.below hb5
      replace k6 := k6.below hb5
      replace hb := hb.trans (hb5.mono hb.size)
      replace hn := hn.trans (nc_of_below hb5)
      replace hLi : FourL r gf w5 := Blk.below hLi hb5
      refine hK _ _ (fun _ => ⟨k1.cell, k6.cell⟩) ?_
      clear hK K hS
      try simp only [Act.put, sA, sZ, sS]
      have hcomb := fun W => combined_any (ofP p) (ofP p) spanB 166 W eg_spanB hmR.out hofm.out op_spanB
      simp only [regA] at hcomb
      refine till_one (i := 3) (by kernel_rfl) rfl rfl (fun K hK => ?_)
      go_simp
      refine (hcomb _).mono ?_
      clear hcomb
      rintro e w6 ⟨rfl, hb6⟩
      replace k1 := k1.below hb6
      replace k2 := k2.below hb6
      replace k6 := k6.below hb6
      replace hb := hb.trans (hb6.mono hb.size)
      replace hn := hn.trans (nc_of_below hb6)
      replace hLi : FourL r gf w6 := Blk.below hLi hb6
      refine hK _ _ (fun _ => ⟨k1.cell, k6.cell⟩) ?_
      clear hK K hb5 hb6
      try simp only [Act.put, sA, sZ, sS]
      refine till_one (i := 4) (by kernel_rfl) rfl rfl (fun K hK => ?_)
      obtain ⟨c1, f1, l1⟩ := k1.rules
      go_simp
      refine hK _ _ (fun h => nomatch (show true = false from h)) ?_
      clear hK K c1 f1 l1
      refine till_done (by kernel_rfl) ?_ _
      refine ⟨hn.trans (nc_set8 _ (by omega) _ _ _ _ _ _ _ _), ⟨?_, ?_, below_set8 (g := w.heap.size) hb (Nat.le_refl _) _ _ _ _ _ _ _ _⟩, far_set8 hLi (g := w.heap.size) (by omega) _ _ _ _ _ _ _ _⟩
      · rw [hst.out, hz.out]; exact k1.set8 _ _ _ _ _ _ _ _
      · rw [hst.out, hz2.out]; exact far_set8 k2 (g := w.heap.size) (by omega) _ _ _ _ _ _ _ _
end Go.Proofs.YtcmbmmpihiekhaaGreat
namespace Go.Proofs.YtcmbmmpihiekhaaGreat
open Go.RowKit Go.Shelf

theorem tight_any (r : Reg) (w : World) (hr : okReg r = true) :
    Calls Tryz.prog 124 #[.agg (regA r)] w fun e w' => e = .returned (.tuple #[.agg (regA (doneR (tightO r)).1), .int .i64 (doneR (tightO r)).2]) ∧ Below w.heap.size w w' := by
  have hst := @hstT Tryz.prog
  have hend := fun W => ends_any r W
  simp only [regA] at hend
  have hhull := fun A c gf b off W h1 h2 h3 => hull_any r A c gf b off W hr h1 h2 h3
  cases ht : tightO r with
  | none =>
    rw [ht] at hhull
    simp only [optR, Option.getD_none, Option.getD_some, Option.isSome_none, Option.isSome_some] at hhull
    simp only [doneR]
    simp only [regA] at hhull ⊢
    replace hhull := Lib.hid hhull
    clear ht
    go_enter Tryz.func124, Tryz.ntmps124
    go_wp2_with fail
    refine (hend _).mono ?_
    clear hend
    rintro e w1 ⟨rfl, rfl⟩
    go_wp2_with fail
    have k2 := (((Blk.newAt (w := w.alloc (.cells #[.int .i64 r.x.lo, .int .i64 r.x.hi, .int .i64 r.y.lo, .int .i64 r.y.hi, .int .i64 r.s.lo, .int .i64 r.s.hi, .int .i64 r.d.lo, .int .i64 r.d.hi] 173)) (g := w.heap.size + 1) (t := 173) (cs := #[.int .i64 0, .int .i64 0, .int .i64 0, .int .i64 0, .int .i64 0, .int .i64 0, .int .i64 0, .int .i64 0]) (by simp)).alloc (.cells #[.int .i64 r.x.lo, .int .i64 r.x.hi, .int .i64 r.y.lo, .int .i64 r.y.hi, .int .i64 r.s.lo, .int .i64 r.s.hi, .int .i64 r.d.lo, .int .i64 r.d.hi] 173)).alloc (.cells #[.func (.func 130) #[] #[.pointer (some ⟨w.heap.size + 1 + 1, 0, none⟩)]] 188))
    have b0 : Below w.heap.size w ((((w.alloc (.cells #[.int .i64 r.x.lo, .int .i64 r.x.hi, .int .i64 r.y.lo, .int .i64 r.y.hi, .int .i64 r.s.lo, .int .i64 r.s.hi, .int .i64 r.d.lo, .int .i64 r.d.hi] 173)).alloc (.cells #[.int .i64 0, .int .i64 0, .int .i64 0, .int .i64 0, .int .i64 0, .int .i64 0, .int .i64 0, .int .i64 0] 173)).alloc (.cells #[.int .i64 r.x.lo, .int .i64 r.x.hi, .int .i64 r.y.lo, .int .i64 r.y.hi, .int .i64 r.s.lo, .int .i64 r.s.hi, .int .i64 r.d.lo, .int .i64 r.d.hi] 173)).alloc (.cells #[.func (.func 130) #[] #[.pointer (some ⟨w.heap.size + 1 + 1, 0, none⟩)]] 188)) :=
      ((((Below.refl _ _).alloc (Nat.le_refl _) _).alloc (by simp) _).alloc (by simp; omega) _).alloc (by simp; omega) _
    have k3 : Blk ((((w.alloc (.cells #[.int .i64 r.x.lo, .int .i64 r.x.hi, .int .i64 r.y.lo, .int .i64 r.y.hi, .int .i64 r.s.lo, .int .i64 r.s.hi, .int .i64 r.d.lo, .int .i64 r.d.hi] 173)).alloc (.cells #[.int .i64 0, .int .i64 0, .int .i64 0, .int .i64 0, .int .i64 0, .int .i64 0, .int .i64 0, .int .i64 0] 173)).alloc (.cells #[.int .i64 r.x.lo, .int .i64 r.x.hi, .int .i64 r.y.lo, .int .i64 r.y.hi, .int .i64 r.s.lo, .int .i64 r.s.hi, .int .i64 r.d.lo, .int .i64 r.d.hi] 173)).alloc (.cells #[.func (.func 130) #[] #[.pointer (some ⟨w.heap.size + 1 + 1, 0, none⟩)]] 188)) (w.heap.size + 1 + 1 + 1) 188 #[.func (.func 130) #[] #[.pointer (some ⟨w.heap.size + 1 + 1, 0, none⟩)]] := Blk.newAt (by simp)
    refine (hhull.out _ 1 (w.heap.size + 1 + 1) (w.heap.size + 1 + 1 + 1) 0 _ rfl (k3.cell 0) ((Blk.newAt (by simp)).alloc _)).mono ?_
    rintro e w2 ⟨rfl, hb2⟩
    replace k2 := k2.below hb2
    replace b0 := b0.trans (hb2.mono b0.size)
    clear k3 hb2 hhull
    have k4 := Blk.new w2 173 #[.int .i64 noReg.x.lo, .int .i64 noReg.x.hi, .int .i64 noReg.y.lo, .int .i64 noReg.y.hi, .int .i64 noReg.s.lo, .int .i64 noReg.s.hi, .int .i64 noReg.d.lo, .int .i64 noReg.d.hi]
    have kz := (k2.set8 (.int .i64 noReg.x.lo) (.int .i64 noReg.x.hi) (.int .i64 noReg.y.lo) (.int .i64 noReg.y.hi) (.int .i64 noReg.s.lo) (.int .i64 noReg.s.hi) (.int .i64 noReg.d.lo) (.int .i64 noReg.d.hi)).alloc (.cells #[.int .i64 noReg.x.lo, .int .i64 noReg.x.hi, .int .i64 noReg.y.lo, .int .i64 noReg.y.hi, .int .i64 noReg.s.lo, .int .i64 noReg.s.hi, .int .i64 noReg.d.lo, .int .i64 noReg.d.hi] 173)
    have bz0 := below_set8 (g := w.heap.size + 1) b0 (by omega) (.int .i64 noReg.x.lo) (.int .i64 noReg.x.hi) (.int .i64 noReg.y.lo) (.int .i64 noReg.y.hi) (.int .i64 noReg.s.lo) (.int .i64 noReg.s.hi) (.int .i64 noReg.d.lo) (.int .i64 noReg.d.hi)
    have bz := bz0.alloc bz0.size (.cells #[.int .i64 noReg.x.lo, .int .i64 noReg.x.hi, .int .i64 noReg.y.lo, .int .i64 noReg.y.hi, .int .i64 noReg.s.lo, .int .i64 noReg.s.hi, .int .i64 noReg.d.lo, .int .i64 noReg.d.hi] 173)
    obtain ⟨wz, hwz⟩ : ∃ x, x = (set8 w2 (w.heap.size + 1) (.int .i64 noReg.x.lo) (.int .i64 noReg.x.hi) (.int .i64 noReg.y.lo) (.int .i64 noReg.y.hi) (.int .i64 noReg.s.lo) (.int .i64 noReg.s.hi) (.int .i64 noReg.d.lo) (.int .i64 noReg.d.hi)).alloc (.cells #[.int .i64 noReg.x.lo, .int .i64 noReg.x.hi, .int .i64 noReg.y.lo, .int .i64 noReg.y.hi, .int .i64 noReg.s.lo, .int .i64 noReg.s.hi, .int .i64 noReg.d.lo, .int .i64 noReg.d.hi] 173) := ⟨_, rfl⟩
    rw [← hwz] at kz bz
    simp only [set8, noReg] at hwz
    try simp only [noReg] at k4
    obtain ⟨c2, f2, l2⟩ := k2.rules
    obtain ⟨c4, f4, l4⟩ := k4.rules
    clear k4 k2 b0 bz0
    go_wp2
    try simp only [noReg]
    rw [← hwz]
    clear hwz c2 f2 l2 c4 f4 l4
    obtain ⟨c2, f2, l2⟩ := kz.rules
    exact bodyPost_ret (v := .tuple #[.agg #[.int .i64 noReg.x.lo, .int .i64 noReg.x.hi, .int .i64 noReg.y.lo, .int .i64 noReg.y.hi, .int .i64 noReg.s.lo, .int .i64 noReg.s.hi, .int .i64 noReg.d.lo, .int .i64 noReg.d.hi], .int .i64 4]) (by simp [results, Tryz.results124, go_sem, c2, noReg]) rfl ⟨rfl, bz⟩
  | some R =>
    rw [ht] at hhull
    simp only [optR, Option.getD_none, Option.getD_some, Option.isSome_none, Option.isSome_some] at hhull
    simp only [doneR]
    simp only [regA] at hhull ⊢
    replace hhull := Lib.hid hhull
    clear ht
    go_enter Tryz.func124, Tryz.ntmps124
    go_wp2_with fail
    refine (hend _).mono ?_
    clear hend
    rintro e w1 ⟨rfl, rfl⟩
    go_wp2_with fail
    have k2 := (((Blk.newAt (w := w.alloc (.cells #[.int .i64 r.x.lo, .int .i64 r.x.hi, .int .i64 r.y.lo, .int .i64 r.y.hi, .int .i64 r.s.lo, .int .i64 r.s.hi, .int .i64 r.d.lo, .int .i64 r.d.hi] 173)) (g := w.heap.size + 1) (t := 173) (cs := #[.int .i64 0, .int .i64 0, .int .i64 0, .int .i64 0, .int .i64 0, .int .i64 0, .int .i64 0, .int .i64 0]) (by simp)).alloc (.cells #[.int .i64 r.x.lo, .int .i64 r.x.hi, .int .i64 r.y.lo, .int .i64 r.y.hi, .int .i64 r.s.lo, .int .i64 r.s.hi, .int .i64 r.d.lo, .int .i64 r.d.hi] 173)).alloc (.cells #[.func (.func 130) #[] #[.pointer (some ⟨w.heap.size + 1 + 1, 0, none⟩)]] 188))
    have b0 : Below w.heap.size w ((((w.alloc (.cells #[.int .i64 r.x.lo, .int .i64 r.x.hi, .int .i64 r.y.lo, .int .i64 r.y.hi, .int .i64 r.s.lo, .int .i64 r.s.hi, .int .i64 r.d.lo, .int .i64 r.d.hi] 173)).alloc (.cells #[.int .i64 0, .int .i64 0, .int .i64 0, .int .i64 0, .int .i64 0, .int .i64 0, .int .i64 0, .int .i64 0] 173)).alloc (.cells #[.int .i64 r.x.lo, .int .i64 r.x.hi, .int .i64 r.y.lo, .int .i64 r.y.hi, .int .i64 r.s.lo, .int .i64 r.s.hi, .int .i64 r.d.lo, .int .i64 r.d.hi] 173)).alloc (.cells #[.func (.func 130) #[] #[.pointer (some ⟨w.heap.size + 1 + 1, 0, none⟩)]] 188)) :=
      ((((Below.refl _ _).alloc (Nat.le_refl _) _).alloc (by simp) _).alloc (by simp; omega) _).alloc (by simp; omega) _
    have k3 : Blk ((((w.alloc (.cells #[.int .i64 r.x.lo, .int .i64 r.x.hi, .int .i64 r.y.lo, .int .i64 r.y.hi, .int .i64 r.s.lo, .int .i64 r.s.hi, .int .i64 r.d.lo, .int .i64 r.d.hi] 173)).alloc (.cells #[.int .i64 0, .int .i64 0, .int .i64 0, .int .i64 0, .int .i64 0, .int .i64 0, .int .i64 0, .int .i64 0] 173)).alloc (.cells #[.int .i64 r.x.lo, .int .i64 r.x.hi, .int .i64 r.y.lo, .int .i64 r.y.hi, .int .i64 r.s.lo, .int .i64 r.s.hi, .int .i64 r.d.lo, .int .i64 r.d.hi] 173)).alloc (.cells #[.func (.func 130) #[] #[.pointer (some ⟨w.heap.size + 1 + 1, 0, none⟩)]] 188)) (w.heap.size + 1 + 1 + 1) 188 #[.func (.func 130) #[] #[.pointer (some ⟨w.heap.size + 1 + 1, 0, none⟩)]] := Blk.newAt (by simp)
    refine (hhull.out _ 1 (w.heap.size + 1 + 1) (w.heap.size + 1 + 1 + 1) 0 _ rfl (k3.cell 0) ((Blk.newAt (by simp)).alloc _)).mono ?_
    rintro e w2 ⟨rfl, hb2⟩
    replace k2 := k2.below hb2
    replace b0 := b0.trans (hb2.mono b0.size)
    clear k3 hb2 hhull
    have k4 := Blk.new w2 173 #[.int .i64 R.x.lo, .int .i64 R.x.hi, .int .i64 R.y.lo, .int .i64 R.y.hi, .int .i64 R.s.lo, .int .i64 R.s.hi, .int .i64 R.d.lo, .int .i64 R.d.hi]
    have kz := (k2.set8 (.int .i64 R.x.lo) (.int .i64 R.x.hi) (.int .i64 R.y.lo) (.int .i64 R.y.hi) (.int .i64 R.s.lo) (.int .i64 R.s.hi) (.int .i64 R.d.lo) (.int .i64 R.d.hi)).alloc (.cells #[.int .i64 R.x.lo, .int .i64 R.x.hi, .int .i64 R.y.lo, .int .i64 R.y.hi, .int .i64 R.s.lo, .int .i64 R.s.hi, .int .i64 R.d.lo, .int .i64 R.d.hi] 173)
    have bz0 := below_set8 (g := w.heap.size + 1) b0 (by omega) (.int .i64 R.x.lo) (.int .i64 R.x.hi) (.int .i64 R.y.lo) (.int .i64 R.y.hi) (.int .i64 R.s.lo) (.int .i64 R.s.hi) (.int .i64 R.d.lo) (.int .i64 R.d.hi)
    have bz := bz0.alloc bz0.size (.cells #[.int .i64 R.x.lo, .int .i64 R.x.hi, .int .i64 R.y.lo, .int .i64 R.y.hi, .int .i64 R.s.lo, .int .i64 R.s.hi, .int .i64 R.d.lo, .int .i64 R.d.hi] 173)
    obtain ⟨wz, hwz⟩ : ∃ x, x = (set8 w2 (w.heap.size + 1) (.int .i64 R.x.lo) (.int .i64 R.x.hi) (.int .i64 R.y.lo) (.int .i64 R.y.hi) (.int .i64 R.s.lo) (.int .i64 R.s.hi) (.int .i64 R.d.lo) (.int .i64 R.d.hi)).alloc (.cells #[.int .i64 R.x.lo, .int .i64 R.x.hi, .int .i64 R.y.lo, .int .i64 R.y.hi, .int .i64 R.s.lo, .int .i64 R.s.hi, .int .i64 R.d.lo, .int .i64 R.d.hi] 173) := ⟨_, rfl⟩
    rw [← hwz] at kz bz
    simp only [set8, noReg] at hwz
    try simp only [noReg] at k4
    obtain ⟨c2, f2, l2⟩ := k2.rules
    obtain ⟨c4, f4, l4⟩ := k4.rules
    clear k4 k2 b0 bz0
    go_wp2
    try simp only [noReg]
    rw [← hwz]
    clear hwz c2 f2 l2 c4 f4 l4
    obtain ⟨c2, f2, l2⟩ := kz.rules
    exact bodyPost_ret (v := .tuple #[.agg #[.int .i64 R.x.lo, .int .i64 R.x.hi, .int .i64 R.y.lo, .int .i64 R.y.hi, .int .i64 R.s.lo, .int .i64 R.s.hi, .int .i64 R.d.lo, .int .i64 R.d.hi], .int .i64 0]) (by simp [results, Tryz.results124, go_sem, c2, noReg]) rfl ⟨rfl, bz⟩
theorem Tight_any (r : Reg) (w : World) :
    Calls Tryz.prog 67 #[.agg (regA r)] w fun e w' => e = .returned (.tuple #[.agg (regA (tightR r).1), .int .i64 (tightR r).2]) ∧ Below w.heap.size w w' := by
  have hchk := fun W => rCheck_any r W
  by_cases hr : okReg r = true
  · have hv : tightR r = doneR (tightO r) := by simp [tightR, hr]
    have hk : chkReg r = 0 := by simp [chkReg, hr]
    have hti := fun W => tight_any r W hr
    have hbo := fun W => rbounds_any r W
    rw [hv]
    simp only [hk] at hchk
    clear hv hk hr
    obtain ⟨R, hR⟩ : ∃ R, doneR (tightO r) = R := ⟨_, rfl⟩
    have hde : (if R.2 = 0 then R.1 else noReg) = R.1 := by subst hR; cases tightO r <;> rfl
    rw [hR]
    simp only [hR] at hti
    obtain ⟨R, er⟩ := R
    clear hR
    simp only [regA] at hchk hti hbo ⊢
    have hdo := fun W => done_any R er W
    simp only [hde, regA] at hdo
    clear hde
    go_enter Tryz.func67, Tryz.ntmps67
    go_wp2_with fail
    refine (hchk _).mono ?_
    rintro e w1 ⟨rfl, hb1⟩
    have k1 := ((Blk.new w 68 #[.int .i64 r.x.lo, .int .i64 r.x.hi, .int .i64 r.y.lo, .int .i64 r.y.hi, .int .i64 r.s.lo, .int .i64 r.s.hi, .int .i64 r.d.lo, .int .i64 r.d.hi]).alloc (.cells #[.int .i64 0, .int .i64 0, .int .i64 0, .int .i64 0, .int .i64 0, .int .i64 0, .int .i64 0, .int .i64 0] 68)).below hb1
    have k2 := (Blk.new (w.alloc (.cells #[.int .i64 r.x.lo, .int .i64 r.x.hi, .int .i64 r.y.lo, .int .i64 r.y.hi, .int .i64 r.s.lo, .int .i64 r.s.hi, .int .i64 r.d.lo, .int .i64 r.d.hi] 68)) 68 #[.int .i64 0, .int .i64 0, .int .i64 0, .int .i64 0, .int .i64 0, .int .i64 0, .int .i64 0, .int .i64 0]).below hb1
    rw [World.size_alloc] at k2
    have b0 := (((Below.refl w.heap.size w).alloc (Nat.le_refl _) _).alloc (by simp) _).trans (hb1.mono (by simp; omega))
    clear hb1 hchk
    obtain ⟨c1, f1, l1⟩ := k1.rules
    go_wp2_with fail
    refine (hbo _).mono ?_
    rintro e w2 ⟨rfl, hb2⟩
    replace k2 := k2.below hb2
    replace b0 := b0.trans (hb2.mono b0.size)
    clear c1 f1 l1 k1 hb2 hbo
    go_wp2_with fail
    refine (hti _).mono ?_
    rintro e w3 ⟨rfl, hb2⟩
    replace k2 := k2.below hb2
    replace b0 := b0.trans (hb2.mono b0.size)
    clear hb2 hti
    go_wp2_with fail
    refine (hdo _).mono ?_
    rintro e w4 ⟨rfl, hb2⟩
    replace k2 := k2.below hb2
    replace b0 := b0.trans (hb2.mono b0.size)
    clear hb2 hdo
    have kz := k2.set8 (.int .i64 R.x.lo) (.int .i64 R.x.hi) (.int .i64 R.y.lo) (.int .i64 R.y.hi) (.int .i64 R.s.lo) (.int .i64 R.s.hi) (.int .i64 R.d.lo) (.int .i64 R.d.hi)
    have bz := below_set8 (g := w.heap.size + 1) b0 (by omega) (.int .i64 R.x.lo) (.int .i64 R.x.hi) (.int .i64 R.y.lo) (.int .i64 R.y.hi) (.int .i64 R.s.lo) (.int .i64 R.s.hi) (.int .i64 R.d.lo) (.int .i64 R.d.hi)
    obtain ⟨wz, hwz⟩ : ∃ x, x = set8 w4 (w.heap.size + 1) (.int .i64 R.x.lo) (.int .i64 R.x.hi) (.int .i64 R.y.lo) (.int .i64 R.y.hi) (.int .i64 R.s.lo) (.int .i64 R.s.hi) (.int .i64 R.d.lo) (.int .i64 R.d.hi) := ⟨_, rfl⟩
    rw [← hwz] at kz bz
    simp only [set8] at hwz
    obtain ⟨c2, f2, l2⟩ := k2.rules
    clear k2 b0
    go_wp2
    rw [← hwz]
    clear hwz c2 f2 l2
    obtain ⟨c2, f2, l2⟩ := kz.rules
    exact bodyPost_ret (v := .tuple #[.agg #[.int .i64 R.x.lo, .int .i64 R.x.hi, .int .i64 R.y.lo, .int .i64 R.y.hi, .int .i64 R.s.lo, .int .i64 R.s.hi, .int .i64 R.d.lo, .int .i64 R.d.hi], .int .i64 er]) (by simp [results, Tryz.results67, go_sem, c2]) rfl ⟨rfl, bz⟩
  · have hv : tightR r = (noReg, 11) := by simp [tightR, hr]
    have hk : chkReg r = 11 := by simp [chkReg, hr]
    rw [hv]
    simp only [hk] at hchk
    simp only [regA, noReg] at hchk ⊢
    clear hv hk hr
    go_enter Tryz.func67, Tryz.ntmps67
    go_wp2_with fail
    refine (hchk _).mono ?_
    rintro e w1 ⟨rfl, hb1⟩
    have k2 := (Blk.new (w.alloc (.cells #[.int .i64 r.x.lo, .int .i64 r.x.hi, .int .i64 r.y.lo, .int .i64 r.y.hi, .int .i64 r.s.lo, .int .i64 r.s.hi, .int .i64 r.d.lo, .int .i64 r.d.hi] 68)) 68 #[.int .i64 0, .int .i64 0, .int .i64 0, .int .i64 0, .int .i64 0, .int .i64 0, .int .i64 0, .int .i64 0]).below hb1
    rw [World.size_alloc] at k2
    have b0 := (((Below.refl w.heap.size w).alloc (Nat.le_refl _) _).alloc (by simp) _).trans (hb1.mono (by simp; omega))
    clear hb1 hchk
    have kz := k2.set8 (.int .i64 noReg.x.lo) (.int .i64 noReg.x.hi) (.int .i64 noReg.y.lo) (.int .i64 noReg.y.hi) (.int .i64 noReg.s.lo) (.int .i64 noReg.s.hi) (.int .i64 noReg.d.lo) (.int .i64 noReg.d.hi)
    have bz := below_set8 (g := w.heap.size + 1) b0 (by omega) (.int .i64 noReg.x.lo) (.int .i64 noReg.x.hi) (.int .i64 noReg.y.lo) (.int .i64 noReg.y.hi) (.int .i64 noReg.s.lo) (.int .i64 noReg.s.hi) (.int .i64 noReg.d.lo) (.int .i64 noReg.d.hi)
    simp only [noReg] at kz bz
    obtain ⟨wz, hwz⟩ : ∃ x, x = set8 w1 (w.heap.size + 1) (.int .i64 0) (.int .i64 0) (.int .i64 0) (.int .i64 0) (.int .i64 0) (.int .i64 0) (.int .i64 0) (.int .i64 0)  := ⟨_, rfl⟩
    rw [← hwz] at kz bz
    simp only [set8] at hwz
    obtain ⟨c2, f2, l2⟩ := k2.rules
    clear k2 b0
    go_wp2
    rw [← hwz]
    clear hwz c2 f2 l2
    obtain ⟨c2, f2, l2⟩ := kz.rules
    exact bodyPost_ret (v := .tuple #[.agg #[.int .i64 0, .int .i64 0, .int .i64 0, .int .i64 0, .int .i64 0, .int .i64 0, .int .i64 0, .int .i64 0], .int .i64 11]) (by simp [results, Tryz.results67, go_sem, c2]) rfl ⟨rfl, bz⟩
end Go.Proofs.YtcmbmmpihiekhaaGreat
