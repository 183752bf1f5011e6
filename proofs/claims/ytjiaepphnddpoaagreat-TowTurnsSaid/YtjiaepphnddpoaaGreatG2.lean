/-
  Walks in region: points as regions, operations bound by bound, what checks a region.
-/
import Derived.Test.YtjiaepphnddpoaaGreatG1
import Derived.BigQuiet
namespace Go.Proofs.YtjiaepphnddpoaaGreat
set_option linter.unusedSimpArgs false
set_option linter.unusedVariables false
open Go.RowKit Go.Shelf

def set8 (w : World) (g : Nat) (v0 v1 v2 v3 v4 v5 v6 v7 : Value) : World :=
  (((((((w.setCell ⟨g, 0, none⟩ v0).setCell ⟨g, 1, none⟩ v1).setCell ⟨g, 2, none⟩ v2).setCell ⟨g, 3, none⟩ v3).setCell ⟨g, 4, none⟩ v4).setCell ⟨g, 5, none⟩ v5).setCell ⟨g, 6, none⟩ v6).setCell ⟨g, 7, none⟩ v7
theorem Blk.set8 {w : World} {g : Nat} {t : TypeId} {a0 a1 a2 a3 a4 a5 a6 a7 : Value} (h : Blk w g t #[a0, a1, a2, a3, a4, a5, a6, a7]) (v0 v1 v2 v3 v4 v5 v6 v7 : Value) : Blk (set8 w g v0 v1 v2 v3 v4 v5 v6 v7) g t #[v0, v1, v2, v3, v4, v5, v6, v7] := by
  have k := (((((((h.set_ 0 v0).set_ 1 v1).set_ 2 v2).set_ 3 v3).set_ 4 v4).set_ 5 v5).set_ 6 v6).set_ 7 v7
  simp only [List.setIfInBounds_toArray, List.set_cons_zero, List.set_cons_succ] at k
  exact k
theorem below_set8 {B : Nat} {w0 w : World} {g : Nat} (h : Below B w0 w) (hg : B ≤ g) (v0 v1 v2 v3 v4 v5 v6 v7 : Value) : Below B w0 (set8 w g v0 v1 v2 v3 v4 v5 v6 v7) :=
  (((((((h.setCell (p := ⟨g, 0, none⟩) hg v0).setCell (p := ⟨g, 1, none⟩) hg v1).setCell (p := ⟨g, 2, none⟩) hg v2).setCell (p := ⟨g, 3, none⟩) hg v3).setCell (p := ⟨g, 4, none⟩) hg v4).setCell (p := ⟨g, 5, none⟩) hg v5).setCell (p := ⟨g, 6, none⟩) hg v6).setCell (p := ⟨g, 7, none⟩) hg v7
theorem far_set8 {w : World} {g g' : Nat} {t : TypeId} {cs : Array Value} (h : Blk w g' t cs) (hg : g' ≠ g) (v0 v1 v2 v3 v4 v5 v6 v7 : Value) : Blk (set8 w g v0 v1 v2 v3 v4 v5 v6 v7) g' t cs :=
  (((((((h.far (p := ⟨g, 0, none⟩) hg v0).far (p := ⟨g, 1, none⟩) hg v1).far (p := ⟨g, 2, none⟩) hg v2).far (p := ⟨g, 3, none⟩) hg v3).far (p := ⟨g, 4, none⟩) hg v4).far (p := ⟨g, 5, none⟩) hg v5).far (p := ⟨g, 6, none⟩) hg v6).far (p := ⟨g, 7, none⟩) hg v7
theorem heap_set8 {g k : Nat} (w : World) (h : k ≠ g) (v0 v1 v2 v3 v4 v5 v6 v7 : Value) : (set8 w g v0 v1 v2 v3 v4 v5 v6 v7).heap[k]? = w.heap[k]? := by
  unfold set8
  repeat rw [Below.heap_setCell _ _ _ _ (by exact h)]
set_option maxRecDepth 100000 in
set_option maxHeartbeats 400000 in
theorem rspanB_any (a b : Bnd) (w : World) (h1 : -1000000 ≤ a.lo ∧ a.lo ≤ 1000000 ∧ -1000000 ≤ a.hi ∧ a.hi ≤ 1000000) (h2 : -1000000 ≤ b.lo ∧ b.lo ≤ 1000000 ∧ -1000000 ≤ b.hi ∧ b.hi ≤ 1000000) :
    Calls Tryz.prog 177 #[.agg #[.int .i64 a.lo, .int .i64 a.hi], .agg #[.int .i64 b.lo, .int .i64 b.hi]] w fun e w' => e = .returned (.agg #[.int .i64 (spanB a b).lo, .int .i64 (spanB a b).hi]) ∧ Below w.heap.size w w' := by
  go_enter Tryz.func177, Tryz.ntmps177
  go_wp2
  all_goals
    refine bodyPost_ret (v := .agg #[.int .i64 (spanB a b).lo, .int .i64 (spanB a b).hi]) (by simp [results, Tryz.results177, go_sem, spanB] <;> omega) rfl ⟨rfl, ?_⟩
    exact (((Below.refl w.heap.size w).alloc (Nat.le_refl _) _).alloc (by simp) _).alloc (by simp; omega) _
set_option maxRecDepth 100000 in
set_option maxHeartbeats 400000 in
theorem rplusB_any (a b : Bnd) (w : World) (h1 : -1000000 ≤ a.lo ∧ a.lo ≤ 1000000 ∧ -1000000 ≤ a.hi ∧ a.hi ≤ 1000000) (h2 : -1000000 ≤ b.lo ∧ b.lo ≤ 1000000 ∧ -1000000 ≤ b.hi ∧ b.hi ≤ 1000000) :
    Calls Tryz.prog 135 #[.agg #[.int .i64 a.lo, .int .i64 a.hi], .agg #[.int .i64 b.lo, .int .i64 b.hi]] w fun e w' => e = .returned (.agg #[.int .i64 (plusB a b).lo, .int .i64 (plusB a b).hi]) ∧ Below w.heap.size w w' := by
  go_enter Tryz.func135, Tryz.ntmps135
  go_wp2
  all_goals
    refine bodyPost_ret (v := .agg #[.int .i64 (plusB a b).lo, .int .i64 (plusB a b).hi]) (by simp [results, Tryz.results135, go_sem, plusB] <;> omega) rfl ⟨rfl, ?_⟩
    exact (((Below.refl w.heap.size w).alloc (Nat.le_refl _) _).alloc (by simp) _).alloc (by simp; omega) _
def jv : Nat → Value
  | 0 => .int .i64 0
  | 1 => .int .i64 1
  | 2 => .int .i64 2
  | 3 => .int .i64 3
  | _ => .int .i64 4
def ofCells (p : Pnt) : Nat → Array Value
  | 0 => #[.int .i64 0, .int .i64 0, .int .i64 0, .int .i64 0, .int .i64 0, .int .i64 0, .int .i64 0, .int .i64 0]
  | 1 => #[.int .i64 p.x, .int .i64 p.x, .int .i64 0, .int .i64 0, .int .i64 0, .int .i64 0, .int .i64 0, .int .i64 0]
  | 2 => #[.int .i64 p.x, .int .i64 p.x, .int .i64 p.y, .int .i64 p.y, .int .i64 0, .int .i64 0, .int .i64 0, .int .i64 0]
  | 3 => #[.int .i64 p.x, .int .i64 p.x, .int .i64 p.y, .int .i64 p.y, .int .i64 (p.x + p.y), .int .i64 (p.x + p.y), .int .i64 0, .int .i64 0]
  | _ => #[.int .i64 p.x, .int .i64 p.x, .int .i64 p.y, .int .i64 p.y, .int .i64 (p.x + p.y), .int .i64 (p.x + p.y), .int .i64 (p.x - p.y), .int .i64 (p.x - p.y)]
set_option maxRecDepth 100000 in
set_option maxHeartbeats 1000000 in
theorem of_any (p : Pnt) (w : World) (h1 : -1000000 ≤ p.x ∧ p.x ≤ 1000000 ∧ -1000000 ≤ p.y ∧ p.y ≤ 1000000) :
    Calls Tryz.prog 134 #[.agg #[.int .i64 p.x, .int .i64 p.y]] w fun e w' =>
      e = .returned (.agg #[.int .i64 (ofP p).x.lo, .int .i64 (ofP p).x.hi, .int .i64 (ofP p).y.lo, .int .i64 (ofP p).y.hi, .int .i64 (ofP p).s.lo, .int .i64 (ofP p).s.hi, .int .i64 (ofP p).d.lo, .int .i64 (ofP p).d.hi]) ∧ Below w.heap.size w w' := by
  have i0 : ∀ (a b c d : Value) w, (Instr.index 217 (.agg #[a, b, c, d]) (.int .i64 0)).run Tryz.prog w = .ok a w := fun _ _ _ _ _ => by kernel_rfl
  have i1 : ∀ (a b c d : Value) w, (Instr.index 217 (.agg #[a, b, c, d]) (.int .i64 1)).run Tryz.prog w = .ok b w := fun _ _ _ _ _ => by kernel_rfl
  have i2 : ∀ (a b c d : Value) w, (Instr.index 217 (.agg #[a, b, c, d]) (.int .i64 2)).run Tryz.prog w = .ok c w := fun _ _ _ _ _ => by kernel_rfl
  have i3 : ∀ (a b c d : Value) w, (Instr.index 217 (.agg #[a, b, c, d]) (.int .i64 3)).run Tryz.prog w = .ok d w := fun _ _ _ _ _ => by kernel_rfl
  go_enter Tryz.func134, Tryz.ntmps134
  go_wp2_with fail
  go_loopw [21] (fun j wr => ∃ k : Nat, j = jv k ∧ k ≤ 4 ∧ Blk wr (w.heap.size + 1) 171 #[.int .i64 0, .int .i64 0, .int .i64 0, .int .i64 0, .int .i64 0, .int .i64 0, .int .i64 0, .int .i64 0] ∧ Blk wr (w.heap.size + 1 + 1) 171 (ofCells p k) ∧ Below w.heap.size w wr) (fun j wr => 4 - (intOf j).toNat)
  case atStart =>
    exact ⟨0, rfl, by omega, (Blk.newAt (by simp)).alloc _, Blk.newAt (by simp), (((Below.refl w.heap.size w).alloc (Nat.le_refl _) _).alloc (by simp) _).alloc (by simp; omega) _⟩
  case round =>
    obtain ⟨k, rfl, hk, k2, k3, hb⟩ := hrel
    match k, hk with
    | 0, _ =>
      have k3n : Blk ((wr.setCell ⟨w.heap.size + 1 + 1, 0, none⟩ (.int .i64 p.x)).setCell ⟨w.heap.size + 1 + 1, 1, none⟩ (.int .i64 p.x)) (w.heap.size + 1 + 1) 171 (ofCells p (0 + 1)) := (k3.set_ 0 _).set_ 1 _
      have k2n := (k2.far (p := ⟨w.heap.size + 1 + 1, 0, none⟩) (by dsimp only; omega) (.int .i64 p.x)).far (p := ⟨w.heap.size + 1 + 1, 1, none⟩) (by dsimp only; omega) (.int .i64 p.x)
      have hbn := (hb.setCell (p := ⟨w.heap.size + 1 + 1, 0, none⟩) (by dsimp only; omega) (.int .i64 p.x)).setCell (p := ⟨w.heap.size + 1 + 1, 1, none⟩) (by dsimp only; omega) (.int .i64 p.x)
      simp only [ofCells] at k3
      simp only [jv]
      obtain ⟨c3, f3, l3⟩ := k3.rules
      go_wp2_with fail
      go_roundw
      case rel => exact ⟨0 + 1, rfl, by omega, k2n, k3n, hbn⟩
      case measure => simp [intOf]
    | 1, _ =>
      have k3n : Blk ((wr.setCell ⟨w.heap.size + 1 + 1, 2, none⟩ (.int .i64 p.y)).setCell ⟨w.heap.size + 1 + 1, 3, none⟩ (.int .i64 p.y)) (w.heap.size + 1 + 1) 171 (ofCells p (1 + 1)) := (k3.set_ 2 _).set_ 3 _
      have k2n := (k2.far (p := ⟨w.heap.size + 1 + 1, 2, none⟩) (by dsimp only; omega) (.int .i64 p.y)).far (p := ⟨w.heap.size + 1 + 1, 3, none⟩) (by dsimp only; omega) (.int .i64 p.y)
      have hbn := (hb.setCell (p := ⟨w.heap.size + 1 + 1, 2, none⟩) (by dsimp only; omega) (.int .i64 p.y)).setCell (p := ⟨w.heap.size + 1 + 1, 3, none⟩) (by dsimp only; omega) (.int .i64 p.y)
      simp only [ofCells] at k3
      simp only [jv]
      obtain ⟨c3, f3, l3⟩ := k3.rules
      go_wp2_with fail
      go_roundw
      case rel => exact ⟨1 + 1, rfl, by omega, k2n, k3n, hbn⟩
      case measure => simp [intOf]
    | 2, _ =>
      have k3n : Blk ((wr.setCell ⟨w.heap.size + 1 + 1, 4, none⟩ (.int .i64 (p.x + p.y))).setCell ⟨w.heap.size + 1 + 1, 5, none⟩ (.int .i64 (p.x + p.y))) (w.heap.size + 1 + 1) 171 (ofCells p (2 + 1)) := (k3.set_ 4 _).set_ 5 _
      have k2n := (k2.far (p := ⟨w.heap.size + 1 + 1, 4, none⟩) (by dsimp only; omega) (.int .i64 (p.x + p.y))).far (p := ⟨w.heap.size + 1 + 1, 5, none⟩) (by dsimp only; omega) (.int .i64 (p.x + p.y))
      have hbn := (hb.setCell (p := ⟨w.heap.size + 1 + 1, 4, none⟩) (by dsimp only; omega) (.int .i64 (p.x + p.y))).setCell (p := ⟨w.heap.size + 1 + 1, 5, none⟩) (by dsimp only; omega) (.int .i64 (p.x + p.y))
      simp only [ofCells] at k3
      simp only [jv]
      obtain ⟨c3, f3, l3⟩ := k3.rules
      go_wp2_with fail
      go_roundw
      case rel => exact ⟨2 + 1, rfl, by omega, k2n, k3n, hbn⟩
      case measure => simp [intOf]
    | 3, _ =>
      have k3n : Blk ((wr.setCell ⟨w.heap.size + 1 + 1, 6, none⟩ (.int .i64 (p.x - p.y))).setCell ⟨w.heap.size + 1 + 1, 7, none⟩ (.int .i64 (p.x - p.y))) (w.heap.size + 1 + 1) 171 (ofCells p (3 + 1)) := (k3.set_ 6 _).set_ 7 _
      have k2n := (k2.far (p := ⟨w.heap.size + 1 + 1, 6, none⟩) (by dsimp only; omega) (.int .i64 (p.x - p.y))).far (p := ⟨w.heap.size + 1 + 1, 7, none⟩) (by dsimp only; omega) (.int .i64 (p.x - p.y))
      have hbn := (hb.setCell (p := ⟨w.heap.size + 1 + 1, 6, none⟩) (by dsimp only; omega) (.int .i64 (p.x - p.y))).setCell (p := ⟨w.heap.size + 1 + 1, 7, none⟩) (by dsimp only; omega) (.int .i64 (p.x - p.y))
      simp only [ofCells] at k3
      simp only [jv]
      obtain ⟨c3, f3, l3⟩ := k3.rules
      go_wp2_with fail
      go_roundw
      case rel => exact ⟨3 + 1, rfl, by omega, k2n, k3n, hbn⟩
      case measure => simp [intOf]
    | 4, _ =>
      simp only [ofCells] at k3
      simp only [jv]
      obtain ⟨c3, f3, l3⟩ := k3.rules
      obtain ⟨c2, f2, l2⟩ := k2.rules
      have kz := k2.set8 (.int .i64 p.x) (.int .i64 p.x) (.int .i64 p.y) (.int .i64 p.y) (.int .i64 (p.x + p.y)) (.int .i64 (p.x + p.y)) (.int .i64 (p.x - p.y)) (.int .i64 (p.x - p.y))
      have bz := below_set8 (g := w.heap.size + 1) hb (by omega) (.int .i64 p.x) (.int .i64 p.x) (.int .i64 p.y) (.int .i64 p.y) (.int .i64 (p.x + p.y)) (.int .i64 (p.x + p.y)) (.int .i64 (p.x - p.y)) (.int .i64 (p.x - p.y))
      obtain ⟨wz, hwz⟩ : ∃ x, x = set8 wr (w.heap.size + 1) (.int .i64 p.x) (.int .i64 p.x) (.int .i64 p.y) (.int .i64 p.y) (.int .i64 (p.x + p.y)) (.int .i64 (p.x + p.y)) (.int .i64 (p.x - p.y)) (.int .i64 (p.x - p.y)) := ⟨_, rfl⟩
      rw [← hwz] at kz bz
      simp only [set8] at hwz
      go_wp2
      rw [← hwz]
      clear hwz c2 f2 l2
      obtain ⟨c2, f2, l2⟩ := kz.rules
      exact bodyPost_ret (v := .agg #[.int .i64 p.x, .int .i64 p.x, .int .i64 p.y, .int .i64 p.y, .int .i64 (p.x + p.y), .int .i64 (p.x + p.y), .int .i64 (p.x - p.y), .int .i64 (p.x - p.y)]) (by simp [results, Tryz.results134, go_sem, c2]) rfl ⟨rfl, bz⟩
end Go.Proofs.YtjiaepphnddpoaaGreat
