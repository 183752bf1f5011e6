/-
  Walks: what the chapter says of headings and of turned regions.
  Walks: what the chapter says of tight regions.
  Walks: what the chapter says of turned regions.
  Walks: the specification's root, whole plane, places.
  Walks: the specification's Move.
-/
import Derived.Test.YtfengddpfeneiaaGreatVM
namespace Go.Proofs.YtfengddpfeneiaaGreat
open Go.RowKit Go.Shelf
set_option linter.unusedSimpArgs false
set_option linter.unusedVariables false

set_option maxHeartbeats 400000 in
theorem Up_any (a b : Int) (w : World) (h1 : -1000000000000 ≤ a) (h2 : a ≤ 1000000000000) (h3 : 1 ≤ b) (h4 : b ≤ 1000000) :
    Calls Tryz.prog 14 #[.int .i64 a, .int .i64 b] w fun e w' => e = .returned (.int .i64 (ceilS a b)) ∧ w = w' := by
  have hfl := fun W => Down_any (-a) b W (by omega) (by omega) h3 h4
  have e : Hid (ceilS a b = -((-a) / b)) := rfl
  have hb : -2000000000000 ≤ (-a) / b ∧ (-a) / b ≤ 2000000000000 := by
    have e1 := Int.mul_ediv_add_emod (-a) b
    have e2 := Int.emod_nonneg (-a) (b := b) (by omega)
    have e3 := Int.emod_lt_of_pos (-a) (b := b) (by omega)
    rcases Int.le_total 0 ((-a) / b) with h | h
    · have := Int.mul_le_mul_of_nonneg_right h3 h
      omega
    · have := Int.mul_le_mul_of_nonpos_right h3 h
      omega
  generalize (-a) / b = d at *
  have u1 := IntWalk.i64_in (-a) (by omega)
  have u2 := IntWalk.i64_in (-d) (by omega)
  go_enter Tryz.func14, Tryz.ntmps14
  go_wp2_with fail
  refine (hfl _).mono ?_
  rintro e w' ⟨rfl, rfl⟩
  go_wp2
  go_ret
  exact ⟨ret_int (by rw [‹Hid (ceilS a b = _)›.out]), rfl⟩
/-! The hull of places. -/
structure Apart (g : Nat) (w w' : World) : Prop where
  low : Below g w w'
  far : ∀ b, g < b → b < w.heap.size → w'.heap[b]? = w.heap[b]?
theorem Apart.refl (g : Nat) (w : World) : Apart g w w := ⟨Below.refl _ _, fun _ _ _ => rfl⟩
theorem Apart.trans {g : Nat} {w w1 w2 : World} (h1 : Apart g w w1) (h2 : Apart g w1 w2) : Apart g w w2 :=
  ⟨h1.low.trans h2.low, fun b hb hl => (h2.far b hb (Nat.lt_of_lt_of_le hl h1.low.size)).trans (h1.far b hb hl)⟩
theorem Apart.of {g : Nat} {w w' : World} (h : Below w.heap.size w w') (hg : g ≤ w.heap.size) : Apart g w w' :=
  ⟨h.mono hg, fun b _ hl => h.block b hl⟩
theorem Apart.set {g : Nat} {w w' : World} (h : Apart g w w') (i : Nat) (u : Value) : Apart g w (w'.setCell ⟨g, i, none⟩ u) :=
  ⟨h.low.setCell (p := ⟨g, i, none⟩) (Nat.le_refl g) u, fun b hb hl => (Below.heap_setCell w' ⟨g, i, none⟩ u b (by dsimp only; omega)).trans (h.far b hb hl)⟩
theorem Apart.set8 {g : Nat} {w w' : World} (h : Apart g w w') (v0 v1 v2 v3 v4 v5 v6 v7 : Value) : Apart g w (set8 w' g v0 v1 v2 v3 v4 v5 v6 v7) :=
  (((((((h.set 0 v0).set 1 v1).set 2 v2).set 3 v3).set 4 v4).set 5 v5).set 6 v6).set 7 v7
def hullA (o : Option Reg) : Array Value := #[.int .i64 (optR o).x.lo, .int .i64 (optR o).x.hi, .int .i64 (optR o).y.lo, .int .i64 (optR o).y.hi, .int .i64 (optR o).s.lo, .int .i64 (optR o).s.hi, .int .i64 (optR o).d.lo, .int .i64 (optR o).d.hi, .bool o.isSome]
end Go.Proofs.YtfengddpfeneiaaGreat
namespace Go.Proofs.YtfengddpfeneiaaGreat
open Go.RowKit Go.Shelf
set_option linter.unusedSimpArgs false
set_option linter.unusedVariables false

def fullTo (r : Reg) (o : Option Reg) (j : Nat) : Option Reg := ((rowsTo r j).flatMap rowPts).foldl addP o
end Go.Proofs.YtfengddpfeneiaaGreat
namespace Go.Proofs.YtfengddpfeneiaaGreat
open Go.RowKit Go.Shelf
set_option linter.unusedSimpArgs false
set_option linter.unusedVariables false

def addN : Option Bnd → Int → Option Bnd
  | none, n => some ⟨n, n⟩
  | some b, n => some ⟨min b.lo n, max b.hi n⟩
def inn (o : Option Bnd) (a b : Int) : Nat → Option Bnd
  | 0 => o
  | 1 => addN o a
  | _ => addN (addN o a) b
end Go.Proofs.YtfengddpfeneiaaGreat
namespace Go.Proofs.YtfengddpfeneiaaGreat
open Go.RowKit Go.Shelf
set_option linter.unusedSimpArgs false
set_option linter.unusedVariables false

end Go.Proofs.YtfengddpfeneiaaGreat
namespace Go.Proofs.YtfengddpfeneiaaGreat
open Go.RowKit Go.Shelf
set_option linter.unusedSimpArgs false
set_option linter.unusedVariables false

end Go.Proofs.YtfengddpfeneiaaGreat
