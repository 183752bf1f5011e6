/-
  Walks: the specification's Gap.
-/
import Derived.Test.YthjdjpcomocffaaGreatG12
import Derived.Test.YthjdjpcomocffaaGreatR16
import Derived.Test.YthjdjpcomocffaaGreatOrd
namespace Go.Proofs.YthjdjpcomocffaaGreat
open Go.RowKit Go.Shelf
set_option linter.unusedSimpArgs false
set_option linter.unusedVariables false

/-- What is said of all rows at once: the least of the least, the greatest of the greatest. -/
def addQ : Option Bnd → RRow → Option Bnd
  | none, q => some (sqB q)
  | some b, q => some ⟨min b.lo (sqB q).lo, max b.hi (sqB q).hi⟩
def lenTo (r : Reg) (j : Nat) : Option Bnd := (rowsTo r j).foldl addQ none
theorem lenTo_succ (r : Reg) (j : Nat) : lenTo r (j + 1) = if (rowB r (r.x.lo + j)).fr ≤ (rowB r (r.x.lo + j)).to then addQ (lenTo r j) (rowB r (r.x.lo + j)) else lenTo r j := by
  unfold lenTo
  rw [rowsTo_succ, List.foldl_append]
  split <;> rfl
theorem pick_fold : ∀ (L : List RRow) (a c d : Option Bnd), (a = none ∧ c = none ∧ d = none ∨ ∃ x y z, a = some x ∧ c = some y ∧ d = some z ∧ x.lo = y.lo ∧ x.hi = z.hi) →
    (L.foldl addQ a = none ∧ (L.map sqB).foldl (pickO ltLo) c = none ∧ (L.map sqB).foldl (pickO gtHi) d = none ∨ ∃ x y z, L.foldl addQ a = some x ∧ (L.map sqB).foldl (pickO ltLo) c = some y ∧ (L.map sqB).foldl (pickO gtHi) d = some z ∧ x.lo = y.lo ∧ x.hi = z.hi)
  | [], a, c, d, h => h
  | q :: L, a, c, d, h => by
    simp only [List.foldl_cons, List.map_cons]
    refine pick_fold L _ _ _ (.inr ?_)
    rcases h with ⟨rfl, rfl, rfl⟩ | ⟨x, y, z, rfl, rfl, rfl, h1, h2⟩
    · exact ⟨_, _, _, rfl, rfl, rfl, rfl, rfl⟩
    · simp only [addQ, pickO, ltLo, gtHi, decide_eq_true_eq]
      by_cases h3 : (sqB q).lo < y.lo
      · rw [if_pos h3]
        by_cases h4 : z.hi < (sqB q).hi
        · rw [if_pos h4]; exact ⟨_, _, _, rfl, rfl, rfl, by dsimp only; omega, by dsimp only; omega⟩
        · rw [if_neg h4]; exact ⟨_, _, _, rfl, rfl, rfl, by dsimp only; omega, by dsimp only; omega⟩
      · rw [if_neg h3]
        by_cases h4 : z.hi < (sqB q).hi
        · rw [if_pos h4]; exact ⟨_, _, _, rfl, rfl, rfl, by dsimp only; omega, by dsimp only; omega⟩
        · rw [if_neg h4]; exact ⟨_, _, _, rfl, rfl, rfl, by dsimp only; omega, by dsimp only; omega⟩
theorem lenTo_all (r : Reg) : optB (lenTo r (nX r)) = sqsS r := by
  have h := pick_fold (rowsL r) none none none (.inl ⟨rfl, rfl, rfl⟩)
  unfold sqsS pckAll sqL lenTo
  rw [show rowsTo r (nX r) = rowsL r from rfl]
  rcases h with ⟨a, b, c⟩ | ⟨x, y, z, a, b, c, h1, h2⟩
  · (simp only [a, b, c]) <;> rfl
  · simp only [a, b, c, optB, Option.getD_some]
    exact bnd_ext h1 h2
end Go.Proofs.YthjdjpcomocffaaGreat
