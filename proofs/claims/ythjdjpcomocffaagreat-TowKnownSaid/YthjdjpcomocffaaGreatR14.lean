/-
  Walks: what the chapter says of tight regions.
-/
import Derived.Test.YthjdjpcomocffaaGreatR13
namespace Go.Proofs.YthjdjpcomocffaaGreat
open Go.RowKit Go.Shelf
set_option linter.unusedSimpArgs false
set_option linter.unusedVariables false

theorem okHdg_iff1 {h : Hdg} : okHdg h = true ↔ 1 ≤ h.c ∧ h.c ≤ 1000 ∧ -h.c ≤ h.p ∧ h.p ≤ h.c ∧ -h.c ≤ h.q ∧ h.q ≤ h.c ∧ h.p * h.p + h.q * h.q = h.c * h.c := by unfold okHdg; rw [decide_eq_true_eq]
theorem addP_twice (o : Option Reg) (p : Pnt) : addP (addP o p) p = addP o p := by
  cases o with
  | none =>
    simp only [addP, Option.some.injEq, zipR, spanB, ofP, still, Reg.mk.injEq, Bnd.mk.injEq]
    omega
  | some h =>
    simp only [addP, Option.some.injEq, zipR, spanB, ofP, still, Reg.mk.injEq, Bnd.mk.injEq]
    omega
theorem addP_row (o : Option Reg) (q : RRow) : addP (addP o ⟨q.x, q.fr⟩) ⟨q.x, q.to⟩ = (rowPts q).foldl addP o := by
  unfold rowPts
  split
  · rename_i h
    rw [← h]
    exact addP_twice o _
  · rfl
def fullTo (r : Reg) (o : Option Reg) (j : Nat) : Option Reg := ((rowsTo r j).flatMap rowPts).foldl addP o
theorem fullTo_succ (r : Reg) (o : Option Reg) (j : Nat) : fullTo r o (j + 1) = if (rowB r (r.x.lo + j)).fr ≤ (rowB r (r.x.lo + j)).to then addP (addP (fullTo r o j) ⟨r.x.lo + j, (rowB r (r.x.lo + j)).fr⟩) ⟨r.x.lo + j, (rowB r (r.x.lo + j)).to⟩ else fullTo r o j := by
  unfold fullTo
  rw [rowsTo_succ, List.flatMap_append, List.foldl_append]
  split
  · rw [List.flatMap_singleton, ← addP_row]
    rfl
  · rfl
end Go.Proofs.YthjdjpcomocffaaGreat
