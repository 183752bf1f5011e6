/-
  Walks: the specification's root, whole plane, places.
  Walks: the specification's Move.
-/
import Derived.Test.YthjdjpcomocffaaGreatM7
import Derived.Test.YthjdjpcomocffaaGreatR14
namespace Go.Proofs.YthjdjpcomocffaaGreat
open Go.RowKit Go.Shelf
set_option linter.unusedSimpArgs false
set_option linter.unusedVariables false

theorem rootS_of {n r : Int} (h0 : 0 ≤ r) (h1 : r * r ≤ n) (h2 : n < (r + 1) * (r + 1)) : rootS n = r := by
  have hn : 0 ≤ n := by have := Int.mul_nonneg h0 h0; omega
  obtain ⟨a1, a2⟩ := rootS_bd hn
  have a3 := rootS_up hn
  have b1 := lt_of_sq (a := rootS n) (b := r + 1) (by omega) (by omega)
  have b2 := lt_of_sq (a := r) (b := rootS n + 1) (by omega) (by omega)
  omega
theorem addP_one (p : Pnt) : addP none p = some (ofP p) := by
  simp [addP, zipR, spanB, ofP, still]
end Go.Proofs.YthjdjpcomocffaaGreat
namespace Go.Proofs.YthjdjpcomocffaaGreat
open Go.RowKit Go.Shelf
set_option linter.unusedSimpArgs false
set_option linter.unusedVariables false

theorem okReg_ofP {p : Pnt} (h : okPnt p = true) : okReg (ofP p) = true := by
  have h := of_decide_eq_true h
  rw [okReg_iff]
  unfold ofP still
  dsimp only
  omega
end Go.Proofs.YthjdjpcomocffaaGreat
