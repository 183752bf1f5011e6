/-
  Walks: what the chapter says of turned regions.
-/
import Derived.Test.YthjdjpcomocffaaGreatR14
import Derived.Test.YthjdjpcomocffaaGreatN4
namespace Go.Proofs.YthjdjpcomocffaaGreat
open Go.RowKit Go.Shelf
set_option linter.unusedSimpArgs false
set_option linter.unusedVariables false

def addN : Option Bnd → Int → Option Bnd
  | none, n => some ⟨n, n⟩
  | some b, n => some ⟨min b.lo n, max b.hi n⟩
theorem addE_two (o : Option Bnd) (a b : Int) : addE o (a, b) = addN (addN o a) b := by
  cases o with
  | none => simp only [addE, addN, Option.some.injEq, Bnd.mk.injEq]; omega
  | some h => simp only [addE, addN, Option.some.injEq, Bnd.mk.injEq]; omega
theorem addN_some (o : Option Bnd) (n : Int) : ∃ b, addN o n = some b := by cases o <;> exact ⟨_, rfl⟩
def inn (o : Option Bnd) (a b : Int) : Nat → Option Bnd
  | 0 => o
  | 1 => addN o a
  | _ => addN (addN o a) b
end Go.Proofs.YthjdjpcomocffaaGreat
