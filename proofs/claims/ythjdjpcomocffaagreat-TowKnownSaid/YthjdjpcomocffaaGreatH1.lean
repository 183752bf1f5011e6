/-
  Small helpers of the statements: a number out of a list, numbers within bounds.
-/
import Derived.Test.YthjdjpcomocffaaGreatR5
namespace Go.Proofs.YthjdjpcomocffaaGreat
open Go.RowKit Go.Shelf
set_option linter.unusedSimpArgs false
set_option linter.unusedVariables false

/-! Numbers within bounds, as others choose them. -/
def insB (bits : List Int) (fr : Int) (i : Nat) (b : Bnd) : Int := wrap64 (b.lo + restS (pickS bits (fr + i)) (wrap64 (wrap64 (b.hi - b.lo) + 1)))
def insTo (l : List Bnd) (bits : List Int) (fr : Int) (k : Nat) : List Int := (List.range k).map fun i => insB bits fr i (l.getD i ⟨0, 0⟩)
def insL (l : List Bnd) (bits : List Int) (fr : Int) : List Int := insTo l bits fr l.length
theorem insTo_succ {l : List Bnd} {bits : List Int} {fr : Int} {k : Nat} {x : Bnd} (h : l[k]? = some x) : insTo l bits fr (k + 1) = insTo l bits fr k ++ [insB bits fr k x] := by
  unfold insTo; rw [List.range_succ, List.map_append, List.map_singleton, List.getD_eq_getElem?_getD, h]; rfl
end Go.Proofs.YthjdjpcomocffaaGreat
