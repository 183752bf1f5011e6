/-
  The specification's package: a step of offsets, its loop.
-/
import Derived.Test.YthjdjpcomocffaaGreatR1
namespace Go.Proofs.YthjdjpcomocffaaGreat
open Go.RowKit Go.Shelf

def stepTo (s : Strm) (o d : List Int) (k : Nat) : List Int := (List.range k).map fun i => eased s (s.sec i) (o.getD i s.head) (prev s.head o i) (d.getD i 0)
theorem stepTo_succ (s : Strm) (o d : List Int) (k : Nat) : stepTo s o d (k + 1) = stepTo s o d k ++ [eased s (s.sec k) (o.getD k s.head) (prev s.head o k) (d.getD k 0)] := by
  unfold stepTo; rw [List.range_succ, List.map_append]; rfl
theorem stepTo_all (s : Strm) (o d : List Int) : stepTo s o d o.length = stepL s o d := rfl
end Go.Proofs.YthjdjpcomocffaaGreat
