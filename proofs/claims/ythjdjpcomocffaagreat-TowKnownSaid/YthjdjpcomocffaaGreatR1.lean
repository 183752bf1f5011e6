/-
  The specification's package: numbers, Check.
  The specification's package: a step of offsets.
-/
import Derived.Test.YthjdjpcomocffaaGreatW3
import Derived.Test.YthjdjpcomocffaaGreatN1
import Derived.Test.YthjdjpcomocffaaGreatBase
import Derived.Test.YthjdjpcomocffaaGreatW5
import Derived.Deep.AppendLies
namespace Go.Proofs.YthjdjpcomocffaaGreat
set_option linter.unusedSimpArgs false
set_option linter.unusedVariables false
open Go.RowKit Go.Shelf

theorem allTo_succ {l : List Sec} {k : Nat} {x : Sec} (hk : l[k]? = some x) : (l.take (k + 1)).all okSec = ((l.take k).all okSec && okSec x) := by
  rw [List.take_add_one, hk]; simp
theorem chk_of {s : Strm} (h : headOk s) : chkStrm s = if s.secs.all okSec = true then 0 else 30 := by simp [chkStrm, okStrm, h]
end Go.Proofs.YthjdjpcomocffaaGreat
namespace Go.Proofs.YthjdjpcomocffaaGreat
open Go.RowKit Go.Shelf

end Go.Proofs.YthjdjpcomocffaaGreat
