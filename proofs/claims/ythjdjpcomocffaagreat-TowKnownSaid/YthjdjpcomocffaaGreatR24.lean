/-
  Walks: the specification's spread, approach, Approach.
-/
import Derived.Test.YthjdjpcomocffaaGreatG14
import Derived.Test.YthjdjpcomocffaaGreatR18
import Derived.Test.YthjdjpcomocffaaGreatR23
namespace Go.Proofs.YthjdjpcomocffaaGreat
open Go.RowKit Go.Shelf
set_option linter.unusedSimpArgs false
set_option linter.unusedVariables false

end Go.Proofs.YthjdjpcomocffaaGreat
