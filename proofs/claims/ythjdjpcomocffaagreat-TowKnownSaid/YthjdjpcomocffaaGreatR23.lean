/-
  Walks: the specification's opposite, tights, Gap.
-/
import Derived.Test.YthjdjpcomocffaaGreatR22
namespace Go.Proofs.YthjdjpcomocffaaGreat
open Go.RowKit Go.Shelf
set_option linter.unusedSimpArgs false
set_option linter.unusedVariables false

end Go.Proofs.YthjdjpcomocffaaGreat
