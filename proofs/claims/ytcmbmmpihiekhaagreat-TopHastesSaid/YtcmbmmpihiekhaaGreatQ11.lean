/-
  The chapter's own array, firing and rules: what is said of them.
-/
import Derived.Test.YtcmbmmpihiekhaaGreatQ1
set_option maxRecDepth 100000
set_option maxHeartbeats 16000000
set_option linter.unusedSimpArgs false
set_option linter.unusedVariables false
namespace Go.Proofs.YtcmbmmpihiekhaaGreat
open Go.RowKit
def fir0 : Fir := ⟨10, 5, 2, 4, 4⟩
def rul0 : Rul := ⟨3, 5, 3, 6⟩
theorem fire0 : fireR fir0 [0, 8, 12, 14, 20, 27] = ([⟨2, 0, false⟩, ⟨4, 1, false⟩, ⟨4, 0, true⟩, ⟨5, 1, true⟩], 0) := by decide +kernel
theorem allow0 : allowR rul0 [0, 1, 1] 4 = (1, 0) := by decide +kernel
end Go.Proofs.YtcmbmmpihiekhaaGreat
