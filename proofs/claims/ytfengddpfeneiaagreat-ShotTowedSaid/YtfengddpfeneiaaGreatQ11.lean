/-
  The chapter's own array, firing and rules: what is said of them.
-/
import Derived.Test.YtfengddpfeneiaaGreatQ1
namespace Go.Proofs.YtfengddpfeneiaaGreat
open Go.RowKit
def gunsA : Arr := ⟨[4, -2], [⟨3, 0, ⟨0, 1⟩⟩, ⟨1, 2, ⟨0, 0⟩⟩]⟩
def fir0 : Fir := ⟨10, 5, 2, 4, 4⟩
def rul0 : Rul := ⟨3, 5, 3, 6⟩
def field0 : List Bnd := [⟨0, 4⟩, ⟨5, 12⟩, ⟨10, 13⟩, ⟨12, 18⟩, ⟨16, 26⟩]
theorem sig0 : (sigR gunsA [1, 0]).2 = 0 ∧ (sigR gunsA [1, 0]).1.length = 50 ∧ ((sigR gunsA [1, 0]).1.drop 16).take 5 = [0, 12, -2, -2, 0] := by decide +kernel
theorem enc0 : (encAR gunsA).2 = 0 ∧ (encAR gunsA).1.length = 50 ∧ ((encAR gunsA).1.drop 16).take 4 = [⟨0, 12⟩, ⟨-6, 12⟩, ⟨-2, 4⟩, ⟨-2, -2⟩] := by decide +kernel
theorem worst0 : worstR gunsA = ([1, 0], 36, 0) := by decide +kernel
theorem loss0 : lossR gunsA 5 1 = ([[0], [1]], 0) := by decide +kernel
theorem fire0 : fireR fir0 [0, 8, 12, 14, 20, 27] = ([⟨2, 0, false⟩, ⟨4, 1, false⟩, ⟨4, 0, true⟩, ⟨5, 1, true⟩], 0) := by decide +kernel
theorem time0 : timeR fir0 field0 = ([⟨1, 2⟩, ⟨3, 4⟩, ⟨4, -1⟩, ⟨4, -1⟩], 0) := by decide +kernel
theorem weak0 : weakR fir0 field0 = ([false, false, false, false], [false, false, true, true], 0) := by decide +kernel
theorem judge0 : judgeR rul0 [0, 1, 1, 0, 1] = (4, 2, 0) := by decide +kernel
theorem fore0 : foreR rul0 [1, 2, 0, 1, 2] = (⟨3, 5⟩, 0) := by decide +kernel
theorem allow0 : allowR rul0 [0, 1, 1] 4 = (1, 0) := by decide +kernel
theorem rep0 : (repR rul0 [1, 1, 1, 1, 0, 1]).2 = 0 ∧ (repR rul0 [1, 1, 1, 1, 0, 1]).1.length = 2 := by decide +kernel
theorem bound0 : boundR rul0 [1, 1, 1, 1, 0, 1] [⟨2, 0⟩] = (2, 0) := by decide +kernel
theorem pace0 : paceR fir0 = (2, 0) := by decide +kernel
def sA : List Int := (sigR gunsA [1, 0]).1
def eA : List Bnd := (encAR gunsA).1
def rA : List Int := (repR rul0 [1, 1, 1, 1, 0, 1]).1
theorem sig1 : sigR gunsA [1, 0] = (sA, 0) := Prod.ext rfl sig0.1
theorem enc1 : encAR gunsA = (eA, 0) := Prod.ext rfl enc0.1
theorem rep1 : repR rul0 [1, 1, 1, 1, 0, 1] = (rA, 0) := Prod.ext rfl rep0.1
theorem sA_len : sA.length = 50 := sig0.2.1
theorem eA_len : eA.length = 50 := enc0.2.1
theorem rA_len : rA.length = 2 := rep0.2
theorem sA_sub : (sA.drop 16).take 5 = [0, 12, -2, -2, 0] := sig0.2.2
theorem eA_sub : (eA.drop 16).take 4 = [⟨0, 12⟩, ⟨-6, 12⟩, ⟨-2, 4⟩, ⟨-2, -2⟩] := enc0.2.2
end Go.Proofs.YtfengddpfeneiaaGreat
