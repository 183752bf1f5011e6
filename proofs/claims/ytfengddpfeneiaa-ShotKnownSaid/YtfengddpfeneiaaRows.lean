/-
  No cell of these rows narrows 'for every input' (looked for: loops, veiled, ifaces, maps, wideKeys, modest, calm, conditions, laid).
  DERIVED. THE GIVEN ROWS OF THIS SEAT. 18 by the template 'for every input the law returns true; each argument reads behind the call as it read before'; 0 by the template 'total and deterministic' (their statements: YtfengddpfeneiaaTotals.lean).
  GIVEN WITH THE SEED: the statements are not yours to turn. If you find one false, say at which input.
  Laid BY PROGRAM, IN A SANDBOX (cutbox-rows.mjs): the forced cells as the released guide's own fill.sh prints them over the translation 6d8c2207f70c809f… (all of the seat's roots in one cut). By AI agents, Wed Nov 11 2026. No macro, syntax, notation, axiom, sorry.
-/
import Derived.Test.YtfengddpfeneiaaChecked
import GoSem.Claim
import GoSem.ClaimJoined
import GoSem.ClaimMapViews
import Derived.JoinedTies
import Derived.KernelRfl
namespace Go.Proofs.Ytfengddpfeneiaa
/- THE CELL 'sum', in the pinned program and in every row, IS THE sha256 OF THE DUMP (.gsa) THAT YtfengddpfeneiaaProg.lean LOADS. Nothing in Lean hashes anything: it is a label: what it is worth is what the hold of that sum in a sandbox is worth. -/
noncomputable def Try.pinned : Pinned := { name := "ytfengddpfeneiaa", sum := "6d8c2207f70c809f20023e590518ec252359adb80c6707dc708ada7b708cb1b2", checked := Try.checked }
namespace Rows
def none {H : Type} : Left H := { results := [], args := [] }

/-- 'paravanelaw05.ShotWorst': WHATEVER THE INPUT: true; the input reads as it did. -/
def shotWorstSpec : ChangeSpec := { name := "shotWorst", fn := fun _ => fun
  | [d] => { results := [.lit (.bool true)], args := [d] }
  | _ => none }
def shotWorstRow : OpenClaim := { program := "ytfengddpfeneiaa", sum := "6d8c2207f70c809f20023e590518ec252359adb80c6707dc708ada7b708cb1b2", func := "paravane/paravanelaw05.ShotWorst", spec := "shotWorst", unfollowed := true, recurses := true, plainKeys := false, apart := false }
def ShotWorstSaid : Prop := shotWorstRow.holds Try.pinned (OpenSpec.ofChange shotWorstSpec)

/-- ITS FALSE NEIGHBOUR: 'it returns false'. Refute it at one input. -/
def shotWorstWrong : ChangeSpec := { name := "shotWorst", fn := fun _ => fun
  | [d] => { results := [.lit (.bool false)], args := [d] }
  | _ => none }
def ShotWorstWrongFalsely : Prop := shotWorstRow.holds Try.pinned (OpenSpec.ofChange shotWorstWrong)

/-- 'paravanelaw05.ShotLosses': WHATEVER THE INPUT: true; the input reads as it did. -/
def shotLossesSpec : ChangeSpec := { name := "shotLosses", fn := fun _ => fun
  | [d1, d2, d3] => { results := [.lit (.bool true)], args := [d1, d2, d3] }
  | _ => none }
def shotLossesRow : OpenClaim := { program := "ytfengddpfeneiaa", sum := "6d8c2207f70c809f20023e590518ec252359adb80c6707dc708ada7b708cb1b2", func := "paravane/paravanelaw05.ShotLosses", spec := "shotLosses", unfollowed := true, recurses := true, plainKeys := false, apart := false }
def ShotLossesSaid : Prop := shotLossesRow.holds Try.pinned (OpenSpec.ofChange shotLossesSpec)

/-- ITS FALSE NEIGHBOUR: 'it returns false'. Refute it at one input. -/
def shotLossesWrong : ChangeSpec := { name := "shotLosses", fn := fun _ => fun
  | [d1, d2, d3] => { results := [.lit (.bool false)], args := [d1, d2, d3] }
  | _ => none }
def ShotLossesWrongFalsely : Prop := shotLossesRow.holds Try.pinned (OpenSpec.ofChange shotLossesWrong)

/-- 'paravanelaw05.ShotFires': WHATEVER THE INPUT: true; the input reads as it did. -/
def shotFiresSpec : ChangeSpec := { name := "shotFires", fn := fun _ => fun
  | [d1, d2] => { results := [.lit (.bool true)], args := [d1, d2] }
  | _ => none }
def shotFiresRow : OpenClaim := { program := "ytfengddpfeneiaa", sum := "6d8c2207f70c809f20023e590518ec252359adb80c6707dc708ada7b708cb1b2", func := "paravane/paravanelaw05.ShotFires", spec := "shotFires", unfollowed := true, recurses := true, plainKeys := false, apart := false }
def ShotFiresSaid : Prop := shotFiresRow.holds Try.pinned (OpenSpec.ofChange shotFiresSpec)

/-- ITS FALSE NEIGHBOUR: 'it returns false'. Refute it at one input. -/
def shotFiresWrong : ChangeSpec := { name := "shotFires", fn := fun _ => fun
  | [d1, d2] => { results := [.lit (.bool false)], args := [d1, d2] }
  | _ => none }
def ShotFiresWrongFalsely : Prop := shotFiresRow.holds Try.pinned (OpenSpec.ofChange shotFiresWrong)

/-- 'paravanelaw05.ShotTimes': WHATEVER THE INPUT: true; the input reads as it did. -/
def shotTimesSpec : ChangeSpec := { name := "shotTimes", fn := fun _ => fun
  | [d1, d2] => { results := [.lit (.bool true)], args := [d1, d2] }
  | _ => none }
def shotTimesRow : OpenClaim := { program := "ytfengddpfeneiaa", sum := "6d8c2207f70c809f20023e590518ec252359adb80c6707dc708ada7b708cb1b2", func := "paravane/paravanelaw05.ShotTimes", spec := "shotTimes", unfollowed := true, recurses := true, plainKeys := false, apart := false }
def ShotTimesSaid : Prop := shotTimesRow.holds Try.pinned (OpenSpec.ofChange shotTimesSpec)

/-- ITS FALSE NEIGHBOUR: 'it returns false'. Refute it at one input. -/
def shotTimesWrong : ChangeSpec := { name := "shotTimes", fn := fun _ => fun
  | [d1, d2] => { results := [.lit (.bool false)], args := [d1, d2] }
  | _ => none }
def ShotTimesWrongFalsely : Prop := shotTimesRow.holds Try.pinned (OpenSpec.ofChange shotTimesWrong)

/-- 'paravanelaw05.ShotJudges': WHATEVER THE INPUT: true; the input reads as it did. -/
def shotJudgesSpec : ChangeSpec := { name := "shotJudges", fn := fun _ => fun
  | [d1, d2, d3] => { results := [.lit (.bool true)], args := [d1, d2, d3] }
  | _ => none }
def shotJudgesRow : OpenClaim := { program := "ytfengddpfeneiaa", sum := "6d8c2207f70c809f20023e590518ec252359adb80c6707dc708ada7b708cb1b2", func := "paravane/paravanelaw05.ShotJudges", spec := "shotJudges", unfollowed := true, recurses := true, plainKeys := false, apart := false }
def ShotJudgesSaid : Prop := shotJudgesRow.holds Try.pinned (OpenSpec.ofChange shotJudgesSpec)

/-- ITS FALSE NEIGHBOUR: 'it returns false'. Refute it at one input. -/
def shotJudgesWrong : ChangeSpec := { name := "shotJudges", fn := fun _ => fun
  | [d1, d2, d3] => { results := [.lit (.bool false)], args := [d1, d2, d3] }
  | _ => none }
def ShotJudgesWrongFalsely : Prop := shotJudgesRow.holds Try.pinned (OpenSpec.ofChange shotJudgesWrong)

/-- 'paravanelaw05.ShotBounds': WHATEVER THE INPUT: true; the input reads as it did. -/
def shotBoundsSpec : ChangeSpec := { name := "shotBounds", fn := fun _ => fun
  | [d1, d2, d3] => { results := [.lit (.bool true)], args := [d1, d2, d3] }
  | _ => none }
def shotBoundsRow : OpenClaim := { program := "ytfengddpfeneiaa", sum := "6d8c2207f70c809f20023e590518ec252359adb80c6707dc708ada7b708cb1b2", func := "paravane/paravanelaw05.ShotBounds", spec := "shotBounds", unfollowed := true, recurses := true, plainKeys := false, apart := false }
def ShotBoundsSaid : Prop := shotBoundsRow.holds Try.pinned (OpenSpec.ofChange shotBoundsSpec)

/-- ITS FALSE NEIGHBOUR: 'it returns false'. Refute it at one input. -/
def shotBoundsWrong : ChangeSpec := { name := "shotBounds", fn := fun _ => fun
  | [d1, d2, d3] => { results := [.lit (.bool false)], args := [d1, d2, d3] }
  | _ => none }
def ShotBoundsWrongFalsely : Prop := shotBoundsRow.holds Try.pinned (OpenSpec.ofChange shotBoundsWrong)

/-- 'paravanelaw05.ShotReached': WHATEVER THE INPUT: true; the input reads as it did. -/
def shotReachedSpec : ChangeSpec := { name := "shotReached", fn := fun _ => fun
  | [d1, d2] => { results := [.lit (.bool true)], args := [d1, d2] }
  | _ => none }
def shotReachedRow : OpenClaim := { program := "ytfengddpfeneiaa", sum := "6d8c2207f70c809f20023e590518ec252359adb80c6707dc708ada7b708cb1b2", func := "paravane/paravanelaw05.ShotReached", spec := "shotReached", unfollowed := true, recurses := true, plainKeys := false, apart := false }
def ShotReachedSaid : Prop := shotReachedRow.holds Try.pinned (OpenSpec.ofChange shotReachedSpec)

/-- ITS FALSE NEIGHBOUR: 'it returns false'. Refute it at one input. -/
def shotReachedWrong : ChangeSpec := { name := "shotReached", fn := fun _ => fun
  | [d1, d2] => { results := [.lit (.bool false)], args := [d1, d2] }
  | _ => none }
def ShotReachedWrongFalsely : Prop := shotReachedRow.holds Try.pinned (OpenSpec.ofChange shotReachedWrong)

/-- 'paravanelaw05.ShotLost': WHATEVER THE INPUT: true; the input reads as it did. -/
def shotLostSpec : ChangeSpec := { name := "shotLost", fn := fun _ => fun
  | [d1, d2, d3] => { results := [.lit (.bool true)], args := [d1, d2, d3] }
  | _ => none }
def shotLostRow : OpenClaim := { program := "ytfengddpfeneiaa", sum := "6d8c2207f70c809f20023e590518ec252359adb80c6707dc708ada7b708cb1b2", func := "paravane/paravanelaw05.ShotLost", spec := "shotLost", unfollowed := true, recurses := true, plainKeys := false, apart := false }
def ShotLostSaid : Prop := shotLostRow.holds Try.pinned (OpenSpec.ofChange shotLostSpec)

/-- ITS FALSE NEIGHBOUR: 'it returns false'. Refute it at one input. -/
def shotLostWrong : ChangeSpec := { name := "shotLost", fn := fun _ => fun
  | [d1, d2, d3] => { results := [.lit (.bool false)], args := [d1, d2, d3] }
  | _ => none }
def ShotLostWrongFalsely : Prop := shotLostRow.holds Try.pinned (OpenSpec.ofChange shotLostWrong)

/-- 'paravanelaw05.ShotTrue': WHATEVER THE INPUT: true; the input reads as it did. -/
def shotTrueSpec : ChangeSpec := { name := "shotTrue", fn := fun _ => fun
  | [d1, d2, d3] => { results := [.lit (.bool true)], args := [d1, d2, d3] }
  | _ => none }
def shotTrueRow : OpenClaim := { program := "ytfengddpfeneiaa", sum := "6d8c2207f70c809f20023e590518ec252359adb80c6707dc708ada7b708cb1b2", func := "paravane/paravanelaw05.ShotTrue", spec := "shotTrue", unfollowed := true, recurses := true, plainKeys := false, apart := false }
def ShotTrueSaid : Prop := shotTrueRow.holds Try.pinned (OpenSpec.ofChange shotTrueSpec)

/-- ITS FALSE NEIGHBOUR: 'it returns false'. Refute it at one input. -/
def shotTrueWrong : ChangeSpec := { name := "shotTrue", fn := fun _ => fun
  | [d1, d2, d3] => { results := [.lit (.bool false)], args := [d1, d2, d3] }
  | _ => none }
def ShotTrueWrongFalsely : Prop := shotTrueRow.holds Try.pinned (OpenSpec.ofChange shotTrueWrong)

/-- 'paravanelaw05.ShotNarrower': WHATEVER THE INPUT: true; the input reads as it did. -/
def shotNarrowerSpec : ChangeSpec := { name := "shotNarrower", fn := fun _ => fun
  | [d1, d2, d3] => { results := [.lit (.bool true)], args := [d1, d2, d3] }
  | _ => none }
def shotNarrowerRow : OpenClaim := { program := "ytfengddpfeneiaa", sum := "6d8c2207f70c809f20023e590518ec252359adb80c6707dc708ada7b708cb1b2", func := "paravane/paravanelaw05.ShotNarrower", spec := "shotNarrower", unfollowed := true, recurses := true, plainKeys := false, apart := false }
def ShotNarrowerSaid : Prop := shotNarrowerRow.holds Try.pinned (OpenSpec.ofChange shotNarrowerSpec)

/-- ITS FALSE NEIGHBOUR: 'it returns false'. Refute it at one input. -/
def shotNarrowerWrong : ChangeSpec := { name := "shotNarrower", fn := fun _ => fun
  | [d1, d2, d3] => { results := [.lit (.bool false)], args := [d1, d2, d3] }
  | _ => none }
def ShotNarrowerWrongFalsely : Prop := shotNarrowerRow.holds Try.pinned (OpenSpec.ofChange shotNarrowerWrong)

/-- 'paravanelaw05.ShotPaces': WHATEVER THE INPUT: true; the input reads as it did. -/
def shotPacesSpec : ChangeSpec := { name := "shotPaces", fn := fun _ => fun
  | [d] => { results := [.lit (.bool true)], args := [d] }
  | _ => none }
def shotPacesRow : OpenClaim := { program := "ytfengddpfeneiaa", sum := "6d8c2207f70c809f20023e590518ec252359adb80c6707dc708ada7b708cb1b2", func := "paravane/paravanelaw05.ShotPaces", spec := "shotPaces", unfollowed := true, recurses := true, plainKeys := false, apart := false }
def ShotPacesSaid : Prop := shotPacesRow.holds Try.pinned (OpenSpec.ofChange shotPacesSpec)

/-- ITS FALSE NEIGHBOUR: 'it returns false'. Refute it at one input. -/
def shotPacesWrong : ChangeSpec := { name := "shotPaces", fn := fun _ => fun
  | [d] => { results := [.lit (.bool false)], args := [d] }
  | _ => none }
def ShotPacesWrongFalsely : Prop := shotPacesRow.holds Try.pinned (OpenSpec.ofChange shotPacesWrong)

/-- 'paravanelaw05.ShotForeseen': WHATEVER THE INPUT: true; the input reads as it did. -/
def shotForeseenSpec : ChangeSpec := { name := "shotForeseen", fn := fun _ => fun
  | [d1, d2, d3] => { results := [.lit (.bool true)], args := [d1, d2, d3] }
  | _ => none }
def shotForeseenRow : OpenClaim := { program := "ytfengddpfeneiaa", sum := "6d8c2207f70c809f20023e590518ec252359adb80c6707dc708ada7b708cb1b2", func := "paravane/paravanelaw05.ShotForeseen", spec := "shotForeseen", unfollowed := true, recurses := true, plainKeys := false, apart := false }
def ShotForeseenSaid : Prop := shotForeseenRow.holds Try.pinned (OpenSpec.ofChange shotForeseenSpec)

/-- ITS FALSE NEIGHBOUR: 'it returns false'. Refute it at one input. -/
def shotForeseenWrong : ChangeSpec := { name := "shotForeseen", fn := fun _ => fun
  | [d1, d2, d3] => { results := [.lit (.bool false)], args := [d1, d2, d3] }
  | _ => none }
def ShotForeseenWrongFalsely : Prop := shotForeseenRow.holds Try.pinned (OpenSpec.ofChange shotForeseenWrong)

/-- 'paravanelaw05.ShotAllowed': WHATEVER THE INPUT: true; the input reads as it did. -/
def shotAllowedSpec : ChangeSpec := { name := "shotAllowed", fn := fun _ => fun
  | [d1, d2, d3] => { results := [.lit (.bool true)], args := [d1, d2, d3] }
  | _ => none }
def shotAllowedRow : OpenClaim := { program := "ytfengddpfeneiaa", sum := "6d8c2207f70c809f20023e590518ec252359adb80c6707dc708ada7b708cb1b2", func := "paravane/paravanelaw05.ShotAllowed", spec := "shotAllowed", unfollowed := true, recurses := true, plainKeys := false, apart := false }
def ShotAllowedSaid : Prop := shotAllowedRow.holds Try.pinned (OpenSpec.ofChange shotAllowedSpec)

/-- ITS FALSE NEIGHBOUR: 'it returns false'. Refute it at one input. -/
def shotAllowedWrong : ChangeSpec := { name := "shotAllowed", fn := fun _ => fun
  | [d1, d2, d3] => { results := [.lit (.bool false)], args := [d1, d2, d3] }
  | _ => none }
def ShotAllowedWrongFalsely : Prop := shotAllowedRow.holds Try.pinned (OpenSpec.ofChange shotAllowedWrong)

/-- 'paravanelaw05.ShotSigns': WHATEVER THE INPUT: true; the input reads as it did. -/
def shotSignsSpec : ChangeSpec := { name := "shotSigns", fn := fun _ => fun
  | [d1, d2] => { results := [.lit (.bool true)], args := [d1, d2] }
  | _ => none }
def shotSignsRow : OpenClaim := { program := "ytfengddpfeneiaa", sum := "6d8c2207f70c809f20023e590518ec252359adb80c6707dc708ada7b708cb1b2", func := "paravane/paravanelaw05.ShotSigns", spec := "shotSigns", unfollowed := true, recurses := true, plainKeys := false, apart := false }
def ShotSignsSaid : Prop := shotSignsRow.holds Try.pinned (OpenSpec.ofChange shotSignsSpec)

/-- ITS FALSE NEIGHBOUR: 'it returns false'. Refute it at one input. -/
def shotSignsWrong : ChangeSpec := { name := "shotSigns", fn := fun _ => fun
  | [d1, d2] => { results := [.lit (.bool false)], args := [d1, d2] }
  | _ => none }
def ShotSignsWrongFalsely : Prop := shotSignsRow.holds Try.pinned (OpenSpec.ofChange shotSignsWrong)

/-- 'paravanelaw05.ShotWithin': WHATEVER THE INPUT: true; the input reads as it did. -/
def shotWithinSpec : ChangeSpec := { name := "shotWithin", fn := fun _ => fun
  | [d1, d2] => { results := [.lit (.bool true)], args := [d1, d2] }
  | _ => none }
def shotWithinRow : OpenClaim := { program := "ytfengddpfeneiaa", sum := "6d8c2207f70c809f20023e590518ec252359adb80c6707dc708ada7b708cb1b2", func := "paravane/paravanelaw05.ShotWithin", spec := "shotWithin", unfollowed := true, recurses := true, plainKeys := false, apart := false }
def ShotWithinSaid : Prop := shotWithinRow.holds Try.pinned (OpenSpec.ofChange shotWithinSpec)

/-- ITS FALSE NEIGHBOUR: 'it returns false'. Refute it at one input. -/
def shotWithinWrong : ChangeSpec := { name := "shotWithin", fn := fun _ => fun
  | [d1, d2] => { results := [.lit (.bool false)], args := [d1, d2] }
  | _ => none }
def ShotWithinWrongFalsely : Prop := shotWithinRow.holds Try.pinned (OpenSpec.ofChange shotWithinWrong)

/-- 'paravanelaw05.ShotKnown': WHATEVER THE INPUT: true; the input reads as it did. -/
def shotKnownSpec : ChangeSpec := { name := "shotKnown", fn := fun _ => fun
  | [] => { results := [.lit (.bool true)], args := [] }
  | _ => none }
def shotKnownRow : OpenClaim := { program := "ytfengddpfeneiaa", sum := "6d8c2207f70c809f20023e590518ec252359adb80c6707dc708ada7b708cb1b2", func := "paravane/paravanelaw05.ShotKnown", spec := "shotKnown", unfollowed := true, recurses := true, plainKeys := false, apart := false }
def ShotKnownSaid : Prop := shotKnownRow.holds Try.pinned (OpenSpec.ofChange shotKnownSpec)

/-- ITS FALSE NEIGHBOUR: 'it returns false'. Refute it at one input. -/
def shotKnownWrong : ChangeSpec := { name := "shotKnown", fn := fun _ => fun
  | [] => { results := [.lit (.bool false)], args := [] }
  | _ => none }
def ShotKnownWrongFalsely : Prop := shotKnownRow.holds Try.pinned (OpenSpec.ofChange shotKnownWrong)

/-- 'paravanelaw05.ShotRepeats': WHATEVER THE INPUT: true; the input reads as it did. -/
def shotRepeatsSpec : ChangeSpec := { name := "shotRepeats", fn := fun _ => fun
  | [d1, d2] => { results := [.lit (.bool true)], args := [d1, d2] }
  | _ => none }
def shotRepeatsRow : OpenClaim := { program := "ytfengddpfeneiaa", sum := "6d8c2207f70c809f20023e590518ec252359adb80c6707dc708ada7b708cb1b2", func := "paravane/paravanelaw05.ShotRepeats", spec := "shotRepeats", unfollowed := true, recurses := true, plainKeys := false, apart := false }
def ShotRepeatsSaid : Prop := shotRepeatsRow.holds Try.pinned (OpenSpec.ofChange shotRepeatsSpec)

/-- ITS FALSE NEIGHBOUR: 'it returns false'. Refute it at one input. -/
def shotRepeatsWrong : ChangeSpec := { name := "shotRepeats", fn := fun _ => fun
  | [d1, d2] => { results := [.lit (.bool false)], args := [d1, d2] }
  | _ => none }
def ShotRepeatsWrongFalsely : Prop := shotRepeatsRow.holds Try.pinned (OpenSpec.ofChange shotRepeatsWrong)

/-- 'paravanelaw05.ShotFewest': WHATEVER THE INPUT: true; the input reads as it did. -/
def shotFewestSpec : ChangeSpec := { name := "shotFewest", fn := fun _ => fun
  | [d1, d2, d3] => { results := [.lit (.bool true)], args := [d1, d2, d3] }
  | _ => none }
def shotFewestRow : OpenClaim := { program := "ytfengddpfeneiaa", sum := "6d8c2207f70c809f20023e590518ec252359adb80c6707dc708ada7b708cb1b2", func := "paravane/paravanelaw05.ShotFewest", spec := "shotFewest", unfollowed := true, recurses := true, plainKeys := false, apart := false }
def ShotFewestSaid : Prop := shotFewestRow.holds Try.pinned (OpenSpec.ofChange shotFewestSpec)

/-- ITS FALSE NEIGHBOUR: 'it returns false'. Refute it at one input. -/
def shotFewestWrong : ChangeSpec := { name := "shotFewest", fn := fun _ => fun
  | [d1, d2, d3] => { results := [.lit (.bool false)], args := [d1, d2, d3] }
  | _ => none }
def ShotFewestWrongFalsely : Prop := shotFewestRow.holds Try.pinned (OpenSpec.ofChange shotFewestWrong)

/- THE SECOND FORM. 'bulk': how many values and letters a reading holds, each counted each time it is reached (what is shared counts as often as it is met; a slice's spare places count too). A statement '..UptoSaid' is the law's where the arguments, and the package variables that the reading takes, are together of bulk at most 1048576: NARROWER than '..Said'. Prove '..Said' where nothing that the law and all that it calls make is longer than what came in: it says more and counts as full. Else prove '..UptoSaid'. A law counts once. -/
mutual
def uptoBulk {H : Type} : DataW H → Nat
  | .lit (.string bytes) => bytes.length + 1
  | .lit _ => 1
  | .nil => 1
  | .ptr d => uptoBulk d + 1
  | .slice elems spare => uptoBulkAll elems + uptoBulkAll spare + 1
  | .agg parts => uptoBulkAll parts + 1
  | .iface _ d => uptoBulk d + 1
  | .map entries => uptoBulkEntries entries + 1
  | .held _ => 1
def uptoBulkAll {H : Type} : List (DataW H) → Nat
  | [] => 0
  | d :: r => uptoBulk d + uptoBulkAll r
def uptoBulkEntries {H : Type} : List (Lit × DataW H) → Nat
  | [] => 0
  | x :: r => uptoBulkEntry x + uptoBulkEntries r
def uptoBulkEntry {H : Type} : Lit × DataW H → Nat
  | (.string bytes, d) => bytes.length + uptoBulk d + 1
  | (_, d) => uptoBulk d + 1
 end
def uptoSmall : (H : Type) → List (DataW H) → Bool := fun _ ds => decide (uptoBulkAll ds ≤ 1048576)
def OpenSpec.upto (s : _root_.Go.ChangeSpec) : _root_.Go.OpenSpec := { _root_.Go.OpenSpec.ofChange s with cond := some uptoSmall }

/-- 'paravanelaw05.ShotWorst', WHERE WHAT IT READS IS OF BULK AT MOST 1048576: true; the input reads as it did. -/
def shotWorstUptoRow : OpenClaim := { program := "ytfengddpfeneiaa", sum := "6d8c2207f70c809f20023e590518ec252359adb80c6707dc708ada7b708cb1b2", func := "paravane/paravanelaw05.ShotWorst", spec := "shotWorst", unfollowed := true, recurses := true, plainKeys := false, apart := false, narrowed := true }
def ShotWorstUptoSaid : Prop := shotWorstUptoRow.holds Try.pinned (OpenSpec.upto shotWorstSpec)

/-- 'paravanelaw05.ShotLosses', WHERE WHAT IT READS IS OF BULK AT MOST 1048576: true; the input reads as it did. -/
def shotLossesUptoRow : OpenClaim := { program := "ytfengddpfeneiaa", sum := "6d8c2207f70c809f20023e590518ec252359adb80c6707dc708ada7b708cb1b2", func := "paravane/paravanelaw05.ShotLosses", spec := "shotLosses", unfollowed := true, recurses := true, plainKeys := false, apart := false, narrowed := true }
def ShotLossesUptoSaid : Prop := shotLossesUptoRow.holds Try.pinned (OpenSpec.upto shotLossesSpec)

/-- 'paravanelaw05.ShotFires', WHERE WHAT IT READS IS OF BULK AT MOST 1048576: true; the input reads as it did. -/
def shotFiresUptoRow : OpenClaim := { program := "ytfengddpfeneiaa", sum := "6d8c2207f70c809f20023e590518ec252359adb80c6707dc708ada7b708cb1b2", func := "paravane/paravanelaw05.ShotFires", spec := "shotFires", unfollowed := true, recurses := true, plainKeys := false, apart := false, narrowed := true }
def ShotFiresUptoSaid : Prop := shotFiresUptoRow.holds Try.pinned (OpenSpec.upto shotFiresSpec)

/-- 'paravanelaw05.ShotTimes', WHERE WHAT IT READS IS OF BULK AT MOST 1048576: true; the input reads as it did. -/
def shotTimesUptoRow : OpenClaim := { program := "ytfengddpfeneiaa", sum := "6d8c2207f70c809f20023e590518ec252359adb80c6707dc708ada7b708cb1b2", func := "paravane/paravanelaw05.ShotTimes", spec := "shotTimes", unfollowed := true, recurses := true, plainKeys := false, apart := false, narrowed := true }
def ShotTimesUptoSaid : Prop := shotTimesUptoRow.holds Try.pinned (OpenSpec.upto shotTimesSpec)

/-- 'paravanelaw05.ShotJudges', WHERE WHAT IT READS IS OF BULK AT MOST 1048576: true; the input reads as it did. -/
def shotJudgesUptoRow : OpenClaim := { program := "ytfengddpfeneiaa", sum := "6d8c2207f70c809f20023e590518ec252359adb80c6707dc708ada7b708cb1b2", func := "paravane/paravanelaw05.ShotJudges", spec := "shotJudges", unfollowed := true, recurses := true, plainKeys := false, apart := false, narrowed := true }
def ShotJudgesUptoSaid : Prop := shotJudgesUptoRow.holds Try.pinned (OpenSpec.upto shotJudgesSpec)

/-- 'paravanelaw05.ShotBounds', WHERE WHAT IT READS IS OF BULK AT MOST 1048576: true; the input reads as it did. -/
def shotBoundsUptoRow : OpenClaim := { program := "ytfengddpfeneiaa", sum := "6d8c2207f70c809f20023e590518ec252359adb80c6707dc708ada7b708cb1b2", func := "paravane/paravanelaw05.ShotBounds", spec := "shotBounds", unfollowed := true, recurses := true, plainKeys := false, apart := false, narrowed := true }
def ShotBoundsUptoSaid : Prop := shotBoundsUptoRow.holds Try.pinned (OpenSpec.upto shotBoundsSpec)

/-- 'paravanelaw05.ShotReached', WHERE WHAT IT READS IS OF BULK AT MOST 1048576: true; the input reads as it did. -/
def shotReachedUptoRow : OpenClaim := { program := "ytfengddpfeneiaa", sum := "6d8c2207f70c809f20023e590518ec252359adb80c6707dc708ada7b708cb1b2", func := "paravane/paravanelaw05.ShotReached", spec := "shotReached", unfollowed := true, recurses := true, plainKeys := false, apart := false, narrowed := true }
def ShotReachedUptoSaid : Prop := shotReachedUptoRow.holds Try.pinned (OpenSpec.upto shotReachedSpec)

/-- 'paravanelaw05.ShotLost', WHERE WHAT IT READS IS OF BULK AT MOST 1048576: true; the input reads as it did. -/
def shotLostUptoRow : OpenClaim := { program := "ytfengddpfeneiaa", sum := "6d8c2207f70c809f20023e590518ec252359adb80c6707dc708ada7b708cb1b2", func := "paravane/paravanelaw05.ShotLost", spec := "shotLost", unfollowed := true, recurses := true, plainKeys := false, apart := false, narrowed := true }
def ShotLostUptoSaid : Prop := shotLostUptoRow.holds Try.pinned (OpenSpec.upto shotLostSpec)

/-- 'paravanelaw05.ShotTrue', WHERE WHAT IT READS IS OF BULK AT MOST 1048576: true; the input reads as it did. -/
def shotTrueUptoRow : OpenClaim := { program := "ytfengddpfeneiaa", sum := "6d8c2207f70c809f20023e590518ec252359adb80c6707dc708ada7b708cb1b2", func := "paravane/paravanelaw05.ShotTrue", spec := "shotTrue", unfollowed := true, recurses := true, plainKeys := false, apart := false, narrowed := true }
def ShotTrueUptoSaid : Prop := shotTrueUptoRow.holds Try.pinned (OpenSpec.upto shotTrueSpec)

/-- 'paravanelaw05.ShotNarrower', WHERE WHAT IT READS IS OF BULK AT MOST 1048576: true; the input reads as it did. -/
def shotNarrowerUptoRow : OpenClaim := { program := "ytfengddpfeneiaa", sum := "6d8c2207f70c809f20023e590518ec252359adb80c6707dc708ada7b708cb1b2", func := "paravane/paravanelaw05.ShotNarrower", spec := "shotNarrower", unfollowed := true, recurses := true, plainKeys := false, apart := false, narrowed := true }
def ShotNarrowerUptoSaid : Prop := shotNarrowerUptoRow.holds Try.pinned (OpenSpec.upto shotNarrowerSpec)

/-- 'paravanelaw05.ShotPaces', WHERE WHAT IT READS IS OF BULK AT MOST 1048576: true; the input reads as it did. -/
def shotPacesUptoRow : OpenClaim := { program := "ytfengddpfeneiaa", sum := "6d8c2207f70c809f20023e590518ec252359adb80c6707dc708ada7b708cb1b2", func := "paravane/paravanelaw05.ShotPaces", spec := "shotPaces", unfollowed := true, recurses := true, plainKeys := false, apart := false, narrowed := true }
def ShotPacesUptoSaid : Prop := shotPacesUptoRow.holds Try.pinned (OpenSpec.upto shotPacesSpec)

/-- 'paravanelaw05.ShotForeseen', WHERE WHAT IT READS IS OF BULK AT MOST 1048576: true; the input reads as it did. -/
def shotForeseenUptoRow : OpenClaim := { program := "ytfengddpfeneiaa", sum := "6d8c2207f70c809f20023e590518ec252359adb80c6707dc708ada7b708cb1b2", func := "paravane/paravanelaw05.ShotForeseen", spec := "shotForeseen", unfollowed := true, recurses := true, plainKeys := false, apart := false, narrowed := true }
def ShotForeseenUptoSaid : Prop := shotForeseenUptoRow.holds Try.pinned (OpenSpec.upto shotForeseenSpec)

/-- 'paravanelaw05.ShotAllowed', WHERE WHAT IT READS IS OF BULK AT MOST 1048576: true; the input reads as it did. -/
def shotAllowedUptoRow : OpenClaim := { program := "ytfengddpfeneiaa", sum := "6d8c2207f70c809f20023e590518ec252359adb80c6707dc708ada7b708cb1b2", func := "paravane/paravanelaw05.ShotAllowed", spec := "shotAllowed", unfollowed := true, recurses := true, plainKeys := false, apart := false, narrowed := true }
def ShotAllowedUptoSaid : Prop := shotAllowedUptoRow.holds Try.pinned (OpenSpec.upto shotAllowedSpec)

/-- 'paravanelaw05.ShotSigns', WHERE WHAT IT READS IS OF BULK AT MOST 1048576: true; the input reads as it did. -/
def shotSignsUptoRow : OpenClaim := { program := "ytfengddpfeneiaa", sum := "6d8c2207f70c809f20023e590518ec252359adb80c6707dc708ada7b708cb1b2", func := "paravane/paravanelaw05.ShotSigns", spec := "shotSigns", unfollowed := true, recurses := true, plainKeys := false, apart := false, narrowed := true }
def ShotSignsUptoSaid : Prop := shotSignsUptoRow.holds Try.pinned (OpenSpec.upto shotSignsSpec)

/-- 'paravanelaw05.ShotWithin', WHERE WHAT IT READS IS OF BULK AT MOST 1048576: true; the input reads as it did. -/
def shotWithinUptoRow : OpenClaim := { program := "ytfengddpfeneiaa", sum := "6d8c2207f70c809f20023e590518ec252359adb80c6707dc708ada7b708cb1b2", func := "paravane/paravanelaw05.ShotWithin", spec := "shotWithin", unfollowed := true, recurses := true, plainKeys := false, apart := false, narrowed := true }
def ShotWithinUptoSaid : Prop := shotWithinUptoRow.holds Try.pinned (OpenSpec.upto shotWithinSpec)

/-- 'paravanelaw05.ShotKnown', WHERE WHAT IT READS IS OF BULK AT MOST 1048576: true; the input reads as it did. -/
def shotKnownUptoRow : OpenClaim := { program := "ytfengddpfeneiaa", sum := "6d8c2207f70c809f20023e590518ec252359adb80c6707dc708ada7b708cb1b2", func := "paravane/paravanelaw05.ShotKnown", spec := "shotKnown", unfollowed := true, recurses := true, plainKeys := false, apart := false, narrowed := true }
def ShotKnownUptoSaid : Prop := shotKnownUptoRow.holds Try.pinned (OpenSpec.upto shotKnownSpec)

/-- 'paravanelaw05.ShotRepeats', WHERE WHAT IT READS IS OF BULK AT MOST 1048576: true; the input reads as it did. -/
def shotRepeatsUptoRow : OpenClaim := { program := "ytfengddpfeneiaa", sum := "6d8c2207f70c809f20023e590518ec252359adb80c6707dc708ada7b708cb1b2", func := "paravane/paravanelaw05.ShotRepeats", spec := "shotRepeats", unfollowed := true, recurses := true, plainKeys := false, apart := false, narrowed := true }
def ShotRepeatsUptoSaid : Prop := shotRepeatsUptoRow.holds Try.pinned (OpenSpec.upto shotRepeatsSpec)

/-- 'paravanelaw05.ShotFewest', WHERE WHAT IT READS IS OF BULK AT MOST 1048576: true; the input reads as it did. -/
def shotFewestUptoRow : OpenClaim := { program := "ytfengddpfeneiaa", sum := "6d8c2207f70c809f20023e590518ec252359adb80c6707dc708ada7b708cb1b2", func := "paravane/paravanelaw05.ShotFewest", spec := "shotFewest", unfollowed := true, recurses := true, plainKeys := false, apart := false, narrowed := true }
def ShotFewestUptoSaid : Prop := shotFewestUptoRow.holds Try.pinned (OpenSpec.upto shotFewestSpec)

end Rows
end Go.Proofs.Ytfengddpfeneiaa
