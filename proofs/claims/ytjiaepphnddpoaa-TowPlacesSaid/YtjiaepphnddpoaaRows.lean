/-
  No cell of these rows narrows 'for every input' (looked for: loops, veiled, ifaces, maps, wideKeys, modest, calm, conditions, laid).
  DERIVED. THE GIVEN ROWS OF THIS SEAT. 13 by the template 'for every input the law returns true; each argument reads behind the call as it read before'; 0 by the template 'total and deterministic' (their statements: YtjiaepphnddpoaaTotals.lean).
  GIVEN WITH THE SEED: the statements are not yours to turn. If you find one false, say at which input.
  Laid BY PROGRAM, IN A SANDBOX (cutbox-rows.mjs): the forced cells as the released guide's own fill.sh prints them over the translation 3189c72617297b4a… (all of the seat's roots in one cut). By AI agents, Wed Nov 11 2026. No macro, syntax, notation, axiom, sorry.
-/
import Derived.Test.YtjiaepphnddpoaaChecked
import GoSem.Claim
import GoSem.ClaimJoined
import GoSem.ClaimMapViews
import Derived.JoinedTies
import Derived.KernelRfl
namespace Go.Proofs.Ytjiaepphnddpoaa
/- THE CELL 'sum', in the pinned program and in every row, IS THE sha256 OF THE DUMP (.gsa) THAT YtjiaepphnddpoaaProg.lean LOADS. Nothing in Lean hashes anything: it is a label: what it is worth is what the hold of that sum in a sandbox is worth. -/
noncomputable def Try.pinned : Pinned := { name := "ytjiaepphnddpoaa", sum := "3189c72617297b4a87b3283b917b01ccbfc08b729fce1b5220221fcb0fbdf25b", checked := Try.checked }
namespace Rows
def none {H : Type} : Left H := { results := [], args := [] }

/-- 'paravanelaw03.TowSteps': WHATEVER THE INPUT: true; the input reads as it did. -/
def towStepsSpec : ChangeSpec := { name := "towSteps", fn := fun _ => fun
  | [d1, d2, d3] => { results := [.lit (.bool true)], args := [d1, d2, d3] }
  | _ => none }
def towStepsRow : OpenClaim := { program := "ytjiaepphnddpoaa", sum := "3189c72617297b4a87b3283b917b01ccbfc08b729fce1b5220221fcb0fbdf25b", func := "paravane/paravanelaw03.TowSteps", spec := "towSteps", unfollowed := true, recurses := true, plainKeys := false, apart := false }
def TowStepsSaid : Prop := towStepsRow.holds Try.pinned (OpenSpec.ofChange towStepsSpec)

/-- ITS FALSE NEIGHBOUR: 'it returns false'. Refute it at one input. -/
def towStepsWrong : ChangeSpec := { name := "towSteps", fn := fun _ => fun
  | [d1, d2, d3] => { results := [.lit (.bool false)], args := [d1, d2, d3] }
  | _ => none }
def TowStepsWrongFalsely : Prop := towStepsRow.holds Try.pinned (OpenSpec.ofChange towStepsWrong)

/-- 'paravanelaw03.TowEncloses': WHATEVER THE INPUT: true; the input reads as it did. -/
def towEnclosesSpec : ChangeSpec := { name := "towEncloses", fn := fun _ => fun
  | [d1, d2] => { results := [.lit (.bool true)], args := [d1, d2] }
  | _ => none }
def towEnclosesRow : OpenClaim := { program := "ytjiaepphnddpoaa", sum := "3189c72617297b4a87b3283b917b01ccbfc08b729fce1b5220221fcb0fbdf25b", func := "paravane/paravanelaw03.TowEncloses", spec := "towEncloses", unfollowed := true, recurses := true, plainKeys := false, apart := false }
def TowEnclosesSaid : Prop := towEnclosesRow.holds Try.pinned (OpenSpec.ofChange towEnclosesSpec)

/-- ITS FALSE NEIGHBOUR: 'it returns false'. Refute it at one input. -/
def towEnclosesWrong : ChangeSpec := { name := "towEncloses", fn := fun _ => fun
  | [d1, d2] => { results := [.lit (.bool false)], args := [d1, d2] }
  | _ => none }
def TowEnclosesWrongFalsely : Prop := towEnclosesRow.holds Try.pinned (OpenSpec.ofChange towEnclosesWrong)

/-- 'paravanelaw03.TowPulls': WHATEVER THE INPUT: true; the input reads as it did. -/
def towPullsSpec : ChangeSpec := { name := "towPulls", fn := fun _ => fun
  | [d1, d2, d3] => { results := [.lit (.bool true)], args := [d1, d2, d3] }
  | _ => none }
def towPullsRow : OpenClaim := { program := "ytjiaepphnddpoaa", sum := "3189c72617297b4a87b3283b917b01ccbfc08b729fce1b5220221fcb0fbdf25b", func := "paravane/paravanelaw03.TowPulls", spec := "towPulls", unfollowed := true, recurses := true, plainKeys := false, apart := false }
def TowPullsSaid : Prop := towPullsRow.holds Try.pinned (OpenSpec.ofChange towPullsSpec)

/-- ITS FALSE NEIGHBOUR: 'it returns false'. Refute it at one input. -/
def towPullsWrong : ChangeSpec := { name := "towPulls", fn := fun _ => fun
  | [d1, d2, d3] => { results := [.lit (.bool false)], args := [d1, d2, d3] }
  | _ => none }
def TowPullsWrongFalsely : Prop := towPullsRow.holds Try.pinned (OpenSpec.ofChange towPullsWrong)

/-- 'paravanelaw03.TowWithin': WHATEVER THE INPUT: true; the input reads as it did. -/
def towWithinSpec : ChangeSpec := { name := "towWithin", fn := fun _ => fun
  | [d1, d2, d3] => { results := [.lit (.bool true)], args := [d1, d2, d3] }
  | _ => none }
def towWithinRow : OpenClaim := { program := "ytjiaepphnddpoaa", sum := "3189c72617297b4a87b3283b917b01ccbfc08b729fce1b5220221fcb0fbdf25b", func := "paravane/paravanelaw03.TowWithin", spec := "towWithin", unfollowed := true, recurses := true, plainKeys := false, apart := false }
def TowWithinSaid : Prop := towWithinRow.holds Try.pinned (OpenSpec.ofChange towWithinSpec)

/-- ITS FALSE NEIGHBOUR: 'it returns false'. Refute it at one input. -/
def towWithinWrong : ChangeSpec := { name := "towWithin", fn := fun _ => fun
  | [d1, d2, d3] => { results := [.lit (.bool false)], args := [d1, d2, d3] }
  | _ => none }
def TowWithinWrongFalsely : Prop := towWithinRow.holds Try.pinned (OpenSpec.ofChange towWithinWrong)

/-- 'paravanelaw03.TowRises': WHATEVER THE INPUT: true; the input reads as it did. -/
def towRisesSpec : ChangeSpec := { name := "towRises", fn := fun _ => fun
  | [d1, d2, d3] => { results := [.lit (.bool true)], args := [d1, d2, d3] }
  | _ => none }
def towRisesRow : OpenClaim := { program := "ytjiaepphnddpoaa", sum := "3189c72617297b4a87b3283b917b01ccbfc08b729fce1b5220221fcb0fbdf25b", func := "paravane/paravanelaw03.TowRises", spec := "towRises", unfollowed := true, recurses := true, plainKeys := false, apart := false }
def TowRisesSaid : Prop := towRisesRow.holds Try.pinned (OpenSpec.ofChange towRisesSpec)

/-- ITS FALSE NEIGHBOUR: 'it returns false'. Refute it at one input. -/
def towRisesWrong : ChangeSpec := { name := "towRises", fn := fun _ => fun
  | [d1, d2, d3] => { results := [.lit (.bool false)], args := [d1, d2, d3] }
  | _ => none }
def TowRisesWrongFalsely : Prop := towRisesRow.holds Try.pinned (OpenSpec.ofChange towRisesWrong)

/-- 'paravanelaw03.TowStrained': WHATEVER THE INPUT: true; the input reads as it did. -/
def towStrainedSpec : ChangeSpec := { name := "towStrained", fn := fun _ => fun
  | [d1, d2, d3, d4] => { results := [.lit (.bool true)], args := [d1, d2, d3, d4] }
  | _ => none }
def towStrainedRow : OpenClaim := { program := "ytjiaepphnddpoaa", sum := "3189c72617297b4a87b3283b917b01ccbfc08b729fce1b5220221fcb0fbdf25b", func := "paravane/paravanelaw03.TowStrained", spec := "towStrained", unfollowed := true, recurses := true, plainKeys := false, apart := false }
def TowStrainedSaid : Prop := towStrainedRow.holds Try.pinned (OpenSpec.ofChange towStrainedSpec)

/-- ITS FALSE NEIGHBOUR: 'it returns false'. Refute it at one input. -/
def towStrainedWrong : ChangeSpec := { name := "towStrained", fn := fun _ => fun
  | [d1, d2, d3, d4] => { results := [.lit (.bool false)], args := [d1, d2, d3, d4] }
  | _ => none }
def TowStrainedWrongFalsely : Prop := towStrainedRow.holds Try.pinned (OpenSpec.ofChange towStrainedWrong)

/-- 'paravanelaw03.TowSafe': WHATEVER THE INPUT: true; the input reads as it did. -/
def towSafeSpec : ChangeSpec := { name := "towSafe", fn := fun _ => fun
  | [d1, d2, d3] => { results := [.lit (.bool true)], args := [d1, d2, d3] }
  | _ => none }
def towSafeRow : OpenClaim := { program := "ytjiaepphnddpoaa", sum := "3189c72617297b4a87b3283b917b01ccbfc08b729fce1b5220221fcb0fbdf25b", func := "paravane/paravanelaw03.TowSafe", spec := "towSafe", unfollowed := true, recurses := true, plainKeys := false, apart := false }
def TowSafeSaid : Prop := towSafeRow.holds Try.pinned (OpenSpec.ofChange towSafeSpec)

/-- ITS FALSE NEIGHBOUR: 'it returns false'. Refute it at one input. -/
def towSafeWrong : ChangeSpec := { name := "towSafe", fn := fun _ => fun
  | [d1, d2, d3] => { results := [.lit (.bool false)], args := [d1, d2, d3] }
  | _ => none }
def TowSafeWrongFalsely : Prop := towSafeRow.holds Try.pinned (OpenSpec.ofChange towSafeWrong)

/-- 'paravanelaw03.TowNarrower': WHATEVER THE INPUT: true; the input reads as it did. -/
def towNarrowerSpec : ChangeSpec := { name := "towNarrower", fn := fun _ => fun
  | [d1, d2, d3] => { results := [.lit (.bool true)], args := [d1, d2, d3] }
  | _ => none }
def towNarrowerRow : OpenClaim := { program := "ytjiaepphnddpoaa", sum := "3189c72617297b4a87b3283b917b01ccbfc08b729fce1b5220221fcb0fbdf25b", func := "paravane/paravanelaw03.TowNarrower", spec := "towNarrower", unfollowed := true, recurses := true, plainKeys := false, apart := false }
def TowNarrowerSaid : Prop := towNarrowerRow.holds Try.pinned (OpenSpec.ofChange towNarrowerSpec)

/-- ITS FALSE NEIGHBOUR: 'it returns false'. Refute it at one input. -/
def towNarrowerWrong : ChangeSpec := { name := "towNarrower", fn := fun _ => fun
  | [d1, d2, d3] => { results := [.lit (.bool false)], args := [d1, d2, d3] }
  | _ => none }
def TowNarrowerWrongFalsely : Prop := towNarrowerRow.holds Try.pinned (OpenSpec.ofChange towNarrowerWrong)

/-- 'paravanelaw03.TowFast': WHATEVER THE INPUT: true; the input reads as it did. -/
def towFastSpec : ChangeSpec := { name := "towFast", fn := fun _ => fun
  | [d1, d2, d3, d4] => { results := [.lit (.bool true)], args := [d1, d2, d3, d4] }
  | _ => none }
def towFastRow : OpenClaim := { program := "ytjiaepphnddpoaa", sum := "3189c72617297b4a87b3283b917b01ccbfc08b729fce1b5220221fcb0fbdf25b", func := "paravane/paravanelaw03.TowFast", spec := "towFast", unfollowed := true, recurses := true, plainKeys := false, apart := false }
def TowFastSaid : Prop := towFastRow.holds Try.pinned (OpenSpec.ofChange towFastSpec)

/-- ITS FALSE NEIGHBOUR: 'it returns false'. Refute it at one input. -/
def towFastWrong : ChangeSpec := { name := "towFast", fn := fun _ => fun
  | [d1, d2, d3, d4] => { results := [.lit (.bool false)], args := [d1, d2, d3, d4] }
  | _ => none }
def TowFastWrongFalsely : Prop := towFastRow.holds Try.pinned (OpenSpec.ofChange towFastWrong)

/-- 'paravanelaw03.TowLies': WHATEVER THE INPUT: true; the input reads as it did. -/
def towLiesSpec : ChangeSpec := { name := "towLies", fn := fun _ => fun
  | [d1, d2] => { results := [.lit (.bool true)], args := [d1, d2] }
  | _ => none }
def towLiesRow : OpenClaim := { program := "ytjiaepphnddpoaa", sum := "3189c72617297b4a87b3283b917b01ccbfc08b729fce1b5220221fcb0fbdf25b", func := "paravane/paravanelaw03.TowLies", spec := "towLies", unfollowed := true, recurses := true, plainKeys := false, apart := false }
def TowLiesSaid : Prop := towLiesRow.holds Try.pinned (OpenSpec.ofChange towLiesSpec)

/-- ITS FALSE NEIGHBOUR: 'it returns false'. Refute it at one input. -/
def towLiesWrong : ChangeSpec := { name := "towLies", fn := fun _ => fun
  | [d1, d2] => { results := [.lit (.bool false)], args := [d1, d2] }
  | _ => none }
def TowLiesWrongFalsely : Prop := towLiesRow.holds Try.pinned (OpenSpec.ofChange towLiesWrong)

/-- 'paravanelaw03.TowWeakest': WHATEVER THE INPUT: true; the input reads as it did. -/
def towWeakestSpec : ChangeSpec := { name := "towWeakest", fn := fun _ => fun
  | [d1, d2, d3] => { results := [.lit (.bool true)], args := [d1, d2, d3] }
  | _ => none }
def towWeakestRow : OpenClaim := { program := "ytjiaepphnddpoaa", sum := "3189c72617297b4a87b3283b917b01ccbfc08b729fce1b5220221fcb0fbdf25b", func := "paravane/paravanelaw03.TowWeakest", spec := "towWeakest", unfollowed := true, recurses := true, plainKeys := false, apart := false }
def TowWeakestSaid : Prop := towWeakestRow.holds Try.pinned (OpenSpec.ofChange towWeakestSpec)

/-- ITS FALSE NEIGHBOUR: 'it returns false'. Refute it at one input. -/
def towWeakestWrong : ChangeSpec := { name := "towWeakest", fn := fun _ => fun
  | [d1, d2, d3] => { results := [.lit (.bool false)], args := [d1, d2, d3] }
  | _ => none }
def TowWeakestWrongFalsely : Prop := towWeakestRow.holds Try.pinned (OpenSpec.ofChange towWeakestWrong)

/-- 'paravanelaw03.TowPlaces': WHATEVER THE INPUT: true; the input reads as it did. -/
def towPlacesSpec : ChangeSpec := { name := "towPlaces", fn := fun _ => fun
  | [d1, d2, d3] => { results := [.lit (.bool true)], args := [d1, d2, d3] }
  | _ => none }
def towPlacesRow : OpenClaim := { program := "ytjiaepphnddpoaa", sum := "3189c72617297b4a87b3283b917b01ccbfc08b729fce1b5220221fcb0fbdf25b", func := "paravane/paravanelaw03.TowPlaces", spec := "towPlaces", unfollowed := true, recurses := true, plainKeys := false, apart := false }
def TowPlacesSaid : Prop := towPlacesRow.holds Try.pinned (OpenSpec.ofChange towPlacesSpec)

/-- ITS FALSE NEIGHBOUR: 'it returns false'. Refute it at one input. -/
def towPlacesWrong : ChangeSpec := { name := "towPlaces", fn := fun _ => fun
  | [d1, d2, d3] => { results := [.lit (.bool false)], args := [d1, d2, d3] }
  | _ => none }
def TowPlacesWrongFalsely : Prop := towPlacesRow.holds Try.pinned (OpenSpec.ofChange towPlacesWrong)

/-- 'paravanelaw03.TowAhead': WHATEVER THE INPUT: true; the input reads as it did. -/
def towAheadSpec : ChangeSpec := { name := "towAhead", fn := fun _ => fun
  | [d1, d2] => { results := [.lit (.bool true)], args := [d1, d2] }
  | _ => none }
def towAheadRow : OpenClaim := { program := "ytjiaepphnddpoaa", sum := "3189c72617297b4a87b3283b917b01ccbfc08b729fce1b5220221fcb0fbdf25b", func := "paravane/paravanelaw03.TowAhead", spec := "towAhead", unfollowed := true, recurses := true, plainKeys := false, apart := false }
def TowAheadSaid : Prop := towAheadRow.holds Try.pinned (OpenSpec.ofChange towAheadSpec)

/-- ITS FALSE NEIGHBOUR: 'it returns false'. Refute it at one input. -/
def towAheadWrong : ChangeSpec := { name := "towAhead", fn := fun _ => fun
  | [d1, d2] => { results := [.lit (.bool false)], args := [d1, d2] }
  | _ => none }
def TowAheadWrongFalsely : Prop := towAheadRow.holds Try.pinned (OpenSpec.ofChange towAheadWrong)

/- THE SECOND FORM. 'bulk': how many values and letters a reading holds, each counted each time it is reached (what is shared counts as often as it is met; a slice's spare places count too). A statement '..UptoSaid' is the law's where the arguments, and the package variables that the reading takes, are together of bulk at most 1048576: NARROWER than '..Said'. Prove '..Said' where nothing that the law and all that it calls make is longer than what came in: it says more and counts as full. Else prove '..UptoSaid'. A law counts once. -/
mutual
def uptoBulk {H : Type} : DataW H → Nat
  | .lit (.string bytes) => bytes.length + 1
  | .lit _ => 1
  | .nil => 1
  | .ptr d => uptoBulk d + 1
  | .slice elems spare => uptoBulkAll elems + uptoBulkAll spare + 1
  | .agg parts => uptoBulkAll parts + 1
  | .iface _ d => uptoBulk d + 1
  | .map entries => uptoBulkEntries entries + 1
  | .held _ => 1
def uptoBulkAll {H : Type} : List (DataW H) → Nat
  | [] => 0
  | d :: r => uptoBulk d + uptoBulkAll r
def uptoBulkEntries {H : Type} : List (Lit × DataW H) → Nat
  | [] => 0
  | x :: r => uptoBulkEntry x + uptoBulkEntries r
def uptoBulkEntry {H : Type} : Lit × DataW H → Nat
  | (.string bytes, d) => bytes.length + uptoBulk d + 1
  | (_, d) => uptoBulk d + 1
 end
def uptoSmall : (H : Type) → List (DataW H) → Bool := fun _ ds => decide (uptoBulkAll ds ≤ 1048576)
def OpenSpec.upto (s : _root_.Go.ChangeSpec) : _root_.Go.OpenSpec := { _root_.Go.OpenSpec.ofChange s with cond := some uptoSmall }

/-- 'paravanelaw03.TowSteps', WHERE WHAT IT READS IS OF BULK AT MOST 1048576: true; the input reads as it did. -/
def towStepsUptoRow : OpenClaim := { program := "ytjiaepphnddpoaa", sum := "3189c72617297b4a87b3283b917b01ccbfc08b729fce1b5220221fcb0fbdf25b", func := "paravane/paravanelaw03.TowSteps", spec := "towSteps", unfollowed := true, recurses := true, plainKeys := false, apart := false, narrowed := true }
def TowStepsUptoSaid : Prop := towStepsUptoRow.holds Try.pinned (OpenSpec.upto towStepsSpec)

/-- 'paravanelaw03.TowEncloses', WHERE WHAT IT READS IS OF BULK AT MOST 1048576: true; the input reads as it did. -/
def towEnclosesUptoRow : OpenClaim := { program := "ytjiaepphnddpoaa", sum := "3189c72617297b4a87b3283b917b01ccbfc08b729fce1b5220221fcb0fbdf25b", func := "paravane/paravanelaw03.TowEncloses", spec := "towEncloses", unfollowed := true, recurses := true, plainKeys := false, apart := false, narrowed := true }
def TowEnclosesUptoSaid : Prop := towEnclosesUptoRow.holds Try.pinned (OpenSpec.upto towEnclosesSpec)

/-- 'paravanelaw03.TowPulls', WHERE WHAT IT READS IS OF BULK AT MOST 1048576: true; the input reads as it did. -/
def towPullsUptoRow : OpenClaim := { program := "ytjiaepphnddpoaa", sum := "3189c72617297b4a87b3283b917b01ccbfc08b729fce1b5220221fcb0fbdf25b", func := "paravane/paravanelaw03.TowPulls", spec := "towPulls", unfollowed := true, recurses := true, plainKeys := false, apart := false, narrowed := true }
def TowPullsUptoSaid : Prop := towPullsUptoRow.holds Try.pinned (OpenSpec.upto towPullsSpec)

/-- 'paravanelaw03.TowWithin', WHERE WHAT IT READS IS OF BULK AT MOST 1048576: true; the input reads as it did. -/
def towWithinUptoRow : OpenClaim := { program := "ytjiaepphnddpoaa", sum := "3189c72617297b4a87b3283b917b01ccbfc08b729fce1b5220221fcb0fbdf25b", func := "paravane/paravanelaw03.TowWithin", spec := "towWithin", unfollowed := true, recurses := true, plainKeys := false, apart := false, narrowed := true }
def TowWithinUptoSaid : Prop := towWithinUptoRow.holds Try.pinned (OpenSpec.upto towWithinSpec)

/-- 'paravanelaw03.TowRises', WHERE WHAT IT READS IS OF BULK AT MOST 1048576: true; the input reads as it did. -/
def towRisesUptoRow : OpenClaim := { program := "ytjiaepphnddpoaa", sum := "3189c72617297b4a87b3283b917b01ccbfc08b729fce1b5220221fcb0fbdf25b", func := "paravane/paravanelaw03.TowRises", spec := "towRises", unfollowed := true, recurses := true, plainKeys := false, apart := false, narrowed := true }
def TowRisesUptoSaid : Prop := towRisesUptoRow.holds Try.pinned (OpenSpec.upto towRisesSpec)

/-- 'paravanelaw03.TowStrained', WHERE WHAT IT READS IS OF BULK AT MOST 1048576: true; the input reads as it did. -/
def towStrainedUptoRow : OpenClaim := { program := "ytjiaepphnddpoaa", sum := "3189c72617297b4a87b3283b917b01ccbfc08b729fce1b5220221fcb0fbdf25b", func := "paravane/paravanelaw03.TowStrained", spec := "towStrained", unfollowed := true, recurses := true, plainKeys := false, apart := false, narrowed := true }
def TowStrainedUptoSaid : Prop := towStrainedUptoRow.holds Try.pinned (OpenSpec.upto towStrainedSpec)

/-- 'paravanelaw03.TowSafe', WHERE WHAT IT READS IS OF BULK AT MOST 1048576: true; the input reads as it did. -/
def towSafeUptoRow : OpenClaim := { program := "ytjiaepphnddpoaa", sum := "3189c72617297b4a87b3283b917b01ccbfc08b729fce1b5220221fcb0fbdf25b", func := "paravane/paravanelaw03.TowSafe", spec := "towSafe", unfollowed := true, recurses := true, plainKeys := false, apart := false, narrowed := true }
def TowSafeUptoSaid : Prop := towSafeUptoRow.holds Try.pinned (OpenSpec.upto towSafeSpec)

/-- 'paravanelaw03.TowNarrower', WHERE WHAT IT READS IS OF BULK AT MOST 1048576: true; the input reads as it did. -/
def towNarrowerUptoRow : OpenClaim := { program := "ytjiaepphnddpoaa", sum := "3189c72617297b4a87b3283b917b01ccbfc08b729fce1b5220221fcb0fbdf25b", func := "paravane/paravanelaw03.TowNarrower", spec := "towNarrower", unfollowed := true, recurses := true, plainKeys := false, apart := false, narrowed := true }
def TowNarrowerUptoSaid : Prop := towNarrowerUptoRow.holds Try.pinned (OpenSpec.upto towNarrowerSpec)

/-- 'paravanelaw03.TowFast', WHERE WHAT IT READS IS OF BULK AT MOST 1048576: true; the input reads as it did. -/
def towFastUptoRow : OpenClaim := { program := "ytjiaepphnddpoaa", sum := "3189c72617297b4a87b3283b917b01ccbfc08b729fce1b5220221fcb0fbdf25b", func := "paravane/paravanelaw03.TowFast", spec := "towFast", unfollowed := true, recurses := true, plainKeys := false, apart := false, narrowed := true }
def TowFastUptoSaid : Prop := towFastUptoRow.holds Try.pinned (OpenSpec.upto towFastSpec)

/-- 'paravanelaw03.TowLies', WHERE WHAT IT READS IS OF BULK AT MOST 1048576: true; the input reads as it did. -/
def towLiesUptoRow : OpenClaim := { program := "ytjiaepphnddpoaa", sum := "3189c72617297b4a87b3283b917b01ccbfc08b729fce1b5220221fcb0fbdf25b", func := "paravane/paravanelaw03.TowLies", spec := "towLies", unfollowed := true, recurses := true, plainKeys := false, apart := false, narrowed := true }
def TowLiesUptoSaid : Prop := towLiesUptoRow.holds Try.pinned (OpenSpec.upto towLiesSpec)

/-- 'paravanelaw03.TowWeakest', WHERE WHAT IT READS IS OF BULK AT MOST 1048576: true; the input reads as it did. -/
def towWeakestUptoRow : OpenClaim := { program := "ytjiaepphnddpoaa", sum := "3189c72617297b4a87b3283b917b01ccbfc08b729fce1b5220221fcb0fbdf25b", func := "paravane/paravanelaw03.TowWeakest", spec := "towWeakest", unfollowed := true, recurses := true, plainKeys := false, apart := false, narrowed := true }
def TowWeakestUptoSaid : Prop := towWeakestUptoRow.holds Try.pinned (OpenSpec.upto towWeakestSpec)

/-- 'paravanelaw03.TowPlaces', WHERE WHAT IT READS IS OF BULK AT MOST 1048576: true; the input reads as it did. -/
def towPlacesUptoRow : OpenClaim := { program := "ytjiaepphnddpoaa", sum := "3189c72617297b4a87b3283b917b01ccbfc08b729fce1b5220221fcb0fbdf25b", func := "paravane/paravanelaw03.TowPlaces", spec := "towPlaces", unfollowed := true, recurses := true, plainKeys := false, apart := false, narrowed := true }
def TowPlacesUptoSaid : Prop := towPlacesUptoRow.holds Try.pinned (OpenSpec.upto towPlacesSpec)

/-- 'paravanelaw03.TowAhead', WHERE WHAT IT READS IS OF BULK AT MOST 1048576: true; the input reads as it did. -/
def towAheadUptoRow : OpenClaim := { program := "ytjiaepphnddpoaa", sum := "3189c72617297b4a87b3283b917b01ccbfc08b729fce1b5220221fcb0fbdf25b", func := "paravane/paravanelaw03.TowAhead", spec := "towAhead", unfollowed := true, recurses := true, plainKeys := false, apart := false, narrowed := true }
def TowAheadUptoSaid : Prop := towAheadUptoRow.holds Try.pinned (OpenSpec.upto towAheadSpec)

end Rows
end Go.Proofs.Ytjiaepphnddpoaa
