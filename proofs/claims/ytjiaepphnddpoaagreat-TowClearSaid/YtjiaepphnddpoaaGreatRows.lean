/-
  No cell of these rows narrows 'for every input' (looked for: loops, veiled, ifaces, maps, wideKeys, modest, calm, conditions, laid).
  DERIVED. THE GIVEN ROWS OF THIS SEAT. 8 by the template 'for every input the law returns true; each argument reads behind the call as it read before'; 0 by the template 'total and deterministic' (their statements: YtjiaepphnddpoaaGreatTotals.lean).
  GIVEN WITH THE SEED: the statements are not yours to turn. If you find one false, say at which input.
  Laid BY PROGRAM, IN A SANDBOX (cutbox-rows.mjs): the forced cells as the released guide's own fill.sh prints them over the translation 11e021f18bd5942a… (all of the seat's roots in one cut). By AI agents, Wed Nov 11 2026. No macro, syntax, notation, axiom, sorry.
-/
import Derived.Test.YtjiaepphnddpoaaGreatChecked
import GoSem.Claim
import GoSem.ClaimJoined
import GoSem.ClaimMapViews
import Derived.JoinedTies
import Derived.KernelRfl
namespace Go.Proofs.YtjiaepphnddpoaaGreat
/- THE CELL 'sum', in the pinned program and in every row, IS THE sha256 OF THE DUMP (.gsa) THAT YtjiaepphnddpoaaGreatProg.lean LOADS. Nothing in Lean hashes anything: it is a label: what it is worth is what the hold of that sum in a sandbox is worth. -/
noncomputable def Tryz.pinned : Pinned := { name := "ytjiaepphnddpoaagreat", sum := "11e021f18bd5942a2c7d17c848799daead09c14bebc27cb64ea5356e76b0e761", checked := Tryz.checked }
namespace Rows
def none {H : Type} : Left H := { results := [], args := [] }

/-- 'paravanelaw03.TowWatches': WHATEVER THE INPUT: true; the input reads as it did. -/
def towWatchesSpec : ChangeSpec := { name := "towWatches", fn := fun _ => fun
  | [d1, d2] => { results := [.lit (.bool true)], args := [d1, d2] }
  | _ => none }
def towWatchesRow : OpenClaim := { program := "ytjiaepphnddpoaagreat", sum := "11e021f18bd5942a2c7d17c848799daead09c14bebc27cb64ea5356e76b0e761", func := "paravane/paravanelaw03.TowWatches", spec := "towWatches", unfollowed := true, recurses := true, plainKeys := false, apart := false }
def TowWatchesSaid : Prop := towWatchesRow.holds Tryz.pinned (OpenSpec.ofChange towWatchesSpec)

/-- ITS FALSE NEIGHBOUR: 'it returns false'. Refute it at one input. -/
def towWatchesWrong : ChangeSpec := { name := "towWatches", fn := fun _ => fun
  | [d1, d2] => { results := [.lit (.bool false)], args := [d1, d2] }
  | _ => none }
def TowWatchesWrongFalsely : Prop := towWatchesRow.holds Tryz.pinned (OpenSpec.ofChange towWatchesWrong)

/-- 'paravanelaw03.TowTurns': WHATEVER THE INPUT: true; the input reads as it did. -/
def towTurnsSpec : ChangeSpec := { name := "towTurns", fn := fun _ => fun
  | [d1, d2] => { results := [.lit (.bool true)], args := [d1, d2] }
  | _ => none }
def towTurnsRow : OpenClaim := { program := "ytjiaepphnddpoaagreat", sum := "11e021f18bd5942a2c7d17c848799daead09c14bebc27cb64ea5356e76b0e761", func := "paravane/paravanelaw03.TowTurns", spec := "towTurns", unfollowed := true, recurses := true, plainKeys := false, apart := false }
def TowTurnsSaid : Prop := towTurnsRow.holds Tryz.pinned (OpenSpec.ofChange towTurnsSpec)

/-- ITS FALSE NEIGHBOUR: 'it returns false'. Refute it at one input. -/
def towTurnsWrong : ChangeSpec := { name := "towTurns", fn := fun _ => fun
  | [d1, d2] => { results := [.lit (.bool false)], args := [d1, d2] }
  | _ => none }
def TowTurnsWrongFalsely : Prop := towTurnsRow.holds Tryz.pinned (OpenSpec.ofChange towTurnsWrong)

/-- 'paravanelaw03.TowPlans': WHATEVER THE INPUT: true; the input reads as it did. -/
def towPlansSpec : ChangeSpec := { name := "towPlans", fn := fun _ => fun
  | [d1, d2, d3] => { results := [.lit (.bool true)], args := [d1, d2, d3] }
  | _ => none }
def towPlansRow : OpenClaim := { program := "ytjiaepphnddpoaagreat", sum := "11e021f18bd5942a2c7d17c848799daead09c14bebc27cb64ea5356e76b0e761", func := "paravane/paravanelaw03.TowPlans", spec := "towPlans", unfollowed := true, recurses := true, plainKeys := false, apart := false }
def TowPlansSaid : Prop := towPlansRow.holds Tryz.pinned (OpenSpec.ofChange towPlansSpec)

/-- ITS FALSE NEIGHBOUR: 'it returns false'. Refute it at one input. -/
def towPlansWrong : ChangeSpec := { name := "towPlans", fn := fun _ => fun
  | [d1, d2, d3] => { results := [.lit (.bool false)], args := [d1, d2, d3] }
  | _ => none }
def TowPlansWrongFalsely : Prop := towPlansRow.holds Tryz.pinned (OpenSpec.ofChange towPlansWrong)

/-- 'paravanelaw03.TowNodes': WHATEVER THE INPUT: true; the input reads as it did. -/
def towNodesSpec : ChangeSpec := { name := "towNodes", fn := fun _ => fun
  | [d1, d2] => { results := [.lit (.bool true)], args := [d1, d2] }
  | _ => none }
def towNodesRow : OpenClaim := { program := "ytjiaepphnddpoaagreat", sum := "11e021f18bd5942a2c7d17c848799daead09c14bebc27cb64ea5356e76b0e761", func := "paravane/paravanelaw03.TowNodes", spec := "towNodes", unfollowed := true, recurses := true, plainKeys := false, apart := false }
def TowNodesSaid : Prop := towNodesRow.holds Tryz.pinned (OpenSpec.ofChange towNodesSpec)

/-- ITS FALSE NEIGHBOUR: 'it returns false'. Refute it at one input. -/
def towNodesWrong : ChangeSpec := { name := "towNodes", fn := fun _ => fun
  | [d1, d2] => { results := [.lit (.bool false)], args := [d1, d2] }
  | _ => none }
def TowNodesWrongFalsely : Prop := towNodesRow.holds Tryz.pinned (OpenSpec.ofChange towNodesWrong)

/-- 'paravanelaw03.TowApart': WHATEVER THE INPUT: true; the input reads as it did. -/
def towApartSpec : ChangeSpec := { name := "towApart", fn := fun _ => fun
  | [d1, d2, d3] => { results := [.lit (.bool true)], args := [d1, d2, d3] }
  | _ => none }
def towApartRow : OpenClaim := { program := "ytjiaepphnddpoaagreat", sum := "11e021f18bd5942a2c7d17c848799daead09c14bebc27cb64ea5356e76b0e761", func := "paravane/paravanelaw03.TowApart", spec := "towApart", unfollowed := true, recurses := true, plainKeys := false, apart := false }
def TowApartSaid : Prop := towApartRow.holds Tryz.pinned (OpenSpec.ofChange towApartSpec)

/-- ITS FALSE NEIGHBOUR: 'it returns false'. Refute it at one input. -/
def towApartWrong : ChangeSpec := { name := "towApart", fn := fun _ => fun
  | [d1, d2, d3] => { results := [.lit (.bool false)], args := [d1, d2, d3] }
  | _ => none }
def TowApartWrongFalsely : Prop := towApartRow.holds Tryz.pinned (OpenSpec.ofChange towApartWrong)

/-- 'paravanelaw03.TowClear': WHATEVER THE INPUT: true; the input reads as it did. -/
def towClearSpec : ChangeSpec := { name := "towClear", fn := fun _ => fun
  | [d1, d2, d3, d4] => { results := [.lit (.bool true)], args := [d1, d2, d3, d4] }
  | _ => none }
def towClearRow : OpenClaim := { program := "ytjiaepphnddpoaagreat", sum := "11e021f18bd5942a2c7d17c848799daead09c14bebc27cb64ea5356e76b0e761", func := "paravane/paravanelaw03.TowClear", spec := "towClear", unfollowed := true, recurses := true, plainKeys := false, apart := false }
def TowClearSaid : Prop := towClearRow.holds Tryz.pinned (OpenSpec.ofChange towClearSpec)

/-- ITS FALSE NEIGHBOUR: 'it returns false'. Refute it at one input. -/
def towClearWrong : ChangeSpec := { name := "towClear", fn := fun _ => fun
  | [d1, d2, d3, d4] => { results := [.lit (.bool false)], args := [d1, d2, d3, d4] }
  | _ => none }
def TowClearWrongFalsely : Prop := towClearRow.holds Tryz.pinned (OpenSpec.ofChange towClearWrong)

/-- 'paravanelaw03.TowTangles': WHATEVER THE INPUT: true; the input reads as it did. -/
def towTanglesSpec : ChangeSpec := { name := "towTangles", fn := fun _ => fun
  | [d1, d2, d3] => { results := [.lit (.bool true)], args := [d1, d2, d3] }
  | _ => none }
def towTanglesRow : OpenClaim := { program := "ytjiaepphnddpoaagreat", sum := "11e021f18bd5942a2c7d17c848799daead09c14bebc27cb64ea5356e76b0e761", func := "paravane/paravanelaw03.TowTangles", spec := "towTangles", unfollowed := true, recurses := true, plainKeys := false, apart := false }
def TowTanglesSaid : Prop := towTanglesRow.holds Tryz.pinned (OpenSpec.ofChange towTanglesSpec)

/-- ITS FALSE NEIGHBOUR: 'it returns false'. Refute it at one input. -/
def towTanglesWrong : ChangeSpec := { name := "towTangles", fn := fun _ => fun
  | [d1, d2, d3] => { results := [.lit (.bool false)], args := [d1, d2, d3] }
  | _ => none }
def TowTanglesWrongFalsely : Prop := towTanglesRow.holds Tryz.pinned (OpenSpec.ofChange towTanglesWrong)

/-- 'paravanelaw03.TowKnown': WHATEVER THE INPUT: true; the input reads as it did. -/
def towKnownSpec : ChangeSpec := { name := "towKnown", fn := fun _ => fun
  | [] => { results := [.lit (.bool true)], args := [] }
  | _ => none }
def towKnownRow : OpenClaim := { program := "ytjiaepphnddpoaagreat", sum := "11e021f18bd5942a2c7d17c848799daead09c14bebc27cb64ea5356e76b0e761", func := "paravane/paravanelaw03.TowKnown", spec := "towKnown", unfollowed := true, recurses := true, plainKeys := false, apart := false }
def TowKnownSaid : Prop := towKnownRow.holds Tryz.pinned (OpenSpec.ofChange towKnownSpec)

/-- ITS FALSE NEIGHBOUR: 'it returns false'. Refute it at one input. -/
def towKnownWrong : ChangeSpec := { name := "towKnown", fn := fun _ => fun
  | [] => { results := [.lit (.bool false)], args := [] }
  | _ => none }
def TowKnownWrongFalsely : Prop := towKnownRow.holds Tryz.pinned (OpenSpec.ofChange towKnownWrong)

/- THE SECOND FORM. 'bulk': how many values and letters a reading holds, each counted each time it is reached (what is shared counts as often as it is met; a slice's spare places count too). A statement '..UptoSaid' is the law's where the arguments, and the package variables that the reading takes, are together of bulk at most 1048576: NARROWER than '..Said'. Prove '..Said' where nothing that the law and all that it calls make is longer than what came in: it says more and counts as full. Else prove '..UptoSaid'. A law counts once. -/
mutual
def uptoBulk {H : Type} : DataW H → Nat
  | .lit (.string bytes) => bytes.length + 1
  | .lit _ => 1
  | .nil => 1
  | .ptr d => uptoBulk d + 1
  | .slice elems spare => uptoBulkAll elems + uptoBulkAll spare + 1
  | .agg parts => uptoBulkAll parts + 1
  | .iface _ d => uptoBulk d + 1
  | .map entries => uptoBulkEntries entries + 1
  | .held _ => 1
def uptoBulkAll {H : Type} : List (DataW H) → Nat
  | [] => 0
  | d :: r => uptoBulk d + uptoBulkAll r
def uptoBulkEntries {H : Type} : List (Lit × DataW H) → Nat
  | [] => 0
  | x :: r => uptoBulkEntry x + uptoBulkEntries r
def uptoBulkEntry {H : Type} : Lit × DataW H → Nat
  | (.string bytes, d) => bytes.length + uptoBulk d + 1
  | (_, d) => uptoBulk d + 1
 end
def uptoSmall : (H : Type) → List (DataW H) → Bool := fun _ ds => decide (uptoBulkAll ds ≤ 1048576)
def OpenSpec.upto (s : _root_.Go.ChangeSpec) : _root_.Go.OpenSpec := { _root_.Go.OpenSpec.ofChange s with cond := some uptoSmall }

/-- 'paravanelaw03.TowWatches', WHERE WHAT IT READS IS OF BULK AT MOST 1048576: true; the input reads as it did. -/
def towWatchesUptoRow : OpenClaim := { program := "ytjiaepphnddpoaagreat", sum := "11e021f18bd5942a2c7d17c848799daead09c14bebc27cb64ea5356e76b0e761", func := "paravane/paravanelaw03.TowWatches", spec := "towWatches", unfollowed := true, recurses := true, plainKeys := false, apart := false, narrowed := true }
def TowWatchesUptoSaid : Prop := towWatchesUptoRow.holds Tryz.pinned (OpenSpec.upto towWatchesSpec)

/-- 'paravanelaw03.TowTurns', WHERE WHAT IT READS IS OF BULK AT MOST 1048576: true; the input reads as it did. -/
def towTurnsUptoRow : OpenClaim := { program := "ytjiaepphnddpoaagreat", sum := "11e021f18bd5942a2c7d17c848799daead09c14bebc27cb64ea5356e76b0e761", func := "paravane/paravanelaw03.TowTurns", spec := "towTurns", unfollowed := true, recurses := true, plainKeys := false, apart := false, narrowed := true }
def TowTurnsUptoSaid : Prop := towTurnsUptoRow.holds Tryz.pinned (OpenSpec.upto towTurnsSpec)

/-- 'paravanelaw03.TowPlans', WHERE WHAT IT READS IS OF BULK AT MOST 1048576: true; the input reads as it did. -/
def towPlansUptoRow : OpenClaim := { program := "ytjiaepphnddpoaagreat", sum := "11e021f18bd5942a2c7d17c848799daead09c14bebc27cb64ea5356e76b0e761", func := "paravane/paravanelaw03.TowPlans", spec := "towPlans", unfollowed := true, recurses := true, plainKeys := false, apart := false, narrowed := true }
def TowPlansUptoSaid : Prop := towPlansUptoRow.holds Tryz.pinned (OpenSpec.upto towPlansSpec)

/-- 'paravanelaw03.TowNodes', WHERE WHAT IT READS IS OF BULK AT MOST 1048576: true; the input reads as it did. -/
def towNodesUptoRow : OpenClaim := { program := "ytjiaepphnddpoaagreat", sum := "11e021f18bd5942a2c7d17c848799daead09c14bebc27cb64ea5356e76b0e761", func := "paravane/paravanelaw03.TowNodes", spec := "towNodes", unfollowed := true, recurses := true, plainKeys := false, apart := false, narrowed := true }
def TowNodesUptoSaid : Prop := towNodesUptoRow.holds Tryz.pinned (OpenSpec.upto towNodesSpec)

/-- 'paravanelaw03.TowApart', WHERE WHAT IT READS IS OF BULK AT MOST 1048576: true; the input reads as it did. -/
def towApartUptoRow : OpenClaim := { program := "ytjiaepphnddpoaagreat", sum := "11e021f18bd5942a2c7d17c848799daead09c14bebc27cb64ea5356e76b0e761", func := "paravane/paravanelaw03.TowApart", spec := "towApart", unfollowed := true, recurses := true, plainKeys := false, apart := false, narrowed := true }
def TowApartUptoSaid : Prop := towApartUptoRow.holds Tryz.pinned (OpenSpec.upto towApartSpec)

/-- 'paravanelaw03.TowClear', WHERE WHAT IT READS IS OF BULK AT MOST 1048576: true; the input reads as it did. -/
def towClearUptoRow : OpenClaim := { program := "ytjiaepphnddpoaagreat", sum := "11e021f18bd5942a2c7d17c848799daead09c14bebc27cb64ea5356e76b0e761", func := "paravane/paravanelaw03.TowClear", spec := "towClear", unfollowed := true, recurses := true, plainKeys := false, apart := false, narrowed := true }
def TowClearUptoSaid : Prop := towClearUptoRow.holds Tryz.pinned (OpenSpec.upto towClearSpec)

/-- 'paravanelaw03.TowTangles', WHERE WHAT IT READS IS OF BULK AT MOST 1048576: true; the input reads as it did. -/
def towTanglesUptoRow : OpenClaim := { program := "ytjiaepphnddpoaagreat", sum := "11e021f18bd5942a2c7d17c848799daead09c14bebc27cb64ea5356e76b0e761", func := "paravane/paravanelaw03.TowTangles", spec := "towTangles", unfollowed := true, recurses := true, plainKeys := false, apart := false, narrowed := true }
def TowTanglesUptoSaid : Prop := towTanglesUptoRow.holds Tryz.pinned (OpenSpec.upto towTanglesSpec)

/-- 'paravanelaw03.TowKnown', WHERE WHAT IT READS IS OF BULK AT MOST 1048576: true; the input reads as it did. -/
def towKnownUptoRow : OpenClaim := { program := "ytjiaepphnddpoaagreat", sum := "11e021f18bd5942a2c7d17c848799daead09c14bebc27cb64ea5356e76b0e761", func := "paravane/paravanelaw03.TowKnown", spec := "towKnown", unfollowed := true, recurses := true, plainKeys := false, apart := false, narrowed := true }
def TowKnownUptoSaid : Prop := towKnownUptoRow.holds Tryz.pinned (OpenSpec.upto towKnownSpec)

end Rows
end Go.Proofs.YtjiaepphnddpoaaGreat
