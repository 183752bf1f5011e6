/-
  No cell of these rows narrows 'for every input' (looked for: loops, veiled, ifaces, maps, wideKeys, modest, calm, conditions, laid).
  DERIVED. THE GIVEN ROWS OF THIS SEAT. 4 by the template 'for every input the law returns true; each argument reads behind the call as it read before'; 0 by the template 'total and deterministic' (their statements: YtfengddpfeneiaaGreatTotals.lean).
  GIVEN WITH THE SEED: the statements are not yours to turn. If you find one false, say at which input.
  Laid BY PROGRAM, IN A SANDBOX (cutbox-rows.mjs): the forced cells as the released guide's own fill.sh prints them over the translation 44c4f02e1de07254… (all of the seat's roots in one cut). By AI agents, Wed Nov 11 2026. No macro, syntax, notation, axiom, sorry.
-/
import Derived.Test.YtfengddpfeneiaaGreatChecked
import GoSem.Claim
import GoSem.ClaimJoined
import GoSem.ClaimMapViews
import Derived.JoinedTies
import Derived.KernelRfl
namespace Go.Proofs.YtfengddpfeneiaaGreat
/- THE CELL 'sum', in the pinned program and in every row, IS THE sha256 OF THE DUMP (.gsa) THAT YtfengddpfeneiaaGreatProg.lean LOADS. Nothing in Lean hashes anything: it is a label: what it is worth is what the hold of that sum in a sandbox is worth. -/
noncomputable def Tryz.pinned : Pinned := { name := "ytfengddpfeneiaagreat", sum := "44c4f02e1de072549628cd790c4dbed7059b72846d083b826df23608187b056e", checked := Tryz.checked }
namespace Rows
def none {H : Type} : Left H := { results := [], args := [] }

/-- 'paravanelaw05.ShotWays': WHATEVER THE INPUT: true; the input reads as it did. -/
def shotWaysSpec : ChangeSpec := { name := "shotWays", fn := fun _ => fun
  | [d1, d2] => { results := [.lit (.bool true)], args := [d1, d2] }
  | _ => none }
def shotWaysRow : OpenClaim := { program := "ytfengddpfeneiaagreat", sum := "44c4f02e1de072549628cd790c4dbed7059b72846d083b826df23608187b056e", func := "paravane/paravanelaw05.ShotWays", spec := "shotWays", unfollowed := true, recurses := true, plainKeys := false, apart := false }
def ShotWaysSaid : Prop := shotWaysRow.holds Tryz.pinned (OpenSpec.ofChange shotWaysSpec)

/-- ITS FALSE NEIGHBOUR: 'it returns false'. Refute it at one input. -/
def shotWaysWrong : ChangeSpec := { name := "shotWays", fn := fun _ => fun
  | [d1, d2] => { results := [.lit (.bool false)], args := [d1, d2] }
  | _ => none }
def ShotWaysWrongFalsely : Prop := shotWaysRow.holds Tryz.pinned (OpenSpec.ofChange shotWaysWrong)

/-- 'paravanelaw05.ShotAlong': WHATEVER THE INPUT: true; the input reads as it did. -/
def shotAlongSpec : ChangeSpec := { name := "shotAlong", fn := fun _ => fun
  | [d1, d2, d3] => { results := [.lit (.bool true)], args := [d1, d2, d3] }
  | _ => none }
def shotAlongRow : OpenClaim := { program := "ytfengddpfeneiaagreat", sum := "44c4f02e1de072549628cd790c4dbed7059b72846d083b826df23608187b056e", func := "paravane/paravanelaw05.ShotAlong", spec := "shotAlong", unfollowed := true, recurses := true, plainKeys := false, apart := false }
def ShotAlongSaid : Prop := shotAlongRow.holds Tryz.pinned (OpenSpec.ofChange shotAlongSpec)

/-- ITS FALSE NEIGHBOUR: 'it returns false'. Refute it at one input. -/
def shotAlongWrong : ChangeSpec := { name := "shotAlong", fn := fun _ => fun
  | [d1, d2, d3] => { results := [.lit (.bool false)], args := [d1, d2, d3] }
  | _ => none }
def ShotAlongWrongFalsely : Prop := shotAlongRow.holds Tryz.pinned (OpenSpec.ofChange shotAlongWrong)

/-- 'paravanelaw05.ShotSteady': WHATEVER THE INPUT: true; the input reads as it did. -/
def shotSteadySpec : ChangeSpec := { name := "shotSteady", fn := fun _ => fun
  | [d1, d2, d3] => { results := [.lit (.bool true)], args := [d1, d2, d3] }
  | _ => none }
def shotSteadyRow : OpenClaim := { program := "ytfengddpfeneiaagreat", sum := "44c4f02e1de072549628cd790c4dbed7059b72846d083b826df23608187b056e", func := "paravane/paravanelaw05.ShotSteady", spec := "shotSteady", unfollowed := true, recurses := true, plainKeys := false, apart := false }
def ShotSteadySaid : Prop := shotSteadyRow.holds Tryz.pinned (OpenSpec.ofChange shotSteadySpec)

/-- ITS FALSE NEIGHBOUR: 'it returns false'. Refute it at one input. -/
def shotSteadyWrong : ChangeSpec := { name := "shotSteady", fn := fun _ => fun
  | [d1, d2, d3] => { results := [.lit (.bool false)], args := [d1, d2, d3] }
  | _ => none }
def ShotSteadyWrongFalsely : Prop := shotSteadyRow.holds Tryz.pinned (OpenSpec.ofChange shotSteadyWrong)

/-- 'paravanelaw05.ShotTowed': WHATEVER THE INPUT: true; the input reads as it did. -/
def shotTowedSpec : ChangeSpec := { name := "shotTowed", fn := fun _ => fun
  | [d1, d2, d3, d4] => { results := [.lit (.bool true)], args := [d1, d2, d3, d4] }
  | _ => none }
def shotTowedRow : OpenClaim := { program := "ytfengddpfeneiaagreat", sum := "44c4f02e1de072549628cd790c4dbed7059b72846d083b826df23608187b056e", func := "paravane/paravanelaw05.ShotTowed", spec := "shotTowed", unfollowed := true, recurses := true, plainKeys := false, apart := false }
def ShotTowedSaid : Prop := shotTowedRow.holds Tryz.pinned (OpenSpec.ofChange shotTowedSpec)

/-- ITS FALSE NEIGHBOUR: 'it returns false'. Refute it at one input. -/
def shotTowedWrong : ChangeSpec := { name := "shotTowed", fn := fun _ => fun
  | [d1, d2, d3, d4] => { results := [.lit (.bool false)], args := [d1, d2, d3, d4] }
  | _ => none }
def ShotTowedWrongFalsely : Prop := shotTowedRow.holds Tryz.pinned (OpenSpec.ofChange shotTowedWrong)

/- THE SECOND FORM. 'bulk': how many values and letters a reading holds, each counted each time it is reached (what is shared counts as often as it is met; a slice's spare places count too). A statement '..UptoSaid' is the law's where the arguments, and the package variables that the reading takes, are together of bulk at most 1048576: NARROWER than '..Said'. Prove '..Said' where nothing that the law and all that it calls make is longer than what came in: it says more and counts as full. Else prove '..UptoSaid'. A law counts once. -/
mutual
def uptoBulk {H : Type} : DataW H → Nat
  | .lit (.string bytes) => bytes.length + 1
  | .lit _ => 1
  | .nil => 1
  | .ptr d => uptoBulk d + 1
  | .slice elems spare => uptoBulkAll elems + uptoBulkAll spare + 1
  | .agg parts => uptoBulkAll parts + 1
  | .iface _ d => uptoBulk d + 1
  | .map entries => uptoBulkEntries entries + 1
  | .held _ => 1
def uptoBulkAll {H : Type} : List (DataW H) → Nat
  | [] => 0
  | d :: r => uptoBulk d + uptoBulkAll r
def uptoBulkEntries {H : Type} : List (Lit × DataW H) → Nat
  | [] => 0
  | x :: r => uptoBulkEntry x + uptoBulkEntries r
def uptoBulkEntry {H : Type} : Lit × DataW H → Nat
  | (.string bytes, d) => bytes.length + uptoBulk d + 1
  | (_, d) => uptoBulk d + 1
 end
def uptoSmall : (H : Type) → List (DataW H) → Bool := fun _ ds => decide (uptoBulkAll ds ≤ 1048576)
def OpenSpec.upto (s : _root_.Go.ChangeSpec) : _root_.Go.OpenSpec := { _root_.Go.OpenSpec.ofChange s with cond := some uptoSmall }

/-- 'paravanelaw05.ShotWays', WHERE WHAT IT READS IS OF BULK AT MOST 1048576: true; the input reads as it did. -/
def shotWaysUptoRow : OpenClaim := { program := "ytfengddpfeneiaagreat", sum := "44c4f02e1de072549628cd790c4dbed7059b72846d083b826df23608187b056e", func := "paravane/paravanelaw05.ShotWays", spec := "shotWays", unfollowed := true, recurses := true, plainKeys := false, apart := false, narrowed := true }
def ShotWaysUptoSaid : Prop := shotWaysUptoRow.holds Tryz.pinned (OpenSpec.upto shotWaysSpec)

/-- 'paravanelaw05.ShotAlong', WHERE WHAT IT READS IS OF BULK AT MOST 1048576: true; the input reads as it did. -/
def shotAlongUptoRow : OpenClaim := { program := "ytfengddpfeneiaagreat", sum := "44c4f02e1de072549628cd790c4dbed7059b72846d083b826df23608187b056e", func := "paravane/paravanelaw05.ShotAlong", spec := "shotAlong", unfollowed := true, recurses := true, plainKeys := false, apart := false, narrowed := true }
def ShotAlongUptoSaid : Prop := shotAlongUptoRow.holds Tryz.pinned (OpenSpec.upto shotAlongSpec)

/-- 'paravanelaw05.ShotSteady', WHERE WHAT IT READS IS OF BULK AT MOST 1048576: true; the input reads as it did. -/
def shotSteadyUptoRow : OpenClaim := { program := "ytfengddpfeneiaagreat", sum := "44c4f02e1de072549628cd790c4dbed7059b72846d083b826df23608187b056e", func := "paravane/paravanelaw05.ShotSteady", spec := "shotSteady", unfollowed := true, recurses := true, plainKeys := false, apart := false, narrowed := true }
def ShotSteadyUptoSaid : Prop := shotSteadyUptoRow.holds Tryz.pinned (OpenSpec.upto shotSteadySpec)

/-- 'paravanelaw05.ShotTowed', WHERE WHAT IT READS IS OF BULK AT MOST 1048576: true; the input reads as it did. -/
def shotTowedUptoRow : OpenClaim := { program := "ytfengddpfeneiaagreat", sum := "44c4f02e1de072549628cd790c4dbed7059b72846d083b826df23608187b056e", func := "paravane/paravanelaw05.ShotTowed", spec := "shotTowed", unfollowed := true, recurses := true, plainKeys := false, apart := false, narrowed := true }
def ShotTowedUptoSaid : Prop := shotTowedUptoRow.holds Tryz.pinned (OpenSpec.upto shotTowedSpec)

end Rows
end Go.Proofs.YtfengddpfeneiaaGreat
