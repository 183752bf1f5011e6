/-
  TowKnown: what is said of single streamers, waters and headings is so, and the examples hold. The law returns true and changes none of its arguments. Conditions: none beyond the form's own.
-/
import Derived.Test.YthjdjpcomocffaaGreatRows
import Derived.Test.YthjdjpcomocffaaGreatL20
import Derived.WalkKit
import Derived.ProofKit
import Derived.ChangeOld
import Derived.Below
import Derived.Deep.Slices
import Derived.Deep.Fields
import Derived.ChangeSame
import Derived.OpenShut
import Derived.ShutString
import Derived.SizedLaws
namespace Go.Proofs.YthjdjpcomocffaaGreat
open Go.ChangeShapes Go.WideShapes Go.ChangeAt Go.RowKit Go.Deep
open Go.ChangeMaps (open_string shut_string)
set_option linter.unusedVariables false
set_option linter.unusedSimpArgs false

theorem own : ownKnob Tryz.prog.godebug = none := by kernel_rfl
theorem laidOut : laidOutB Tryz.prog = true := by kernel_rfl

set_option maxRecDepth 100000 in
theorem lifted_TowKnown (os : Os) (started : os.Started) (H : Type) (enc : TypeId × Value → H) :
    ReturnsInHanded {} Tryz.checked os 3 .any (Rows.towKnownSpec.pre6 enc Tryz.prog Tryz.f3 Rows.towKnownRow.domain false) (Rows.towKnownSpec.post enc Tryz.prog Tryz.f3 false true false false) := by
  refine returnsInHanded_of_change_sized (C := Tryz.checked) own started (by kernel_rfl) Tryz.func3
    (ChangeSpec.witness6 (enc := enc) (C := Tryz.checked) false ⟨#[], #[], []⟩ 8 (by kernel_rfl) (by kernel_rfl) (by kernel_rfl) (by kernel_rfl)) ?_
  intro W base args ds gs before hval0 hW hcnd hsz0 _
  have hval : ∀ (j : Nat) t v, Tryz.f3.params[j]? = some t → args[j]? = some v → Value.okWide Tryz.prog W .any base t v := hval0
  have hsz : (DataW.weightsEach Tryz.prog (Tryz.f3.params.toList ++ Rows.towKnownSpec.plain.varTypes Tryz.prog) (ds ++ gs)).all (· ≤ reachBytes) = true := hsz0
  have hW' := hW
  obtain ⟨p, q, hA0, hV, rfl, hfz, hnd⟩ := hW
  have hA : DataW.TrodAll enc Tryz.prog W 0 (fun _ => true) true Tryz.f3.params.toList args.toList ds p := hA0
  rw [Tryz.params3] at hA hval hsz
  obtain ⟨hargs, rfl, rfl⟩ := trodAll_nil hA
  obtain rfl : args = #[] := by cases args; simp_all
  obtain ⟨rfl, rfl⟩ := trodVars_none hV
  clear hA0 hval0
  refine (TowKnown_any W).mono fun e W' ⟨he, bel⟩ => ?_
  subst he
  exact ⟨_, rfl, _, _, _, [], _, [], hW', trodAll_mk1 (shut_bool Tryz.underlying4 _),
    trodAll_mk0, rfl, bel.frame _, fun h => by cases h⟩

theorem named_TowKnown : Tryz.pinned.checked.prog.funcNamed Rows.towKnownRow.func = some 3 := by kernel_rfl
theorem band {a b : Bool} (h : a = true) (k : b = true) : (a && b) = true := by rw [h, k]; rfl
set_option maxHeartbeats 4000000 in
theorem facts_TowKnown : joinedFacts Tryz.pinned.checked.prog 3 Tryz.f3 Rows.towKnownSpec Rows.towKnownRow = true := by
  unfold joinedFacts
  iterate 31 (refine band ?_ (by as_aux_lemma => kernel_rfl))
  as_aux_lemma => kernel_rfl
theorem inst_TowKnown : (Tryz.f3).isInstance Tryz.pinned.checked.prog Rows.towKnownRow.origin Rows.towKnownRow.targs := of_decide_eq_true (by kernel_rfl)
theorem wrap_TowKnown : (Tryz.f3).isWrapper Tryz.pinned.checked.prog Rows.towKnownRow.wrapper Rows.towKnownRow.mainSum := by unfold Func.isWrapper; first | (rw [if_pos (by decide +kernel)]; kernel_rfl) | (rw [if_neg (by decide +kernel)]; exact ⟨rfl, rfl⟩)
theorem over_TowKnown : Rows.towKnownRow.holds Tryz.pinned (OpenSpec.ofChange Rows.towKnownSpec) :=
  OpenClaim.holds_of_wide 3 Tryz.f3 rfl rfl rfl rfl rfl rfl rfl ⟨rfl, rfl, rfl, rfl, rfl⟩ rfl rfl rfl rfl rfl named_TowKnown Tryz.func3 facts_TowKnown
    inst_TowKnown wrap_TowKnown (fun os started H enc _ => lifted_TowKnown os started H enc)

theorem TowKnown_proved : Rows.TowKnownSaid := over_TowKnown
#print axioms TowKnown_proved
end Go.Proofs.YthjdjpcomocffaaGreat
