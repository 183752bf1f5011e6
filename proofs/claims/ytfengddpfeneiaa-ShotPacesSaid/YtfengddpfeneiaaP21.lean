/-
  ShotPaces: for every firing no shot is weak at the pace that is returned, at the next one some is, and the examples hold. The law returns true and changes none of its arguments. Conditions: none beyond the form's own.
-/
import Derived.Test.YtfengddpfeneiaaRows
import Derived.Test.YtfengddpfeneiaaK1
import Derived.Test.YtfengddpfeneiaaRowS
namespace Go.Proofs.Ytfengddpfeneiaa
open Go.ChangeShapes Go.WideShapes Go.ChangeAt Go.RowKit Go.Deep
open Go.ChangeMaps (open_string shut_string)
set_option linter.unusedVariables false
set_option linter.unusedSimpArgs false

theorem own : ownKnob Try.prog.godebug = none := by kernel_rfl
theorem laidOut : laidOutB Try.prog = true := by kernel_rfl

set_option maxRecDepth 100000 in
theorem lifted_ShotPaces (os : Os) (started : os.Started) (H : Type) (enc : TypeId × Value → H) :
    ReturnsInHanded {} Try.checked os 13 .any (Rows.shotPacesSpec.pre6 enc Try.prog Try.f13 Rows.shotPacesRow.domain false) (Rows.shotPacesSpec.post enc Try.prog Try.f13 false true false false) := by
  refine returnsInHanded_of_change_sized (C := Try.checked) own started (by kernel_rfl) Try.func13
    (ChangeSpec.witness6 (enc := enc) (C := Try.checked) false ⟨#[], #[.agg #[.int .i64 0, .int .i64 0, .int .i64 0, .int .i64 0, .int .i64 0]], []⟩ 8 (by kernel_rfl) (by kernel_rfl) (by kernel_rfl) (by kernel_rfl)) ?_
  intro W base args ds gs before hval0 hW hcnd hsz0 _
  have hval : ∀ (j : Nat) t v, Try.f13.params[j]? = some t → args[j]? = some v → Value.okWide Try.prog W .any base t v := hval0
  have hsz : (DataW.weightsEach Try.prog (Try.f13.params.toList ++ Rows.shotPacesSpec.plain.varTypes Try.prog) (ds ++ gs)).all (· ≤ reachBytes) = true := hsz0
  have hW' := hW
  obtain ⟨p, q, hA0, hV, rfl, hfz, hnd⟩ := hW
  have hA : DataW.TrodAll enc Try.prog W 0 (fun _ => true) true Try.f13.params.toList args.toList ds p := hA0
  rw [Try.params13] at hA hval hsz
  obtain ⟨v0, vs0, d0_, ds0, p0, q0, hargs, rfl, rfl, h0, r0⟩ := trodAll_cons hA
  obtain ⟨rfl, rfl, rfl⟩ := trodAll_nil r0
  obtain rfl : args = #[v0] := by cases args; simp_all
  obtain ⟨rfl, rfl⟩ := trodVars_none hV
  have k0 := h0
  have lt0 : ∀ x ∈ p0, x.block < W.heap.size := by obtain ⟨m, hm⟩ := k0; exact DataW.trod_lt m _ _ _ hm
  obtain ⟨f0_, rfl⟩ := row_fir (hval 0 38 v0 rfl rfl) h0
  clear hA0 hval0
  refine (ShotPaces_any f0_ W).mono fun e W' ⟨he, bel⟩ => ?_
  subst he
  exact ⟨_, rfl, _, _, _, [], _, [], hW', trodAll_mk1 (shut_bool Try.underlying4 _),
    (trodAll_cons_mk (Below.trod laidOut (by kernel_rfl) (of_decide_eq_true (by kernel_rfl)) k0 bel lt0) trodAll_mk0), rfl, bel.frame _, fun h => by cases h⟩

theorem named_ShotPaces : Try.pinned.checked.prog.funcNamed Rows.shotPacesRow.func = some 13 := by kernel_rfl
theorem facts_ShotPaces : joinedFacts Try.pinned.checked.prog 13 Try.f13 Rows.shotPacesSpec Rows.shotPacesRow = true := by kernel_rfl
theorem inst_ShotPaces : (Try.f13).isInstance Try.pinned.checked.prog Rows.shotPacesRow.origin Rows.shotPacesRow.targs := of_decide_eq_true (by kernel_rfl)
theorem wrap_ShotPaces : (Try.f13).isWrapper Try.pinned.checked.prog Rows.shotPacesRow.wrapper Rows.shotPacesRow.mainSum := by unfold Func.isWrapper; first | (rw [if_pos (by decide +kernel)]; kernel_rfl) | (rw [if_neg (by decide +kernel)]; exact ⟨rfl, rfl⟩)
theorem over_ShotPaces : Rows.shotPacesRow.holds Try.pinned (OpenSpec.ofChange Rows.shotPacesSpec) :=
  OpenClaim.holds_of_wide 13 Try.f13 rfl rfl rfl rfl rfl rfl rfl ⟨rfl, rfl, rfl, rfl, rfl⟩ rfl rfl rfl rfl rfl named_ShotPaces Try.func13 facts_ShotPaces
    inst_ShotPaces wrap_ShotPaces (fun os started H enc _ => lifted_ShotPaces os started H enc)

theorem ShotPaces_proved : Rows.ShotPacesSaid := over_ShotPaces
#print axioms ShotPaces_proved
end Go.Proofs.Ytfengddpfeneiaa
