/-
  ShotWorst: for every array Worst returns what the chapter says, and the examples hold. The law returns true and changes none of its arguments. Conditions: none beyond the form's own.
-/
import Derived.Test.YtfengddpfeneiaaRows
import Derived.Test.YtfengddpfeneiaaK17
import Derived.Test.YtfengddpfeneiaaRowS
namespace Go.Proofs.Ytfengddpfeneiaa
open Go.ChangeShapes Go.WideShapes Go.ChangeAt Go.RowKit Go.Deep
open Go.ChangeMaps (open_string shut_string)
set_option linter.unusedVariables false
set_option linter.unusedSimpArgs false

theorem own : ownKnob Try.prog.godebug = none := by kernel_rfl
theorem laidOut : laidOutB Try.prog = true := by kernel_rfl

set_option maxRecDepth 100000 in
theorem lifted_ShotWorst (os : Os) (started : os.Started) (H : Type) (enc : TypeId × Value → H) :
    ReturnsInHanded {} Try.checked os 3 .any (Rows.shotWorstSpec.pre6 enc Try.prog Try.f3 Rows.shotWorstRow.domain false) (Rows.shotWorstSpec.post enc Try.prog Try.f3 false true false false) := by
  refine returnsInHanded_of_change_sized (C := Try.checked) own started (by kernel_rfl) Try.func3
    (ChangeSpec.witness6 (enc := enc) (C := Try.checked) false ⟨#[], #[.agg #[.slice none 0 0, .slice none 0 0]], []⟩ 8 (by kernel_rfl) (by kernel_rfl) (by kernel_rfl) (by kernel_rfl)) ?_
  intro W base args ds gs before hval0 hW hcnd hsz0 _
  have hval : ∀ (j : Nat) t v, Try.f3.params[j]? = some t → args[j]? = some v → Value.okWide Try.prog W .any base t v := hval0
  have hsz : (DataW.weightsEach Try.prog (Try.f3.params.toList ++ Rows.shotWorstSpec.plain.varTypes Try.prog) (ds ++ gs)).all (· ≤ reachBytes) = true := hsz0
  have hW' := hW
  obtain ⟨p, q, hA0, hV, rfl, hfz, hnd⟩ := hW
  have hA : DataW.TrodAll enc Try.prog W 0 (fun _ => true) true Try.f3.params.toList args.toList ds p := hA0
  rw [Try.params3] at hA hval hsz
  obtain ⟨v0, vs0, d0_, ds0, p0, q0, hargs, rfl, rfl, h0, r0⟩ := trodAll_cons hA
  obtain ⟨rfl, rfl, rfl⟩ := trodAll_nil r0
  obtain rfl : args = #[v0] := by cases args; simp_all
  obtain ⟨rfl, rfl⟩ := trodVars_none hV
  have k0 := h0
  have lt0 : ∀ x ∈ p0, x.block < W.heap.size := by obtain ⟨m, hm⟩ := k0; exact DataW.trod_lt m _ _ _ hm
  obtain ⟨x0, a0, n0, c0, b0, m0, e0, rfl, hs0, hl0⟩ := row_arr hsz (j := 0) rfl rfl (hval 0 25 v0 rfl rfl) h0
  clear hA0 hval0
  refine (ShotWorst_any x0 a0 b0 n0 c0 m0 e0 W hs0 hl0).mono fun e W' ⟨he, bel⟩ => ?_
  subst he
  exact ⟨_, rfl, _, _, _, [], _, [], hW', trodAll_mk1 (shut_bool Try.underlying4 _),
    (trodAll_cons_mk (Below.trod laidOut (by kernel_rfl) (of_decide_eq_true (by kernel_rfl)) k0 bel lt0) trodAll_mk0), rfl, bel.frame _, fun h => by cases h⟩

theorem named_ShotWorst : Try.pinned.checked.prog.funcNamed Rows.shotWorstRow.func = some 3 := by kernel_rfl
theorem band {a b : Bool} (h : a = true) (k : b = true) : (a && b) = true := by rw [h, k]; rfl
set_option maxHeartbeats 4000000 in
theorem facts_ShotWorst : joinedFacts Try.pinned.checked.prog 3 Try.f3 Rows.shotWorstSpec Rows.shotWorstRow = true := by
  unfold joinedFacts
  iterate 31 (refine band ?_ (by as_aux_lemma => kernel_rfl))
  as_aux_lemma => kernel_rfl
theorem inst_ShotWorst : (Try.f3).isInstance Try.pinned.checked.prog Rows.shotWorstRow.origin Rows.shotWorstRow.targs := of_decide_eq_true (by kernel_rfl)
theorem wrap_ShotWorst : (Try.f3).isWrapper Try.pinned.checked.prog Rows.shotWorstRow.wrapper Rows.shotWorstRow.mainSum := by unfold Func.isWrapper; first | (rw [if_pos (by decide +kernel)]; kernel_rfl) | (rw [if_neg (by decide +kernel)]; exact ⟨rfl, rfl⟩)
theorem over_ShotWorst : Rows.shotWorstRow.holds Try.pinned (OpenSpec.ofChange Rows.shotWorstSpec) :=
  OpenClaim.holds_of_wide 3 Try.f3 rfl rfl rfl rfl rfl rfl rfl ⟨rfl, rfl, rfl, rfl, rfl⟩ rfl rfl rfl rfl rfl named_ShotWorst Try.func3 facts_ShotWorst
    inst_ShotWorst wrap_ShotWorst (fun os started H enc _ => lifted_ShotWorst os started H enc)

theorem ShotWorst_proved : Rows.ShotWorstSaid := over_ShotWorst
#print axioms ShotWorst_proved
end Go.Proofs.Ytfengddpfeneiaa
