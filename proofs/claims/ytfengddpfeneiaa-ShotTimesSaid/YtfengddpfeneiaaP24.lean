/-
  ShotTimes: for every firing and bounds Times and Weak return what the chapter says, and the examples hold. The law returns true and changes none of its arguments. Conditions: none beyond the form's own.
-/
import Derived.Test.YtfengddpfeneiaaRows
import Derived.Test.YtfengddpfeneiaaK5
import Derived.Test.YtfengddpfeneiaaRowS
namespace Go.Proofs.Ytfengddpfeneiaa
open Go.ChangeShapes Go.WideShapes Go.ChangeAt Go.RowKit Go.Deep
open Go.ChangeMaps (open_string shut_string)
set_option linter.unusedVariables false
set_option linter.unusedSimpArgs false

theorem own : ownKnob Try.prog.godebug = none := by kernel_rfl
theorem laidOut : laidOutB Try.prog = true := by kernel_rfl

set_option maxRecDepth 100000 in
theorem lifted_ShotTimes (os : Os) (started : os.Started) (H : Type) (enc : TypeId × Value → H) :
    ReturnsInHanded {} Try.checked os 6 .any (Rows.shotTimesSpec.pre6 enc Try.prog Try.f6 Rows.shotTimesRow.domain false) (Rows.shotTimesSpec.post enc Try.prog Try.f6 false true false false) := by
  refine returnsInHanded_of_change_sized (C := Try.checked) own started (by kernel_rfl) Try.func6
    (ChangeSpec.witness6 (enc := enc) (C := Try.checked) false ⟨#[], #[.agg #[.int .i64 0, .int .i64 0, .int .i64 0, .int .i64 0, .int .i64 0], .slice none 0 0], []⟩ 8 (by kernel_rfl) (by kernel_rfl) (by kernel_rfl) (by kernel_rfl)) ?_
  intro W base args ds gs before hval0 hW hcnd hsz0 _
  have hval : ∀ (j : Nat) t v, Try.f6.params[j]? = some t → args[j]? = some v → Value.okWide Try.prog W .any base t v := hval0
  have hsz : (DataW.weightsEach Try.prog (Try.f6.params.toList ++ Rows.shotTimesSpec.plain.varTypes Try.prog) (ds ++ gs)).all (· ≤ reachBytes) = true := hsz0
  have hW' := hW
  obtain ⟨p, q, hA0, hV, rfl, hfz, hnd⟩ := hW
  have hA : DataW.TrodAll enc Try.prog W 0 (fun _ => true) true Try.f6.params.toList args.toList ds p := hA0
  rw [Try.params6] at hA hval hsz
  obtain ⟨v0, vs0, d0_, ds0, p0, q0, hargs, rfl, rfl, h0, r0⟩ := trodAll_cons hA
  obtain ⟨v1, vs1, d1_, ds1, p1, q1, rfl, rfl, rfl, h1, r1⟩ := trodAll_cons r0
  obtain ⟨rfl, rfl, rfl⟩ := trodAll_nil r1
  obtain rfl : args = #[v0, v1] := by cases args; simp_all
  obtain ⟨rfl, rfl⟩ := trodVars_none hV
  have k0 := h0
  have k1 := h1
  have lt0 : ∀ x ∈ p0, x.block < W.heap.size := by obtain ⟨m, hm⟩ := k0; exact DataW.trod_lt m _ _ _ hm
  have lt1 : ∀ x ∈ p1, x.block < W.heap.size := by obtain ⟨m, hm⟩ := k1; exact DataW.trod_lt m _ _ _ hm
  obtain ⟨f0_, rfl⟩ := row_fir (hval 0 38 v0 rfl rfl) h0
  obtain ⟨a1, n1, c1, x1, rfl, hs1⟩ := row_bnds_arg hsz (j := 1) rfl rfl (hval 1 47 v1 rfl rfl) h1
  clear hA0 hval0
  refine (ShotTimes_any f0_ a1 n1 c1 x1 W hs1).mono fun e W' ⟨he, bel⟩ => ?_
  subst he
  exact ⟨_, rfl, _, _, _, [], _, [], hW', trodAll_mk1 (shut_bool Try.underlying4 _),
    (trodAll_cons_mk (Below.trod laidOut (by kernel_rfl) (of_decide_eq_true (by kernel_rfl)) k0 bel lt0)
    (trodAll_cons_mk (Below.trod laidOut (by kernel_rfl) (of_decide_eq_true (by kernel_rfl)) k1 bel lt1) trodAll_mk0)), rfl, bel.frame _, fun h => by cases h⟩

theorem named_ShotTimes : Try.pinned.checked.prog.funcNamed Rows.shotTimesRow.func = some 6 := by kernel_rfl
theorem facts_ShotTimes : joinedFacts Try.pinned.checked.prog 6 Try.f6 Rows.shotTimesSpec Rows.shotTimesRow = true := by kernel_rfl
theorem inst_ShotTimes : (Try.f6).isInstance Try.pinned.checked.prog Rows.shotTimesRow.origin Rows.shotTimesRow.targs := of_decide_eq_true (by kernel_rfl)
theorem wrap_ShotTimes : (Try.f6).isWrapper Try.pinned.checked.prog Rows.shotTimesRow.wrapper Rows.shotTimesRow.mainSum := by unfold Func.isWrapper; first | (rw [if_pos (by decide +kernel)]; kernel_rfl) | (rw [if_neg (by decide +kernel)]; exact ⟨rfl, rfl⟩)
theorem over_ShotTimes : Rows.shotTimesRow.holds Try.pinned (OpenSpec.ofChange Rows.shotTimesSpec) :=
  OpenClaim.holds_of_wide 6 Try.f6 rfl rfl rfl rfl rfl rfl rfl ⟨rfl, rfl, rfl, rfl, rfl⟩ rfl rfl rfl rfl rfl named_ShotTimes Try.func6 facts_ShotTimes
    inst_ShotTimes wrap_ShotTimes (fun os started H enc _ => lifted_ShotTimes os started H enc)

theorem ShotTimes_proved : Rows.ShotTimesSaid := over_ShotTimes
#print axioms ShotTimes_proved
end Go.Proofs.Ytfengddpfeneiaa
