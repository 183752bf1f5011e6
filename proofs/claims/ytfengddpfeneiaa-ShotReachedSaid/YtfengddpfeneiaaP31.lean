/-
  ShotReached: for every array and number both ends of what a sample can be are reached by delays that lie in the array, and the examples hold. The law returns true and changes none of its arguments. Conditions: none beyond the form's own.
-/
import Derived.Test.YtfengddpfeneiaaRows
import Derived.Test.YtfengddpfeneiaaK11
import Derived.Test.YtfengddpfeneiaaRowS
namespace Go.Proofs.Ytfengddpfeneiaa
open Go.ChangeShapes Go.WideShapes Go.ChangeAt Go.RowKit Go.Deep
open Go.ChangeMaps (open_string shut_string)
set_option linter.unusedVariables false
set_option linter.unusedSimpArgs false

theorem own : ownKnob Try.prog.godebug = none := by kernel_rfl
theorem laidOut : laidOutB Try.prog = true := by kernel_rfl

set_option maxRecDepth 100000 in
theorem lifted_ShotReached (os : Os) (started : os.Started) (H : Type) (enc : TypeId × Value → H) :
    ReturnsInHanded {} Try.checked os 9 .any (Rows.shotReachedSpec.pre6 enc Try.prog Try.f9 Rows.shotReachedRow.domain false) (Rows.shotReachedSpec.post enc Try.prog Try.f9 false true false false) := by
  refine returnsInHanded_of_change_sized (C := Try.checked) own started (by kernel_rfl) Try.func9
    (ChangeSpec.witness6 (enc := enc) (C := Try.checked) false ⟨#[], #[.agg #[.slice none 0 0, .slice none 0 0], .int .i64 0], []⟩ 8 (by kernel_rfl) (by kernel_rfl) (by kernel_rfl) (by kernel_rfl)) ?_
  intro W base args ds gs before hval0 hW hcnd hsz0 _
  have hval : ∀ (j : Nat) t v, Try.f9.params[j]? = some t → args[j]? = some v → Value.okWide Try.prog W .any base t v := hval0
  have hsz : (DataW.weightsEach Try.prog (Try.f9.params.toList ++ Rows.shotReachedSpec.plain.varTypes Try.prog) (ds ++ gs)).all (· ≤ reachBytes) = true := hsz0
  have hW' := hW
  obtain ⟨p, q, hA0, hV, rfl, hfz, hnd⟩ := hW
  have hA : DataW.TrodAll enc Try.prog W 0 (fun _ => true) true Try.f9.params.toList args.toList ds p := hA0
  rw [Try.params9] at hA hval hsz
  obtain ⟨v0, vs0, d0_, ds0, p0, q0, hargs, rfl, rfl, h0, r0⟩ := trodAll_cons hA
  obtain ⟨v1, vs1, d1_, ds1, p1, q1, rfl, rfl, rfl, h1, r1⟩ := trodAll_cons r0
  obtain ⟨rfl, rfl, rfl⟩ := trodAll_nil r1
  obtain rfl : args = #[v0, v1] := by cases args; simp_all
  obtain ⟨rfl, rfl⟩ := trodVars_none hV
  have k0 := h0
  have k1 := h1
  have lt0 : ∀ x ∈ p0, x.block < W.heap.size := by obtain ⟨m, hm⟩ := k0; exact DataW.trod_lt m _ _ _ hm
  have lt1 : ∀ x ∈ p1, x.block < W.heap.size := by obtain ⟨m, hm⟩ := k1; exact DataW.trod_lt m _ _ _ hm
  obtain ⟨x0, a0, n0, c0, b0, m0, e0, rfl, hs0, hl0⟩ := row_arr hsz (j := 0) rfl rfl (hval 0 25 v0 rfl rfl) h0
  obtain ⟨i1, rfl⟩ := okWide_int Try.underlying3 (hval 1 3 v1 rfl rfl)
  clear hA0 hval0
  refine (ShotReached_any x0 a0 b0 n0 c0 m0 e0 i1 W hs0 hl0).mono fun e W' ⟨he, bel⟩ => ?_
  subst he
  exact ⟨_, rfl, _, _, _, [], _, [], hW', trodAll_mk1 (shut_bool Try.underlying4 _),
    (trodAll_cons_mk (Below.trod laidOut (by kernel_rfl) (of_decide_eq_true (by kernel_rfl)) k0 bel lt0)
    (trodAll_cons_mk (Below.trod laidOut (by kernel_rfl) (of_decide_eq_true (by kernel_rfl)) k1 bel lt1) trodAll_mk0)), rfl, bel.frame _, fun h => by cases h⟩

theorem named_ShotReached : Try.pinned.checked.prog.funcNamed Rows.shotReachedRow.func = some 9 := by kernel_rfl
theorem band {a b : Bool} (h : a = true) (k : b = true) : (a && b) = true := by rw [h, k]; rfl
set_option maxHeartbeats 4000000 in
theorem facts_ShotReached : joinedFacts Try.pinned.checked.prog 9 Try.f9 Rows.shotReachedSpec Rows.shotReachedRow = true := by
  unfold joinedFacts
  iterate 31 (refine band ?_ (by as_aux_lemma => kernel_rfl))
  as_aux_lemma => kernel_rfl
theorem inst_ShotReached : (Try.f9).isInstance Try.pinned.checked.prog Rows.shotReachedRow.origin Rows.shotReachedRow.targs := of_decide_eq_true (by kernel_rfl)
theorem wrap_ShotReached : (Try.f9).isWrapper Try.pinned.checked.prog Rows.shotReachedRow.wrapper Rows.shotReachedRow.mainSum := by unfold Func.isWrapper; first | (rw [if_pos (by decide +kernel)]; kernel_rfl) | (rw [if_neg (by decide +kernel)]; exact ⟨rfl, rfl⟩)
theorem over_ShotReached : Rows.shotReachedRow.holds Try.pinned (OpenSpec.ofChange Rows.shotReachedSpec) :=
  OpenClaim.holds_of_wide 9 Try.f9 rfl rfl rfl rfl rfl rfl rfl ⟨rfl, rfl, rfl, rfl, rfl⟩ rfl rfl rfl rfl rfl named_ShotReached Try.func9 facts_ShotReached
    inst_ShotReached wrap_ShotReached (fun os started H enc _ => lifted_ShotReached os started H enc)

theorem ShotReached_proved : Rows.ShotReachedSaid := over_ShotReached
#print axioms ShotReached_proved
end Go.Proofs.Ytfengddpfeneiaa
