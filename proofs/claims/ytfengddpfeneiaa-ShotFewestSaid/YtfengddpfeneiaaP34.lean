/-
  ShotFewest: for every rules and results and every list and proof that are offered what Repeat returns is to be repeated, no list that is so is shorter than the bound of the proof or than what Repeat returns, the proof that Prove returns has that bound, and the examples hold. The law returns true and changes none of its arguments. Conditions: none beyond the form's own.
-/
import Derived.Test.YtfengddpfeneiaaRows
import Derived.Test.YtfengddpfeneiaaK15
import Derived.Test.YtfengddpfeneiaaRowO
namespace Go.Proofs.Ytfengddpfeneiaa
open Go.ChangeShapes Go.WideShapes Go.ChangeAt Go.RowKit Go.Deep
open Go.ChangeMaps (open_string shut_string)
set_option linter.unusedVariables false
set_option linter.unusedSimpArgs false

theorem own : ownKnob Try.prog.godebug = none := by kernel_rfl
theorem laidOut : laidOutB Try.prog = true := by kernel_rfl

set_option maxRecDepth 100000 in
theorem lifted_ShotFewest (os : Os) (started : os.Started) (H : Type) (enc : TypeId × Value → H) :
    ReturnsInHanded {} Try.checked os 20 .any (Rows.shotFewestSpec.pre6 enc Try.prog Try.f20 Rows.shotFewestRow.domain false) (Rows.shotFewestSpec.post enc Try.prog Try.f20 false true false false) := by
  refine returnsInHanded_of_change_sized (C := Try.checked) own started (by kernel_rfl) Try.func20
    (ChangeSpec.witness6 (enc := enc) (C := Try.checked) false ⟨#[], #[.agg #[.int .i64 0, .int .i64 0, .int .i64 0, .int .i64 0], .slice none 0 0, .agg #[.slice none 0 0, .slice none 0 0]], []⟩ 8 (by kernel_rfl) (by kernel_rfl) (by kernel_rfl) (by kernel_rfl)) ?_
  intro W base args ds gs before hval0 hW hcnd hsz0 _
  have hval : ∀ (j : Nat) t v, Try.f20.params[j]? = some t → args[j]? = some v → Value.okWide Try.prog W .any base t v := hval0
  have hsz : (DataW.weightsEach Try.prog (Try.f20.params.toList ++ Rows.shotFewestSpec.plain.varTypes Try.prog) (ds ++ gs)).all (· ≤ reachBytes) = true := hsz0
  have hW' := hW
  obtain ⟨p, q, hA0, hV, rfl, hfz, hnd⟩ := hW
  have hA : DataW.TrodAll enc Try.prog W 0 (fun _ => true) true Try.f20.params.toList args.toList ds p := hA0
  rw [Try.params20] at hA hval hsz
  obtain ⟨v0, vs0, d0_, ds0, p0, q0, hargs, rfl, rfl, h0, r0⟩ := trodAll_cons hA
  obtain ⟨v1, vs1, d1_, ds1, p1, q1, rfl, rfl, rfl, h1, r1⟩ := trodAll_cons r0
  obtain ⟨v2, vs2, d2_, ds2, p2, q2, rfl, rfl, rfl, h2, r2⟩ := trodAll_cons r1
  obtain ⟨rfl, rfl, rfl⟩ := trodAll_nil r2
  obtain rfl : args = #[v0, v1, v2] := by cases args; simp_all
  obtain ⟨rfl, rfl⟩ := trodVars_none hV
  have k0 := h0
  have k1 := h1
  have k2 := h2
  have lt0 : ∀ x ∈ p0, x.block < W.heap.size := by obtain ⟨m, hm⟩ := k0; exact DataW.trod_lt m _ _ _ hm
  have lt1 : ∀ x ∈ p1, x.block < W.heap.size := by obtain ⟨m, hm⟩ := k1; exact DataW.trod_lt m _ _ _ hm
  have lt2 : ∀ x ∈ p2, x.block < W.heap.size := by obtain ⟨m, hm⟩ := k2; exact DataW.trod_lt m _ _ _ hm
  obtain ⟨r0_, rfl⟩ := row_rul (hval 0 57 v0 rfl rfl) h0
  obtain ⟨a1, n1, c1, rfl⟩ := okWide_slice Try.underlying22 (hval 1 22 v1 rfl rfl)
  obtain ⟨x1, hs1⟩ := row_ints hsz (j := 1) rfl rfl h1
  obtain ⟨a2, n2, c2, x2, b2, m2, e2, y2, rfl, hs2, hl2⟩ := row_offer hsz (j := 2) rfl rfl (hval 2 106 v2 rfl rfl) h2
  clear hA0 hval0
  refine (ShotFewest_any r0_ a1 a2 b2 n1 c1 n2 c2 m2 e2 x1 x2 y2 W hs1 hs2 hl2).mono fun e W' ⟨he, bel⟩ => ?_
  subst he
  exact ⟨_, rfl, _, _, _, [], _, [], hW', trodAll_mk1 (shut_bool Try.underlying4 _),
    (trodAll_cons_mk (Below.trod laidOut (by kernel_rfl) (of_decide_eq_true (by kernel_rfl)) k0 bel lt0)
    (trodAll_cons_mk (Below.trod laidOut (by kernel_rfl) (of_decide_eq_true (by kernel_rfl)) k1 bel lt1)
    (trodAll_cons_mk (Below.trod laidOut (by kernel_rfl) (of_decide_eq_true (by kernel_rfl)) k2 bel lt2) trodAll_mk0))), rfl, bel.frame _, fun h => by cases h⟩

theorem named_ShotFewest : Try.pinned.checked.prog.funcNamed Rows.shotFewestRow.func = some 20 := by kernel_rfl
theorem band {a b : Bool} (h : a = true) (k : b = true) : (a && b) = true := by rw [h, k]; rfl
set_option maxHeartbeats 4000000 in
theorem facts_ShotFewest : joinedFacts Try.pinned.checked.prog 20 Try.f20 Rows.shotFewestSpec Rows.shotFewestRow = true := by
  unfold joinedFacts
  iterate 31 (refine band ?_ (by as_aux_lemma => kernel_rfl))
  as_aux_lemma => kernel_rfl
theorem inst_ShotFewest : (Try.f20).isInstance Try.pinned.checked.prog Rows.shotFewestRow.origin Rows.shotFewestRow.targs := of_decide_eq_true (by kernel_rfl)
theorem wrap_ShotFewest : (Try.f20).isWrapper Try.pinned.checked.prog Rows.shotFewestRow.wrapper Rows.shotFewestRow.mainSum := by unfold Func.isWrapper; first | (rw [if_pos (by decide +kernel)]; kernel_rfl) | (rw [if_neg (by decide +kernel)]; exact ⟨rfl, rfl⟩)
theorem over_ShotFewest : Rows.shotFewestRow.holds Try.pinned (OpenSpec.ofChange Rows.shotFewestSpec) :=
  OpenClaim.holds_of_wide 20 Try.f20 rfl rfl rfl rfl rfl rfl rfl ⟨rfl, rfl, rfl, rfl, rfl⟩ rfl rfl rfl rfl rfl named_ShotFewest Try.func20 facts_ShotFewest
    inst_ShotFewest wrap_ShotFewest (fun os started H enc _ => lifted_ShotFewest os started H enc)

theorem ShotFewest_proved : Rows.ShotFewestSaid := over_ShotFewest
#print axioms ShotFewest_proved
end Go.Proofs.Ytfengddpfeneiaa
