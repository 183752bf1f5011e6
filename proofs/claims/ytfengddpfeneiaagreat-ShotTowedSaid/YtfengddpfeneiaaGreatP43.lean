/-
  ShotTowed: for every streamer, bounds, place and two numbers the nodes have come no way when a ship begins a line along an axis, and as far as it goes back they come later, and the examples hold. The law returns true and changes none of its arguments. Conditions: none beyond the form's own.
-/
import Derived.Test.YtfengddpfeneiaaGreatRows
import Derived.Test.YtfengddpfeneiaaGreatY15
import Derived.Test.YtfengddpfeneiaaGreatTN
namespace Go.Proofs.YtfengddpfeneiaaGreat
open Go.ChangeShapes Go.WideShapes Go.ChangeAt Go.RowKit Go.Deep
open Go.ChangeMaps (open_string shut_string)
set_option linter.unusedVariables false
set_option linter.unusedSimpArgs false

theorem own : ownKnob Tryz.prog.godebug = none := by kernel_rfl
theorem laidOut : laidOutB Tryz.prog = true := by kernel_rfl

set_option maxRecDepth 100000 in
theorem lifted_ShotTowed (os : Os) (started : os.Started) (H : Type) (enc : TypeId × Value → H) :
    ReturnsInHanded {} Tryz.checked os 6 .any (Rows.shotTowedSpec.pre6 enc Tryz.prog Tryz.f6 Rows.shotTowedRow.domain false) (Rows.shotTowedSpec.post enc Tryz.prog Tryz.f6 false true false false) := by
  refine returnsInHanded_of_change_sized (C := Tryz.checked) own started (by kernel_rfl) Tryz.func6
    (ChangeSpec.witness6 (enc := enc) (C := Tryz.checked) false ⟨#[], #[.agg #[.int .i64 0, .slice none 0 0, .int .i64 0, .int .i64 0, .int .i64 0], .slice none 0 0, .agg #[.int .i64 0, .int .i64 0], .agg #[.int .i64 0, .int .i64 0]], []⟩ 8 (by kernel_rfl) (by kernel_rfl) (by kernel_rfl) (by kernel_rfl)) ?_
  intro W base args ds gs before hval0 hW hcnd hsz0 _
  have hval : ∀ (j : Nat) t v, Tryz.f6.params[j]? = some t → args[j]? = some v → Value.okWide Tryz.prog W .any base t v := hval0
  have hsz : (DataW.weightsEach Tryz.prog (Tryz.f6.params.toList ++ Rows.shotTowedSpec.plain.varTypes Tryz.prog) (ds ++ gs)).all (· ≤ reachBytes) = true := hsz0
  have hW' := hW
  obtain ⟨p, q, hA0, hV, rfl, hfz, hnd⟩ := hW
  have hA : DataW.TrodAll enc Tryz.prog W 0 (fun _ => true) true Tryz.f6.params.toList args.toList ds p := hA0
  rw [Tryz.params6] at hA hval hsz
  obtain ⟨v0, vs0, d0_, ds0, p0, q0, hargs, rfl, rfl, h0, r0⟩ := trodAll_cons hA
  obtain ⟨v1, vs1, d1_, ds1, p1, q1, rfl, rfl, rfl, h1, r1⟩ := trodAll_cons r0
  obtain ⟨v2, vs2, d2_, ds2, p2, q2, rfl, rfl, rfl, h2, r2⟩ := trodAll_cons r1
  obtain ⟨v3, vs3, d3_, ds3, p3, q3, rfl, rfl, rfl, h3, r3⟩ := trodAll_cons r2
  obtain ⟨rfl, rfl, rfl⟩ := trodAll_nil r3
  obtain rfl : args = #[v0, v1, v2, v3] := by cases args; simp_all
  obtain ⟨rfl, rfl⟩ := trodVars_none hV
  have k0 := h0
  have k1 := h1
  have k2 := h2
  have k3 := h3
  have lt0 : ∀ x ∈ p0, x.block < W.heap.size := by obtain ⟨m, hm⟩ := k0; exact DataW.trod_lt m _ _ _ hm
  have lt1 : ∀ x ∈ p1, x.block < W.heap.size := by obtain ⟨m, hm⟩ := k1; exact DataW.trod_lt m _ _ _ hm
  have lt2 : ∀ x ∈ p2, x.block < W.heap.size := by obtain ⟨m, hm⟩ := k2; exact DataW.trod_lt m _ _ _ hm
  have lt3 : ∀ x ∈ p3, x.block < W.heap.size := by obtain ⟨m, hm⟩ := k3; exact DataW.trod_lt m _ _ _ hm
  obtain ⟨s0, a0, n0, c0, rfl, hs0⟩ := row_strm hsz (j := 0) rfl rfl (hval 0 63 v0 rfl rfl) h0
  obtain ⟨a1, n1, c1, x1, rfl, hs1⟩ := row_bnds_arg hsz (j := 1) rfl rfl (hval 1 29 v1 rfl rfl) h1
  obtain ⟨p2_, rfl⟩ := row_point (hval 2 23 v2 rfl rfl) h2
  obtain ⟨i3, k3_, rfl⟩ := row_arr2 (hval 3 64 v3 rfl rfl) h3
  clear hA0 hval0
  refine (ShotTowed_any s0 a0 a1 n0 c0 n1 c1 x1 p2_ i3 k3_ W hs0 hs1).mono fun e W' ⟨he, bel⟩ => ?_
  subst he
  exact ⟨_, rfl, _, _, _, [], _, [], hW', trodAll_mk1 (shut_bool Tryz.underlying4 _),
    (trodAll_cons_mk (Below.trod laidOut (by kernel_rfl) (of_decide_eq_true (by kernel_rfl)) k0 bel lt0)
    (trodAll_cons_mk (Below.trod laidOut (by kernel_rfl) (of_decide_eq_true (by kernel_rfl)) k1 bel lt1)
    (trodAll_cons_mk (Below.trod laidOut (by kernel_rfl) (of_decide_eq_true (by kernel_rfl)) k2 bel lt2)
    (trodAll_cons_mk (Below.trod laidOut (by kernel_rfl) (of_decide_eq_true (by kernel_rfl)) k3 bel lt3) trodAll_mk0)))), rfl, bel.frame _, fun h => by cases h⟩

theorem named_ShotTowed : Tryz.pinned.checked.prog.funcNamed Rows.shotTowedRow.func = some 6 := by kernel_rfl
theorem band {a b : Bool} (h : a = true) (k : b = true) : (a && b) = true := by rw [h, k]; rfl
set_option maxHeartbeats 4000000 in
theorem facts_ShotTowed : joinedFacts Tryz.pinned.checked.prog 6 Tryz.f6 Rows.shotTowedSpec Rows.shotTowedRow = true := by
  unfold joinedFacts
  iterate 31 (refine band ?_ (by as_aux_lemma => kernel_rfl))
  as_aux_lemma => kernel_rfl
theorem inst_ShotTowed : (Tryz.f6).isInstance Tryz.pinned.checked.prog Rows.shotTowedRow.origin Rows.shotTowedRow.targs := of_decide_eq_true (by kernel_rfl)
theorem wrap_ShotTowed : (Tryz.f6).isWrapper Tryz.pinned.checked.prog Rows.shotTowedRow.wrapper Rows.shotTowedRow.mainSum := by unfold Func.isWrapper; first | (rw [if_pos (by decide +kernel)]; kernel_rfl) | (rw [if_neg (by decide +kernel)]; exact ⟨rfl, rfl⟩)
theorem over_ShotTowed : Rows.shotTowedRow.holds Tryz.pinned (OpenSpec.ofChange Rows.shotTowedSpec) :=
  OpenClaim.holds_of_wide 6 Tryz.f6 rfl rfl rfl rfl rfl rfl rfl ⟨rfl, rfl, rfl, rfl, rfl⟩ rfl rfl rfl rfl rfl named_ShotTowed Tryz.func6 facts_ShotTowed
    inst_ShotTowed wrap_ShotTowed (fun os started H enc _ => lifted_ShotTowed os started H enc)

theorem ShotTowed_proved : Rows.ShotTowedSaid := over_ShotTowed
#print axioms ShotTowed_proved
end Go.Proofs.YtfengddpfeneiaaGreat
