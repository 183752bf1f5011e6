/-
  TopHastes: for every firing, streamer with bounds, waters, choices and plan a ship that goes with the fastest plan of speeds that keeps its streamer within its limits has fired at least as many shots as with any other plan that keeps them, and the examples hold. The law returns true and changes none of its arguments. Conditions: none beyond the form's own.
-/
import Derived.Test.YtcmbmmpihiekhaaGreatRows
import Derived.Test.YtcmbmmpihiekhaaGreatC32
import Derived.Test.YtcmbmmpihiekhaaGreatRowT
set_option maxRecDepth 100000
set_option maxHeartbeats 16000000
set_option linter.unusedSimpArgs false
set_option linter.unusedVariables false
namespace Go.Proofs.YtcmbmmpihiekhaaGreat
open Go.ChangeShapes Go.WideShapes Go.ChangeAt Go.RowKit Go.Deep
open Go.ChangeMaps (open_string shut_string)

theorem own : ownKnob Tryz.prog.godebug = none := by kernel_rfl
theorem laidOut : laidOutB Tryz.prog = true := by kernel_rfl

theorem lifted_TopHastes (os : Os) (started : os.Started) (H : Type) (enc : TypeId × Value → H) :
    ReturnsInHanded {} Tryz.checked os 3 .any (Rows.topHastesSpec.pre6 enc Tryz.prog Tryz.f3 Rows.topHastesRow.domain false) (Rows.topHastesSpec.post enc Tryz.prog Tryz.f3 false true false false) := by
  refine returnsInHanded_of_change_sized (C := Tryz.checked) own started (by kernel_rfl) Tryz.func3
    (ChangeSpec.witness6 (enc := enc) (C := Tryz.checked) false ⟨#[], #[.agg #[.int .i64 0, .int .i64 0, .int .i64 0, .int .i64 0, .int .i64 0], .agg #[.int .i64 0, .slice none 0 0, .int .i64 0, .int .i64 0, .int .i64 0, .slice none 0 0], .agg #[.slice none 0 0, .slice none 0 0, .slice none 0 0]], []⟩ 8 (by kernel_rfl) (by kernel_rfl) (by kernel_rfl) (by kernel_rfl)) ?_
  intro W base args ds gs before hval0 hW hcnd hsz0 _
  have hval : ∀ (j : Nat) t v, Tryz.f3.params[j]? = some t → args[j]? = some v → Value.okWide Tryz.prog W .any base t v := hval0
  have hsz : (DataW.weightsEach Tryz.prog (Tryz.f3.params.toList ++ Rows.topHastesSpec.plain.varTypes Tryz.prog) (ds ++ gs)).all (· ≤ reachBytes) = true := hsz0
  have hW' := hW
  obtain ⟨p, q, hA0, hV, rfl, hfz, hnd⟩ := hW
  have hA : DataW.TrodAll enc Tryz.prog W 0 (fun _ => true) true Tryz.f3.params.toList args.toList ds p := hA0
  rw [Tryz.params3] at hA hval hsz
  obtain ⟨v0, vs0, d0_, ds0, p0, q0, hargs, rfl, rfl, h0, r0⟩ := trodAll_cons hA
  obtain ⟨v1, vs1, d1_, ds1, p1, q1, rfl, rfl, rfl, h1, r1⟩ := trodAll_cons r0
  obtain ⟨v2, vs2, d2_, ds2, p2, q2, rfl, rfl, rfl, h2, r2⟩ := trodAll_cons r1
  obtain ⟨rfl, rfl, rfl⟩ := trodAll_nil r2
  obtain rfl : args = #[v0, v1, v2] := by cases args; simp_all
  obtain ⟨rfl, rfl⟩ := trodVars_none hV
  have k0 := h0
  have k1 := h1
  have k2 := h2
  have lt0 : ∀ x ∈ p0, x.block < W.heap.size := by obtain ⟨m, hm⟩ := k0; exact DataW.trod_lt m _ _ _ hm
  have lt1 : ∀ x ∈ p1, x.block < W.heap.size := by obtain ⟨m, hm⟩ := k1; exact DataW.trod_lt m _ _ _ hm
  have lt2 : ∀ x ∈ p2, x.block < W.heap.size := by obtain ⟨m, hm⟩ := k2; exact DataW.trod_lt m _ _ _ hm
  obtain ⟨f0_, rfl⟩ := row_fir (hval 0 23 v0 rfl rfl) h0
  obtain ⟨s1, a1, n1, c1, l1, b1, m1, e1, rfl, hs1, hl1⟩ := row_tail hsz (j := 1) rfl rfl (hval 1 31 v1 rfl rfl) h1
  obtain ⟨a2, n2, c2, x2, b2, m2, e2, y2, g2_, i2_, j2_, z2, rfl, hs2, hl2, hz2⟩ := row_race hsz (j := 2) rfl rfl (hval 2 35 v2 rfl rfl) h2
  clear hA0 hval0
  refine (TopHastes_any f0_ s1 a1 b1 a2 b2 g2_ n1 c1 m1 e1 n2 c2 m2 e2 i2_ j2_ l1 x2 y2 z2 W hs1 hl1 hs2 hl2 hz2).mono fun e W' ⟨he, bel⟩ => ?_
  subst he
  exact ⟨_, rfl, _, _, _, [], _, [], hW', trodAll_mk1 (shut_bool Tryz.underlying4 _),
    (trodAll_cons_mk (Below.trod laidOut (by kernel_rfl) (of_decide_eq_true (by kernel_rfl)) k0 bel lt0)
    (trodAll_cons_mk (Below.trod laidOut (by kernel_rfl) (of_decide_eq_true (by kernel_rfl)) k1 bel lt1)
    (trodAll_cons_mk (Below.trod laidOut (by kernel_rfl) (of_decide_eq_true (by kernel_rfl)) k2 bel lt2) trodAll_mk0))), rfl, bel.frame _, fun h => by cases h⟩

theorem named_TopHastes : Tryz.pinned.checked.prog.funcNamed Rows.topHastesRow.func = some 3 := by kernel_rfl
theorem band {a b : Bool} (h : a = true) (k : b = true) : (a && b) = true := by rw [h, k]; rfl
theorem facts_TopHastes : joinedFacts Tryz.pinned.checked.prog 3 Tryz.f3 Rows.topHastesSpec Rows.topHastesRow = true := by
  unfold joinedFacts
  iterate 31 (refine band ?_ (by as_aux_lemma => kernel_rfl))
  as_aux_lemma => kernel_rfl
theorem inst_TopHastes : (Tryz.f3).isInstance Tryz.pinned.checked.prog Rows.topHastesRow.origin Rows.topHastesRow.targs := of_decide_eq_true (by kernel_rfl)
theorem wrap_TopHastes : (Tryz.f3).isWrapper Tryz.pinned.checked.prog Rows.topHastesRow.wrapper Rows.topHastesRow.mainSum := by unfold Func.isWrapper; first | (rw [if_pos (by decide +kernel)]; kernel_rfl) | (rw [if_neg (by decide +kernel)]; exact ⟨rfl, rfl⟩)
theorem over_TopHastes : Rows.topHastesRow.holds Tryz.pinned (OpenSpec.ofChange Rows.topHastesSpec) :=
  OpenClaim.holds_of_wide 3 Tryz.f3 rfl rfl rfl rfl rfl rfl rfl ⟨rfl, rfl, rfl, rfl, rfl⟩ rfl rfl rfl rfl rfl named_TopHastes Tryz.func3 facts_TopHastes
    inst_TopHastes wrap_TopHastes (fun os started H enc _ => lifted_TopHastes os started H enc)

theorem TopHastes_proved : Rows.TopHastesSaid := over_TopHastes
#print axioms TopHastes_proved
end Go.Proofs.YtcmbmmpihiekhaaGreat
