/-
  Own texts for one claim, joined: P19.
-/
import Derived.Test.YtjiaepphnddpoaaGreatRows
import Derived.Deep.AppendLies
import Derived.WalkMore
import Derived.Maps.Own
import Derived.Maps.Views
import Derived.WideKeyPair
import Derived.Carry
import Derived.Deep.RegionHeld3
import Derived.Deep.RegionWith
import Derived.BigRegionIn
import Derived.Deep.QuietTactic
import Derived.BigQuiet
import Derived.Deep.RegionHeld3
import Derived.StillTailTactics
import Derived.Shelf.Abstract
import Derived.Test.YtjiaepphnddpoaaGreatChecked
import Derived.Shelf.Abstract
import Derived.Deep.QuietTactic
import Derived.BigQuiet
import Derived.Deep.RegionHeld3
import Derived.StillTailTactics
import Derived.Deep.AppendLies
import Derived.WalkMore
import Derived.WalkKit
import Derived.WalkSpells
import Derived.WalkLawsBesides
import Derived.Lib.Hide
import Derived.OrdersHeld
import Derived.StillTail
import Derived.StillTailTactics
import Derived.RangeFuncNested
import Derived.RangeFuncBound
import Derived.RangeFuncCalls
import Derived.RangeFuncLeaves
import Derived.Shelf.Abstract
import Derived.Shelf.RegionOpen
import Derived.OwnWalkIn
import Derived.TacticsInMore
import Derived.LoopNIn
import Derived.LoopIn
import Derived.OrdersIn
import Derived.Deep.Quiet
import Derived.Deep.QuietTactic
import Derived.BigQuiet
import Derived.Deep.QuietTactic
import Derived.LoopN
import Derived.Deep.RegionWith
import Derived.BigQuiet
import Derived.Deep.AppendLies
import Derived.ChangeKeysEq
import Derived.Deep.AppendLies
import Derived.Laws.AppendOwnNone
import Derived.Deep.AppendLies
import Derived.Deep.AppendLies
import Derived.Test.YtjiaepphnddpoaaGreatRows
import Derived.WalkKit
import Derived.ProofKit
import Derived.OpenShut
import Derived.ShutString
import Derived.ChangeOld
import Derived.Below
import Derived.SizedLaws
import Derived.Deep.Slices
import Derived.Deep.Fields
import Derived.ChangeSame
import Derived.Test.YtjiaepphnddpoaaGreatU01
import Derived.Test.YtjiaepphnddpoaaGreatU02
import Derived.Test.YtjiaepphnddpoaaGreatU03
import Derived.Test.YtjiaepphnddpoaaGreatU04
import Derived.Test.YtjiaepphnddpoaaGreatU05
import Derived.Test.YtjiaepphnddpoaaGreatU06
import Derived.Test.YtjiaepphnddpoaaGreatU07
import Derived.Test.YtjiaepphnddpoaaGreatU08
import Derived.Test.YtjiaepphnddpoaaGreatU09
import Derived.Test.YtjiaepphnddpoaaGreatU10
import Derived.Test.YtjiaepphnddpoaaGreatU11
import Derived.Test.YtjiaepphnddpoaaGreatU12
import Derived.Test.YtjiaepphnddpoaaGreatU13
import Derived.Test.YtjiaepphnddpoaaGreatU14
import Derived.Test.YtjiaepphnddpoaaGreatU15
namespace Go.Proofs.YtjiaepphnddpoaaGreat
open Go.ChangeShapes Go.WideShapes Go.ChangeAt Go.RowKit Go.Deep
open Go.ChangeMaps (open_string shut_string)
set_option linter.unusedVariables false
set_option linter.unusedSimpArgs false
theorem own : ownKnob Tryz.prog.godebug = none := by kernel_rfl
theorem laidOut : laidOutB Tryz.prog = true := by kernel_rfl
set_option maxRecDepth 100000 in
theorem lifted_TowApart (os : Os) (started : os.Started) (H : Type) (enc : TypeId × Value → H) :
    ReturnsInHanded {} Tryz.checked os 7 .any (Rows.towApartSpec.pre6 enc Tryz.prog Tryz.f7 Rows.towApartRow.domain false) (Rows.towApartSpec.post enc Tryz.prog Tryz.f7 false true false false) := by
  refine returnsInHanded_of_change_sized (C := Tryz.checked) own started (by kernel_rfl) Tryz.func7
    (ChangeSpec.witness6 (enc := enc) (C := Tryz.checked) false ⟨#[], #[.slice none 0 0, .agg #[.int .i64 0, .int .i64 0], .slice none 0 0], []⟩ 8 (by kernel_rfl) (by kernel_rfl) (by kernel_rfl) (by kernel_rfl)) ?_
  intro W base args ds gs before hval0 hW hcnd hsz0 _
  have hval : ∀ (j : Nat) t v, Tryz.f7.params[j]? = some t → args[j]? = some v → Value.okWide Tryz.prog W .any base t v := hval0
  have hsz : (DataW.weightsEach Tryz.prog (Tryz.f7.params.toList ++ Rows.towApartSpec.plain.varTypes Tryz.prog) (ds ++ gs)).all (· ≤ reachBytes) = true := hsz0
  have hW' := hW
  obtain ⟨p, q, hA0, hV, rfl, hfz, hnd⟩ := hW
  have hA : DataW.TrodAll enc Tryz.prog W 0 (fun _ => true) true Tryz.f7.params.toList args.toList ds p := hA0
  rw [Tryz.params7] at hA hval hsz
  obtain ⟨v0, vs0, d0_, ds0, p0, q0, hargs, rfl, rfl, h0, r0⟩ := trodAll_cons hA
  obtain ⟨v1, vs1, d1_, ds1, p1, q1, rfl, rfl, rfl, h1, r1⟩ := trodAll_cons r0
  obtain ⟨v2, vs2, d2_, ds2, p2, q2, rfl, rfl, rfl, h2, r2⟩ := trodAll_cons r1
  obtain ⟨rfl, rfl, rfl⟩ := trodAll_nil r2
  obtain rfl : args = #[v0, v1, v2] := by cases args; simp_all
  obtain ⟨rfl, rfl⟩ := trodVars_none hV
  have k0 := h0
  have k1 := h1
  have k2 := h2
  have lt0 : ∀ x ∈ p0, x.block < W.heap.size := by obtain ⟨m, hm⟩ := k0; exact DataW.trod_lt m _ _ _ hm
  have lt1 : ∀ x ∈ p1, x.block < W.heap.size := by obtain ⟨m, hm⟩ := k1; exact DataW.trod_lt m _ _ _ hm
  have lt2 : ∀ x ∈ p2, x.block < W.heap.size := by obtain ⟨m, hm⟩ := k2; exact DataW.trod_lt m _ _ _ hm
  obtain ⟨a0, n0, c0, x0, rfl, hb0, hs0⟩ := row_tails hsz (j := 0) rfl rfl (hval 0 68 v0 rfl rfl) h0
  obtain ⟨i1, k1_, rfl⟩ := row_arr2 (hval 1 69 v1 rfl rfl) h1
  obtain ⟨a2, n2, c2, rfl⟩ := okWide_slice Tryz.underlying31 (hval 2 31 v2 rfl rfl)
  obtain ⟨x2, hs2⟩ := row_ints hsz (j := 2) rfl rfl h2
  clear hA0 hval0
  refine (TowApart_any a0 a2 n0 c0 n2 c2 x0 i1 k1_ x2 W hb0 hs0 hs2).mono fun e W' ⟨he, bel⟩ => ?_
  subst he
  exact ⟨_, rfl, _, _, _, [], _, [], hW', trodAll_mk1 (shut_bool Tryz.underlying4 _),
    (trodAll_cons_mk (Below.trod laidOut (by kernel_rfl) (of_decide_eq_true (by kernel_rfl)) k0 bel lt0)
    (trodAll_cons_mk (Below.trod laidOut (by kernel_rfl) (of_decide_eq_true (by kernel_rfl)) k1 bel lt1)
    (trodAll_cons_mk (Below.trod laidOut (by kernel_rfl) (of_decide_eq_true (by kernel_rfl)) k2 bel lt2) trodAll_mk0))), rfl, bel.frame _, fun h => by cases h⟩
theorem over_TowApart : Rows.towApartRow.holds Tryz.pinned (OpenSpec.ofChange Rows.towApartSpec) :=
  OpenClaim.holds_of_wide 7 Tryz.f7 rfl rfl rfl rfl rfl rfl rfl ⟨rfl, rfl, rfl, rfl, rfl⟩ rfl rfl rfl rfl rfl (by kernel_rfl) Tryz.func7 (by kernel_rfl)
    (of_decide_eq_true (by kernel_rfl)) (by unfold Func.isWrapper; first | (rw [if_pos (by decide +kernel)]; kernel_rfl) | (rw [if_neg (by decide +kernel)]; exact ⟨rfl, rfl⟩))
    (fun os started H enc _ => lifted_TowApart os started H enc)
theorem TowApart_proved : Rows.TowApartSaid := over_TowApart
#print axioms TowApart_proved
end Go.Proofs.YtjiaepphnddpoaaGreat
