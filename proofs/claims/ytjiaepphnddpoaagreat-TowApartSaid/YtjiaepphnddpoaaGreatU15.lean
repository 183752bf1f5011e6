/-
  Own texts for one claim, joined: L18 Row Row5 Row8.
-/
import Derived.Deep.AppendLies
import Derived.WalkMore
import Derived.Maps.Own
import Derived.Maps.Views
import Derived.WideKeyPair
import Derived.Carry
import Derived.Deep.RegionHeld3
import Derived.Deep.RegionWith
import Derived.BigRegionIn
import Derived.Deep.QuietTactic
import Derived.BigQuiet
import Derived.Deep.RegionHeld3
import Derived.StillTailTactics
import Derived.Shelf.Abstract
import Derived.Test.YtjiaepphnddpoaaGreatChecked
import Derived.Shelf.Abstract
import Derived.Deep.QuietTactic
import Derived.BigQuiet
import Derived.Deep.RegionHeld3
import Derived.StillTailTactics
import Derived.Deep.AppendLies
import Derived.WalkMore
import Derived.WalkKit
import Derived.WalkSpells
import Derived.WalkLawsBesides
import Derived.Lib.Hide
import Derived.OrdersHeld
import Derived.StillTail
import Derived.StillTailTactics
import Derived.RangeFuncNested
import Derived.RangeFuncBound
import Derived.RangeFuncCalls
import Derived.RangeFuncLeaves
import Derived.Shelf.Abstract
import Derived.Shelf.RegionOpen
import Derived.OwnWalkIn
import Derived.TacticsInMore
import Derived.LoopNIn
import Derived.LoopIn
import Derived.OrdersIn
import Derived.Deep.Quiet
import Derived.Deep.QuietTactic
import Derived.BigQuiet
import Derived.Deep.QuietTactic
import Derived.LoopN
import Derived.Deep.RegionWith
import Derived.BigQuiet
import Derived.Deep.AppendLies
import Derived.ChangeKeysEq
import Derived.Deep.AppendLies
import Derived.Laws.AppendOwnNone
import Derived.Deep.AppendLies
import Derived.Deep.AppendLies
import Derived.Test.YtjiaepphnddpoaaGreatRows
import Derived.ProofKit
import Derived.OpenShut
import Derived.ShutString
import Derived.ChangeOld
import Derived.Below
import Derived.SizedLaws
import Derived.Deep.Slices
import Derived.Deep.Fields
import Derived.ChangeSame
import Derived.Test.YtjiaepphnddpoaaGreatU01
import Derived.Test.YtjiaepphnddpoaaGreatU02
import Derived.Test.YtjiaepphnddpoaaGreatU03
import Derived.Test.YtjiaepphnddpoaaGreatU04
import Derived.Test.YtjiaepphnddpoaaGreatU05
import Derived.Test.YtjiaepphnddpoaaGreatU06
import Derived.Test.YtjiaepphnddpoaaGreatU07
import Derived.Test.YtjiaepphnddpoaaGreatU08
import Derived.Test.YtjiaepphnddpoaaGreatU09
import Derived.Test.YtjiaepphnddpoaaGreatU10
import Derived.Test.YtjiaepphnddpoaaGreatU11
import Derived.Test.YtjiaepphnddpoaaGreatU12
import Derived.Test.YtjiaepphnddpoaaGreatU13
import Derived.Test.YtjiaepphnddpoaaGreatU14
namespace Go.Proofs.YtjiaepphnddpoaaGreat
open Go.RowKit Go.Shelf
set_option linter.unusedSimpArgs false
set_option linter.unusedVariables false
theorem apprR_err {ds : List StD} {es : List BdD} {i k : Int} (h : (apprR ds es i k).2 ≠ 0) : (apprR ds es i k).1 = ⟨0, 0⟩ := by
  unfold apprR at *
  split
  · rename_i h1
    split
    · rename_i h2
      rw [if_pos h1, if_pos h2] at h; exact absurd rfl h
    · rfl
  · rfl
theorem apprR_ok {ds : List StD} {es : List BdD} {i k : Int} (h : (apprR ds es i k).2 = 0) : sprOk ds es = true ∧ twoOk ds i k = true ∧ apprR ds es i k = (appAt ds es i.toNat k.toNat, 0) := by
  unfold apprR at *
  by_cases h1 : sprOk ds es = true
  · by_cases h2 : twoOk ds i k = true
    · rw [if_pos h1, if_pos h2]; exact ⟨h1, h2, rfl⟩
    · rw [if_pos h1, if_neg h2] at h; cases h
  · rw [if_neg h1] at h; cases h
theorem appAt_same (ds : List StD) (es : List BdD) (i k : Nat) : appAt ds es i k = appAt ds es k i := by
  unfold appAt
  cases ds[i]? <;> cases es[i]? <;> cases ds[k]? <;> cases es[k]? <;> simp [app_same]
theorem apprR_flip {ds : List StD} {es : List BdD} {i k : Int} (h : (apprR ds es i k).2 = 0) : apprR ds es k i = apprR ds es i k := by
  obtain ⟨h1, h2, h3⟩ := apprR_ok h
  rw [h3, appAt_same]
  unfold apprR
  rw [if_pos h1, if_pos]
  unfold twoOk at *
  simp only [decide_eq_true_eq] at *
  omega
theorem laid_in {s : Strm} {bs : List Bnd} {bits : List Int} {fr : Int} (up : Bool) (h : errB s bs = 0) (hd : laidB s (insL bs bits fr) = true) :
    (laidL s (insL bs bits fr) up).length = (nodesL s bs).length ∧ ∀ (i : Nat) (x : Reg) (p : Pnt), (nodesL s bs)[i]? = some x → (laidL s (insL bs bits fr) up)[i]? = some p → inR p x ∧ okPnt p = true := by
  obtain ⟨ho, hb⟩ := errB_zero h
  have hl : (insL bs bits fr).length = bs.length := insL_len _ _ _
  refine ⟨by unfold laidL; rw [laidTo_len, hl, nodes_len], fun i x p hx hp => ?_⟩
  have hi : i < bs.length := by have := (List.getElem?_eq_some_iff.1 hx).1; rw [nodes_len] at this; exact this
  have h1 := laid_node up ho hb (insL_lies bits fr (okOffs_all hb)) hd (i := i) (by omega)
  rw [nodesL_at s bs hi] at hx
  rw [laidL_at s _ up (by omega)] at hp
  simp only [Option.some.injEq] at hx hp
  subst hx hp
  exact ⟨h1.2.2, h1.2.1⟩
set_option maxRecDepth 100000 in
set_option maxHeartbeats 4000000 in
theorem TowApart_any (A C : Option Addr) (n c nc cc : Nat) (ts : List TlD) (i0 i1 : Int) (bits : List Int) (w : World) (hnb : n * 80 ≤ 140737488355328) (hA : TlL w A n c ts) (hq : SlAt w 0 1 ivs C nc cc bits) :
    Calls Tryz.prog 7 #[.slice A n c, .agg #[.int .i64 i0, .int .i64 i1], .slice C nc cc] w fun e w' => e = .returned (.bool true) ∧ Below w.heap.size w w' := by
  obtain ⟨w1, hw1⟩ : ∃ w1, w1 = w.alloc (.cells #[.int .i64 i0, .int .i64 i1] 69) := ⟨_, rfl⟩
  have k3 : Blk w1 w.heap.size 69 #[.int .i64 i0, .int .i64 i1] := by rw [hw1]; exact Blk.new _ _ _
  have b : Below w.heap.size w w1 := by rw [hw1]; exact (Below.refl _ _).alloc (Nat.le_refl _) _
  replace hq : SlAt w1 0 1 ivs C nc cc bits := by rw [hw1]; exact hq.alloc _
  have hA1 : TlL w1 A n c ts := ⟨hA.1.below b, fun t ht => ⟨SlAt.below (hA.2 t ht).1 b, SlAt.below (hA.2 t ht).2 b⟩⟩
  have hnl := Lib.hid hA.1.len
  clear hA
  obtain ⟨ds, hds⟩ : ∃ x, ts.map (·.t) = x := ⟨_, rfl⟩
  obtain ⟨es, hes⟩ : ∃ x, ts.map (·.b) = x := ⟨_, rfl⟩
  have hdl : Hid (ds.length = n) := by show _ = _; rw [← hds, List.length_map]; exact hnl.out
  have hel : Hid (es.length = n) := by show _ = _; rw [← hes, List.length_map]; exact hnl.out
  have h0 := fun W h => split_any A n c ts W h hnb
  rw [hds, hes] at h0
  have h1 := fun P pc Q qc W h1 h2 => Approach_any P Q n pc n qc i0 i1 ds es W h1 h2
  have h2 := fun P pc Q qc W h1 h2 => Approach_any P Q n pc n qc i1 i0 ds es W h1 h2
  clear hds hes
  by_cases her : (apprR ds es i0 i1).2 = 0
  · obtain ⟨hsp, htw, hap⟩ := apprR_ok her
    rw [apprR_flip her] at h2
    rw [hap] at h1 h2
    unfold twoOk at htw
    have htw2 := of_decide_eq_true htw
    obtain ⟨i0, rfl⟩ : ∃ q : Nat, i0 = q := ⟨i0.toNat, by omega⟩
    obtain ⟨i1, rfl⟩ : ∃ q : Nat, i1 = q := ⟨i1.toNat, by omega⟩
    have hdl2 := hdl.out
    have j0 : i0 < n := by omega
    have j1 : i1 < n := by omega
    obtain ⟨d1, hd1⟩ := some_of_lt hdl.out j0
    obtain ⟨e1, he1⟩ := some_of_lt hel.out j0
    obtain ⟨d2, hd2⟩ := some_of_lt hdl.out j1
    obtain ⟨e2, he2⟩ := some_of_lt hel.out j1
    obtain ⟨-, -, hto⟩ := sprOk_iff hsp
    have hz1 := sprTo_at hto (by omega) hd1 he1
    have hz2 := sprTo_at hto (by omega) hd2 he2
    have hat : appAt ds es (i0 : Int).toNat (i1 : Int).toNat = appS (nodesL d1.s e1.bs) (nodesL d2.s e2.bs) := by
      unfold appAt
      simp only [Int.toNat_natCast, hd1, he1, hd2, he2]
    rw [hat] at h1 h2
    have hgo := Lib.hid hz1
    have hgo2 := Lib.hid hz2
    have hb1 := fun W => Between_any (i0 : Int) 0 ((n : Int) - 1) W
    have hb2 := fun W => Between_any (i1 : Int) 0 ((n : Int) - 1) W
    simp only [decide_eq_true (show 0 ≤ (i0 : Int) ∧ (i0 : Int) ≤ (n : Int) - 1 by omega)] at hb1
    simp only [decide_eq_true (show 0 ≤ (i1 : Int) ∧ (i1 : Int) ≤ (n : Int) - 1 by omega)] at hb2
    have u1 := IntWalk.i64_in ((n : Int) - 1) (by omega)
    have hV : Hid (∃ V, appS (nodesL d1.s e1.bs) (nodesL d2.s e2.bs) = V) := ⟨_, rfl⟩
    obtain ⟨V, hV⟩ := hV.out
    rw [hV] at h1 h2
    dsimp only at h1 h2
    have hV := Lib.hid hV
    have k00 : (0 : Int) ≤ (i0 : Int) := by omega
    have k01 : (0 : Int) ≤ (i1 : Int) := by omega
    have k02 : (i0 : Int) < (n : Int) := by omega
    have k03 : (i1 : Int) < (n : Int) := by omega
    clear hap her hsp htw htw2 hto hat hdl2 hnb hz1 hz2
    replace hd1 := Lib.hid hd1
    replace hd2 := Lib.hid hd2
    replace he1 := Lib.hid he1
    replace he2 := Lib.hid he2
    go_enter Tryz.func7, Tryz.ntmps7
    go_wp2_with fail
    rw [← hw1]
    clear hw1
    refine (h0 _ hA1).mono ?_
    rintro e W ⟨P, pc, Q, qc, rfl, hP, hQ, hbel⟩
    clear h0 hA1
    replace k3 := k3.below hbel
    replace b := b.trans (hbel.mono b.size)
    replace hq := hq.below hbel
    clear hbel
    obtain ⟨c3, f3, l3⟩ := k3.rules
    go_wp2_with fail
    clear c3 f3 l3
    refine (h1 _ _ _ _ _ hP hQ).mono ?_
    rintro e W ⟨rfl, hbel⟩
    clear h1
    replace k3 := k3.below hbel
    replace b := b.trans (hbel.mono b.size)
    replace hP := hP.below hbel
    replace hQ := hQ.below hbel
    replace hq := hq.below hbel
    clear hbel
    have k4 := Blk.new W 24 #[.int .i64 V.lo, .int .i64 V.hi]
    obtain ⟨c3, f3, l3⟩ := k3.rules
    go_wp2_with fail
    clear c3 f3 l3
    have hbel := (Below.refl W.heap.size W).alloc (Nat.le_refl _) (.cells #[.int .i64 V.lo, .int .i64 V.hi] 24)
    replace k3 := k3.below hbel
    replace b := b.trans (hbel.mono b.size)
    replace hP := hP.below hbel
    replace hQ := hQ.below hbel
    replace hq := hq.below hbel
    clear hbel
    generalize W.heap.size = g4 at *
    generalize W.alloc (.cells #[.int .i64 V.lo, .int .i64 V.hi] 24) = W4 at *
    obtain ⟨c3, f3, l3⟩ := k3.rules
    obtain ⟨c4, f4, l4⟩ := k4.rules
    try go_wp2_with fail
    clear c3 f3 l3 c4 f4 l4
    refine (h2 _ _ _ _ _ hP hQ).mono ?_
    rintro e W ⟨rfl, hbel⟩
    clear h2
    replace k4 := k4.below hbel
    try replace k5 := k5.below hbel
    replace k3 := k3.below hbel
    replace b := b.trans (hbel.mono b.size)
    replace hP := hP.below hbel
    replace hQ := hQ.below hbel
    replace hq := hq.below hbel
    clear hbel
    have k5 := Blk.new W 24 #[.int .i64 V.lo, .int .i64 V.hi]
    have hbel := (Below.refl W.heap.size W).alloc (Nat.le_refl _) (.cells #[.int .i64 V.lo, .int .i64 V.hi] 24)
    replace k4 := k4.below hbel
    have hP5 := hP
    have hQ5 := hQ
    replace k3 := k3.below hbel
    replace b := b.trans (hbel.mono b.size)
    replace hP := hP.below hbel
    replace hQ := hQ.below hbel
    replace hq := hq.below hbel
    clear hbel
    obtain ⟨c3, f3, l3⟩ := k3.rules
    obtain ⟨c4, f4, l4⟩ := k4.rules
    obtain ⟨c5, f5, l5⟩ := k5.rules
    go_wp2_with fail
    clear c3 f3 l3 c4 f4 l4 c5 f5 l5
    generalize W.heap.size = g5 at *
    generalize W.alloc (.cells #[.int .i64 V.lo, .int .i64 V.hi] 24) = W at *
    refine (hb1 _).mono ?_
    rintro e w' ⟨rfl, rfl⟩
    obtain ⟨c3, f3, l3⟩ := k3.rules
    go_wp2_with fail
    clear c3 f3 l3
    refine (hb2 _).mono ?_
    rintro e w' ⟨rfl, rfl⟩
    clear hb1 hb2 hP5 hQ5
    have hst1 := hP.2 d1 (List.mem_of_getElem? hd1.out)
    have hst2 := hP.2 d2 (List.mem_of_getElem? hd2.out)
    have hbt1 := hQ.2 e1 (List.mem_of_getElem? he1.out)
    have hbt2 := hQ.2 e2 (List.mem_of_getElem? he2.out)
    obtain ⟨bP, oP, hA1, -, hbP, z0, z1, z2, z3, z4⟩ := hP.1.std hd1.out
    obtain ⟨bP', oP', hA2, -, -, v0, v1, v2, v3, v4⟩ := hP.1.std hd2.out
    rw [hA1] at hA2
    simp only [Option.some.injEq, Addr.mk.injEq, and_true] at hA2
    obtain ⟨rfl, rfl⟩ := hA2
    obtain ⟨bQ, oQ, hB1, -, hbQ, y0⟩ := hQ.1.bdd he1.out
    obtain ⟨bQ', oQ', hB2, -, -, x0⟩ := hQ.1.bdd he2.out
    rw [hB1] at hB2
    simp only [Option.some.injEq, Addr.mk.injEq, and_true] at hB2
    obtain ⟨rfl, rfl⟩ := hB2
    subst hA1
    subst hB1
    unfold StOk at hst1 hst2
    unfold BdOk at hbt1 hbt2
    obtain ⟨ho1, hk1⟩ := errB_zero hgo.out
    obtain ⟨ho2, hk2⟩ := errB_zero hgo2.out
    have hn1 : d1.n = e1.n := by have := okOffs_len hk1; have := hst1.len; have := hbt1.len; omega
    have hn2 : d2.n = e2.n := by have := okOffs_len hk2; have := hst2.len; have := hbt2.len; omega
    have hp1 : 0 < d1.n := by have := ok_head ho1; unfold headOk at this; have := hst1.len; omega
    have hp2 : 0 < d2.n := by have := ok_head ho2; unfold headOk at this; have := hst2.len; omega
    have hin1 := fun W h1 h2 => inside_any e1.bs bits 0 e1.O C e1.n e1.c nc cc 0 0 W (by omega) (by omega) h1 h2
    have hin2 := fun W h1 h2 => inside_any e2.bs bits 5 e2.O C e2.n e2.c nc cc 0 0 W (by omega) (by omega) h1 h2
    have hla1 := fun R rc W h1 h2 => laid_any d1.s d1.A R d1.n d1.c rc 0 0 (insL e1.bs bits 0) true W ho1 ((insL_lies bits 0 (okOffs_all hk1)).range (okOffs_all hk1)) h1 h2
    have hla2 := fun R rc W h1 h2 => laid_any d2.s d2.A R d2.n d2.c rc 0 0 (insL e2.bs bits 5) false W ho2 ((insL_lies bits 5 (okOffs_all hk2)).range (okOffs_all hk2)) h1 h2
    unfold RetLaid at hla1 hla2
    rw [← hn1] at y0 hbt1 hin1
    rw [← hn2] at x0 hbt2 hin2
    have hl1 := Lib.hid (fun hd => laid_in (bits := bits) (fr := 0) true hgo.out hd)
    have hl2 := Lib.hid (fun hd => laid_in (bits := bits) (fr := 5) false hgo2.out hd)
    have hlq1 : Hid (e1.bs.length = d1.n) := by show _ = _; have := okOffs_len hk1; have := hst1.len; omega
    have hlq2 : Hid (e2.bs.length = d2.n) := by show _ = _; have := okOffs_len hk2; have := hst2.len; omega
    clear hn1 hn2 ho1 ho2 hk1 hk2
    have hS8 : Hid (∀ W', Below W.heap.size W W' → (fun w' : World => (∀ j, w'.cell? ⟨w.heap.size, j, none⟩ = #[Value.int .i64 (i0 : Int), .int .i64 (i1 : Int)][j]?) ∧ w'.cell? ⟨bP, oP + i0 * 5, none⟩ = some (.int .i64 d1.s.head) ∧ w'.cell? ⟨bP, oP + i0 * 5 + 1, none⟩ = some (.slice d1.A d1.n d1.c) ∧ w'.cell? ⟨bP, oP + i0 * 5 + 2, none⟩ = some (.int .i64 d1.s.lane.lo) ∧ w'.cell? ⟨bP, oP + i0 * 5 + 3, none⟩ = some (.int .i64 d1.s.lane.hi) ∧ w'.cell? ⟨bP, oP + i0 * 5 + 4, none⟩ = some (.int .i64 d1.s.bend) ∧ w'.cell? ⟨bQ, oQ + i0, none⟩ = some (.slice e1.O d1.n e1.c)) W') := by
      show ∀ _, _
      intro W' hbb
      exact ⟨(k3.below hbb).cell, (hbb.cell (p := ⟨bP, oP + i0 * 5, none⟩) hbP).trans z0, (hbb.cell (p := ⟨bP, oP + i0 * 5 + 1, none⟩) hbP).trans z1, (hbb.cell (p := ⟨bP, oP + i0 * 5 + 2, none⟩) hbP).trans z2, (hbb.cell (p := ⟨bP, oP + i0 * 5 + 3, none⟩) hbP).trans z3, (hbb.cell (p := ⟨bP, oP + i0 * 5 + 4, none⟩) hbP).trans z4, (hbb.cell (p := ⟨bQ, oQ + i0, none⟩) hbQ).trans y0⟩
    go_wp2_with fail
    refine wp_held_np (fun w' : World => (∀ j, w'.cell? ⟨w.heap.size, j, none⟩ = #[Value.int .i64 (i0 : Int), .int .i64 (i1 : Int)][j]?) ∧ w'.cell? ⟨bP, oP + i0 * 5, none⟩ = some (.int .i64 d1.s.head) ∧ w'.cell? ⟨bP, oP + i0 * 5 + 1, none⟩ = some (.slice d1.A d1.n d1.c) ∧ w'.cell? ⟨bP, oP + i0 * 5 + 2, none⟩ = some (.int .i64 d1.s.lane.lo) ∧ w'.cell? ⟨bP, oP + i0 * 5 + 3, none⟩ = some (.int .i64 d1.s.lane.hi) ∧ w'.cell? ⟨bP, oP + i0 * 5 + 4, none⟩ = some (.int .i64 d1.s.bend) ∧ w'.cell? ⟨bQ, oQ + i0, none⟩ = some (.slice e1.O d1.n e1.c)) (by kernel_rfl) ?_
    have hbw : Below W.heap.size W W.drew := (Below.refl _ _).drew
    have hS := hS8.out _ hbw
    generalize W.drew = wd at *
    refine held_take (i := 0) (v := ?_) 81 rfl rfl (by kernel_rfl) (by kernel_rfl) (by kernel_rfl) (fun _ _ _ h => h) (Or.inl ⟨by rfl, ?_⟩) hS ?_
    rotate_left 1
    · intro w' hSw
      try dsimp only at hSw
      obtain ⟨q0, z0, z1, z2, z3, z4, y0⟩ := hSw
      go_simp
      all_goals with_reducible rfl
    try simp only [Act.put, List.setIfInBounds_toArray, List.set_cons_zero, List.set_cons_succ]
    refine held_take (i := 1) (v := ?_) 82 rfl rfl (by kernel_rfl) (by kernel_rfl) (by kernel_rfl) (fun _ _ _ h => h) (Or.inl ⟨by rfl, ?_⟩) hS ?_
    rotate_left 1
    · intro w' hSw
      try dsimp only at hSw
      obtain ⟨q0, z0, z1, z2, z3, z4, y0⟩ := hSw
      go_simp
      all_goals with_reducible rfl
    try simp only [Act.put, List.setIfInBounds_toArray, List.set_cons_zero, List.set_cons_succ]
    refine held_take (i := 2) (v := ?_) 83 rfl rfl (by kernel_rfl) (by kernel_rfl) (by kernel_rfl) (fun _ _ _ h => h) (Or.inl ⟨by rfl, ?_⟩) hS ?_
    rotate_left 1
    · intro w' hSw
      try dsimp only at hSw
      obtain ⟨q0, z0, z1, z2, z3, z4, y0⟩ := hSw
      go_simp
      all_goals with_reducible rfl
    try simp only [Act.put, List.setIfInBounds_toArray, List.set_cons_zero, List.set_cons_succ]
    refine held_take (i := 3) (v := ?_) 84 rfl rfl (by kernel_rfl) (by kernel_rfl) (by kernel_rfl) (fun _ _ _ h => h) (Or.inl ⟨by rfl, ?_⟩) hS ?_
    rotate_left 1
    · intro w' hSw
      try dsimp only at hSw
      obtain ⟨q0, z0, z1, z2, z3, z4, y0⟩ := hSw
      go_simp
      all_goals with_reducible rfl
    try simp only [Act.put, List.setIfInBounds_toArray, List.set_cons_zero, List.set_cons_succ]
    refine held_take (i := 4) (v := ?_) 85 rfl rfl (by kernel_rfl) (by kernel_rfl) (by kernel_rfl) (fun _ _ _ h => h) (Or.inl ⟨by rfl, ?_⟩) hS ?_
    rotate_left 1
    · intro w' hSw
      try dsimp only at hSw
      obtain ⟨q0, z0, z1, z2, z3, z4, y0⟩ := hSw
      go_simp
      all_goals with_reducible rfl
    try simp only [Act.put, List.setIfInBounds_toArray, List.set_cons_zero, List.set_cons_succ]
    refine held_take (i := 5) (v := ?_) 86 rfl rfl (by kernel_rfl) (by kernel_rfl) (by kernel_rfl) (fun _ _ _ h => h) (Or.inl ⟨by rfl, ?_⟩) hS ?_
    rotate_left 1
    · intro w' hSw
      try dsimp only at hSw
      obtain ⟨q0, z0, z1, z2, z3, z4, y0⟩ := hSw
      go_simp
      all_goals with_reducible rfl
    try simp only [Act.put, List.setIfInBounds_toArray, List.set_cons_zero, List.set_cons_succ]
    refine held_take (i := 6) (v := ?_) 87 rfl rfl (by kernel_rfl) (by kernel_rfl) (by kernel_rfl) (fun _ _ _ h => h) (Or.inl ⟨by rfl, ?_⟩) hS ?_
    rotate_left 1
    · intro w' hSw
      try dsimp only at hSw
      obtain ⟨q0, z0, z1, z2, z3, z4, y0⟩ := hSw
      go_simp
      all_goals with_reducible rfl
    try simp only [Act.put, List.setIfInBounds_toArray, List.set_cons_zero, List.set_cons_succ]
    refine held_take (i := 7) (v := ?_) 88 rfl rfl (by kernel_rfl) (by kernel_rfl) (by kernel_rfl) (fun _ _ _ h => h) (Or.inl ⟨by rfl, ?_⟩) hS ?_
    rotate_left 1
    · intro w' hSw
      try dsimp only at hSw
      obtain ⟨q0, z0, z1, z2, z3, z4, y0⟩ := hSw
      go_simp
      all_goals with_reducible rfl
    try simp only [Act.put, List.setIfInBounds_toArray, List.set_cons_zero, List.set_cons_succ]
    refine held_take (i := 8) (v := ?_) 89 rfl rfl (by kernel_rfl) (by kernel_rfl) (by kernel_rfl) (fun _ _ _ h => h) (Or.inl ⟨by rfl, ?_⟩) hS ?_
    rotate_left 1
    · intro w' hSw
      try dsimp only at hSw
      obtain ⟨q0, z0, z1, z2, z3, z4, y0⟩ := hSw
      go_simp
      all_goals with_reducible rfl
    try simp only [Act.put, List.setIfInBounds_toArray, List.set_cons_zero, List.set_cons_succ]
    refine held_take (i := 9) (v := ?_) 90 rfl rfl (by kernel_rfl) (by kernel_rfl) (by kernel_rfl) (fun _ _ _ h => h) (Or.inl ⟨by rfl, ?_⟩) hS ?_
    rotate_left 1
    · intro w' hSw
      try dsimp only at hSw
      obtain ⟨q0, z0, z1, z2, z3, z4, y0⟩ := hSw
      go_simp
      all_goals with_reducible rfl
    try simp only [Act.put, List.setIfInBounds_toArray, List.set_cons_zero, List.set_cons_succ]
    refine held_take (i := 10) (v := ?_) 91 rfl rfl (by kernel_rfl) (by kernel_rfl) (by kernel_rfl) (fun _ _ _ h => h) (Or.inl ⟨by rfl, ?_⟩) hS ?_
    rotate_left 1
    · intro w' hSw
      try dsimp only at hSw
      obtain ⟨q0, z0, z1, z2, z3, z4, y0⟩ := hSw
      go_simp
      all_goals with_reducible rfl
    try simp only [Act.put, List.setIfInBounds_toArray, List.set_cons_zero, List.set_cons_succ]
    refine held_one (i := 11) (by kernel_rfl) rfl rfl (fun K hK => ?_)
    go_simp
    refine (hin1 _ (hbt1.below hbw) (hq.below hbw)).mono ?_
    rintro e W2 ⟨R1, rc, rfl, hr1, hbel⟩
    clear hS
    replace hbw := hbw.trans (hbel.mono hbw.size)
    replace hr1 := hr1.mono (Nat.zero_le _)
    have hS := hS8.out _ hbw
    refine hK _ _ hS ?_
    clear hK K hbel
    try simp only [Act.put, List.setIfInBounds_toArray, List.set_cons_zero, List.set_cons_succ]
    refine held_one (i := 12) (by kernel_rfl) rfl rfl (fun K hK => ?_)
    go_simp
    refine (hla1 _ _ _ (hst1.below hbw) hr1).mono ?_
    rintro e W3 ⟨R2, m2, rc2, rfl, hr2, hbel⟩
    clear hS hr1
    replace hbw := hbw.trans (hbel.mono hbw.size)
    replace hr2 := hr2.mono (Nat.zero_le _)
    have hS := hS8.out _ hbw
    refine hK _ _ hS ?_
    clear hK K hbel
    try simp only [Act.put, List.setIfInBounds_toArray, List.set_cons_zero, List.set_cons_succ]
    refine held_take (i := 13) (v := ?_) 80 rfl rfl (by kernel_rfl) (by kernel_rfl) (by kernel_rfl) (fun _ _ _ h => h) (Or.inl ⟨by rfl, ?_⟩) hS ?_
    rotate_left 1
    · intro w' hSw
      try dsimp only at hSw
      obtain ⟨q0, z0, z1, z2, z3, z4, y0⟩ := hSw
      go_simp
      all_goals with_reducible rfl
    try simp only [Act.put, List.setIfInBounds_toArray, List.set_cons_zero, List.set_cons_succ]
    refine held_take (i := 14) (v := ?_) 94 rfl rfl (by kernel_rfl) (by kernel_rfl) (by kernel_rfl) (fun _ _ _ h => h) (Or.inl ⟨by rfl, ?_⟩) hS ?_
    rotate_left 1
    · intro w' hSw
      try dsimp only at hSw
      obtain ⟨q0, z0, z1, z2, z3, z4, y0⟩ := hSw
      go_simp
      all_goals with_reducible rfl
    try simp only [Act.put, List.setIfInBounds_toArray, List.set_cons_zero, List.set_cons_succ]
    refine held_take (i := 15) (v := ?_) 95 rfl rfl (by kernel_rfl) (by kernel_rfl) (by kernel_rfl) (fun _ _ _ h => h) (Or.inl ⟨by rfl, ?_⟩) hS ?_
    rotate_left 1
    · intro w' hSw
      try dsimp only at hSw
      obtain ⟨q0, z0, z1, z2, z3, z4, y0⟩ := hSw
      go_simp
      all_goals with_reducible rfl
    try simp only [Act.put, List.setIfInBounds_toArray, List.set_cons_zero, List.set_cons_succ]
    refine held_take (i := 16) (v := ?_) 12 rfl rfl (by kernel_rfl) (by kernel_rfl) (by kernel_rfl) (fun _ _ _ h => h) (Or.inl ⟨by rfl, ?_⟩) hS ?_
    rotate_left 1
    · intro w' hSw
      try dsimp only at hSw
      obtain ⟨q0, z0, z1, z2, z3, z4, y0⟩ := hSw
      go_simp
      all_goals with_reducible rfl
    try simp only [Act.put, List.setIfInBounds_toArray, List.set_cons_zero, List.set_cons_succ]
    refine held_take (i := 17) (v := ?_) 13 rfl rfl (by kernel_rfl) (by kernel_rfl) (by kernel_rfl) (fun _ _ _ h => h) (Or.inl ⟨by rfl, ?_⟩) hS ?_
    rotate_left 1
    · intro w' hSw
      try dsimp only at hSw
      obtain ⟨q0, z0, z1, z2, z3, z4, y0⟩ := hSw
      go_simp
      all_goals with_reducible rfl
    try simp only [Act.put, List.setIfInBounds_toArray, List.set_cons_zero, List.set_cons_succ]
    refine wpAnyH_done (by kernel_rfl) (noPanic_normal ?_) _
    clear hS hS8
    try simp only [Act.put, List.setIfInBounds_toArray, List.set_cons_zero, List.set_cons_succ]
    replace k3 := k3.below hbw
    replace k4 := k4.below hbw
    replace b := b.trans (hbw.mono b.size)
    replace hq := hq.below hbw
    replace hst2 := hst2.below hbw
    replace hbt2 := hbt2.below hbw
    replace v0 := (hbw.cell (p := ⟨bP, oP + i1 * 5, none⟩) hbP).trans v0
    replace v1 := (hbw.cell (p := ⟨bP, oP + i1 * 5 + 1, none⟩) hbP).trans v1
    replace v2 := (hbw.cell (p := ⟨bP, oP + i1 * 5 + 2, none⟩) hbP).trans v2
    replace v3 := (hbw.cell (p := ⟨bP, oP + i1 * 5 + 3, none⟩) hbP).trans v3
    replace v4 := (hbw.cell (p := ⟨bP, oP + i1 * 5 + 4, none⟩) hbP).trans v4
    replace x0 := (hbw.cell (p := ⟨bQ, oQ + i1, none⟩) hbQ).trans x0
    replace hbP := Nat.lt_of_lt_of_le hbP hbw.size
    replace hbQ := Nat.lt_of_lt_of_le hbQ hbw.size
    clear hbw hst1 hbt1 hin1 hla1 z0 z1 z2 z3 z4 y0 k5 hP hQ
    have hrA := hr2
    clear hr2
    generalize W3 = W at *
    obtain ⟨RA, hRA⟩ : ∃ x, x = R2 := ⟨_, rfl⟩
    obtain ⟨mA, hmA⟩ : ∃ x, x = m2 := ⟨_, rfl⟩
    obtain ⟨cA, hcA⟩ : ∃ x, x = rc2 := ⟨_, rfl⟩
    rw [← hRA, ← hmA, ← hcA] at hrA
    rw [← hRA, ← hmA, ← hcA]
    clear hRA hmA hcA
    have hS8 : Hid (∀ W', Below W.heap.size W W' → (fun w' : World => (∀ j, w'.cell? ⟨w.heap.size, j, none⟩ = #[Value.int .i64 (i0 : Int), .int .i64 (i1 : Int)][j]?) ∧ w'.cell? ⟨bP, oP + i1 * 5, none⟩ = some (.int .i64 d2.s.head) ∧ w'.cell? ⟨bP, oP + i1 * 5 + 1, none⟩ = some (.slice d2.A d2.n d2.c) ∧ w'.cell? ⟨bP, oP + i1 * 5 + 2, none⟩ = some (.int .i64 d2.s.lane.lo) ∧ w'.cell? ⟨bP, oP + i1 * 5 + 3, none⟩ = some (.int .i64 d2.s.lane.hi) ∧ w'.cell? ⟨bP, oP + i1 * 5 + 4, none⟩ = some (.int .i64 d2.s.bend) ∧ w'.cell? ⟨bQ, oQ + i1, none⟩ = some (.slice e2.O d2.n e2.c)) W') := by
      show ∀ _, _
      intro W' hbb
      exact ⟨(k3.below hbb).cell, (hbb.cell (p := ⟨bP, oP + i1 * 5, none⟩) hbP).trans v0, (hbb.cell (p := ⟨bP, oP + i1 * 5 + 1, none⟩) hbP).trans v1, (hbb.cell (p := ⟨bP, oP + i1 * 5 + 2, none⟩) hbP).trans v2, (hbb.cell (p := ⟨bP, oP + i1 * 5 + 3, none⟩) hbP).trans v3, (hbb.cell (p := ⟨bP, oP + i1 * 5 + 4, none⟩) hbP).trans v4, (hbb.cell (p := ⟨bQ, oQ + i1, none⟩) hbQ).trans x0⟩
    go_wp2_with fail
    refine wp_held_np (fun w' : World => (∀ j, w'.cell? ⟨w.heap.size, j, none⟩ = #[Value.int .i64 (i0 : Int), .int .i64 (i1 : Int)][j]?) ∧ w'.cell? ⟨bP, oP + i1 * 5, none⟩ = some (.int .i64 d2.s.head) ∧ w'.cell? ⟨bP, oP + i1 * 5 + 1, none⟩ = some (.slice d2.A d2.n d2.c) ∧ w'.cell? ⟨bP, oP + i1 * 5 + 2, none⟩ = some (.int .i64 d2.s.lane.lo) ∧ w'.cell? ⟨bP, oP + i1 * 5 + 3, none⟩ = some (.int .i64 d2.s.lane.hi) ∧ w'.cell? ⟨bP, oP + i1 * 5 + 4, none⟩ = some (.int .i64 d2.s.bend) ∧ w'.cell? ⟨bQ, oQ + i1, none⟩ = some (.slice e2.O d2.n e2.c)) (by kernel_rfl) ?_
    have hbw : Below W.heap.size W W.drew := (Below.refl _ _).drew
    have hS := hS8.out _ hbw
    generalize W.drew = wd at *
    refine held_take (i := 0) (v := ?_) 97 rfl rfl (by kernel_rfl) (by kernel_rfl) (by kernel_rfl) (fun _ _ _ h => h) (Or.inl ⟨by rfl, ?_⟩) hS ?_
    rotate_left 1
    · intro w' hSw
      try dsimp only at hSw
      obtain ⟨q0, z0, z1, z2, z3, z4, y0⟩ := hSw
      go_simp
      all_goals with_reducible rfl
    try simp only [Act.put, List.setIfInBounds_toArray, List.set_cons_zero, List.set_cons_succ]
    refine held_take (i := 1) (v := ?_) 98 rfl rfl (by kernel_rfl) (by kernel_rfl) (by kernel_rfl) (fun _ _ _ h => h) (Or.inl ⟨by rfl, ?_⟩) hS ?_
    rotate_left 1
    · intro w' hSw
      try dsimp only at hSw
      obtain ⟨q0, z0, z1, z2, z3, z4, y0⟩ := hSw
      go_simp
      all_goals with_reducible rfl
    try simp only [Act.put, List.setIfInBounds_toArray, List.set_cons_zero, List.set_cons_succ]
    refine held_take (i := 2) (v := ?_) 99 rfl rfl (by kernel_rfl) (by kernel_rfl) (by kernel_rfl) (fun _ _ _ h => h) (Or.inl ⟨by rfl, ?_⟩) hS ?_
    rotate_left 1
    · intro w' hSw
      try dsimp only at hSw
      obtain ⟨q0, z0, z1, z2, z3, z4, y0⟩ := hSw
      go_simp
      all_goals with_reducible rfl
    try simp only [Act.put, List.setIfInBounds_toArray, List.set_cons_zero, List.set_cons_succ]
    refine held_take (i := 3) (v := ?_) 100 rfl rfl (by kernel_rfl) (by kernel_rfl) (by kernel_rfl) (fun _ _ _ h => h) (Or.inl ⟨by rfl, ?_⟩) hS ?_
    rotate_left 1
    · intro w' hSw
      try dsimp only at hSw
      obtain ⟨q0, z0, z1, z2, z3, z4, y0⟩ := hSw
      go_simp
      all_goals with_reducible rfl
    try simp only [Act.put, List.setIfInBounds_toArray, List.set_cons_zero, List.set_cons_succ]
    refine held_take (i := 4) (v := ?_) 101 rfl rfl (by kernel_rfl) (by kernel_rfl) (by kernel_rfl) (fun _ _ _ h => h) (Or.inl ⟨by rfl, ?_⟩) hS ?_
    rotate_left 1
    · intro w' hSw
      try dsimp only at hSw
      obtain ⟨q0, z0, z1, z2, z3, z4, y0⟩ := hSw
      go_simp
      all_goals with_reducible rfl
    try simp only [Act.put, List.setIfInBounds_toArray, List.set_cons_zero, List.set_cons_succ]
    refine held_take (i := 5) (v := ?_) 102 rfl rfl (by kernel_rfl) (by kernel_rfl) (by kernel_rfl) (fun _ _ _ h => h) (Or.inl ⟨by rfl, ?_⟩) hS ?_
    rotate_left 1
    · intro w' hSw
      try dsimp only at hSw
      obtain ⟨q0, z0, z1, z2, z3, z4, y0⟩ := hSw
      go_simp
      all_goals with_reducible rfl
    try simp only [Act.put, List.setIfInBounds_toArray, List.set_cons_zero, List.set_cons_succ]
    refine held_take (i := 6) (v := ?_) 103 rfl rfl (by kernel_rfl) (by kernel_rfl) (by kernel_rfl) (fun _ _ _ h => h) (Or.inl ⟨by rfl, ?_⟩) hS ?_
    rotate_left 1
    · intro w' hSw
      try dsimp only at hSw
      obtain ⟨q0, z0, z1, z2, z3, z4, y0⟩ := hSw
      go_simp
      all_goals with_reducible rfl
    try simp only [Act.put, List.setIfInBounds_toArray, List.set_cons_zero, List.set_cons_succ]
    refine held_take (i := 7) (v := ?_) 104 rfl rfl (by kernel_rfl) (by kernel_rfl) (by kernel_rfl) (fun _ _ _ h => h) (Or.inl ⟨by rfl, ?_⟩) hS ?_
    rotate_left 1
    · intro w' hSw
      try dsimp only at hSw
      obtain ⟨q0, z0, z1, z2, z3, z4, y0⟩ := hSw
      go_simp
      all_goals with_reducible rfl
    try simp only [Act.put, List.setIfInBounds_toArray, List.set_cons_zero, List.set_cons_succ]
    refine held_take (i := 8) (v := ?_) 105 rfl rfl (by kernel_rfl) (by kernel_rfl) (by kernel_rfl) (fun _ _ _ h => h) (Or.inl ⟨by rfl, ?_⟩) hS ?_
    rotate_left 1
    · intro w' hSw
      try dsimp only at hSw
      obtain ⟨q0, z0, z1, z2, z3, z4, y0⟩ := hSw
      go_simp
      all_goals with_reducible rfl
    try simp only [Act.put, List.setIfInBounds_toArray, List.set_cons_zero, List.set_cons_succ]
    refine held_take (i := 9) (v := ?_) 106 rfl rfl (by kernel_rfl) (by kernel_rfl) (by kernel_rfl) (fun _ _ _ h => h) (Or.inl ⟨by rfl, ?_⟩) hS ?_
    rotate_left 1
    · intro w' hSw
      try dsimp only at hSw
      obtain ⟨q0, z0, z1, z2, z3, z4, y0⟩ := hSw
      go_simp
      all_goals with_reducible rfl
    try simp only [Act.put, List.setIfInBounds_toArray, List.set_cons_zero, List.set_cons_succ]
    refine held_take (i := 10) (v := ?_) 107 rfl rfl (by kernel_rfl) (by kernel_rfl) (by kernel_rfl) (fun _ _ _ h => h) (Or.inl ⟨by rfl, ?_⟩) hS ?_
    rotate_left 1
    · intro w' hSw
      try dsimp only at hSw
      obtain ⟨q0, z0, z1, z2, z3, z4, y0⟩ := hSw
      go_simp
      all_goals with_reducible rfl
    try simp only [Act.put, List.setIfInBounds_toArray, List.set_cons_zero, List.set_cons_succ]
    refine held_one (i := 11) (by kernel_rfl) rfl rfl (fun K hK => ?_)
    go_simp
    refine (hin2 _ (hbt2.below hbw) (hq.below hbw)).mono ?_
    rintro e W2 ⟨R1, rc, rfl, hr1, hbel⟩
    clear hS
    replace hbw := hbw.trans (hbel.mono hbw.size)
    replace hr1 := hr1.mono (Nat.zero_le _)
    have hS := hS8.out _ hbw
    refine hK _ _ hS ?_
    clear hK K hbel
    try simp only [Act.put, List.setIfInBounds_toArray, List.set_cons_zero, List.set_cons_succ]
    refine held_one (i := 12) (by kernel_rfl) rfl rfl (fun K hK => ?_)
    go_simp
    refine (hla2 _ _ _ (hst2.below hbw) hr1).mono ?_
    rintro e W3 ⟨R2, m2, rc2, rfl, hr2, hbel⟩
    clear hS hr1
    replace hbw := hbw.trans (hbel.mono hbw.size)
    replace hr2 := hr2.mono (Nat.zero_le _)
    have hS := hS8.out _ hbw
    refine hK _ _ hS ?_
    clear hK K hbel
    try simp only [Act.put, List.setIfInBounds_toArray, List.set_cons_zero, List.set_cons_succ]
    refine held_take (i := 13) (v := ?_) 96 rfl rfl (by kernel_rfl) (by kernel_rfl) (by kernel_rfl) (fun _ _ _ h => h) (Or.inl ⟨by rfl, ?_⟩) hS ?_
    rotate_left 1
    · intro w' hSw
      try dsimp only at hSw
      obtain ⟨q0, z0, z1, z2, z3, z4, y0⟩ := hSw
      go_simp
      all_goals with_reducible rfl
    try simp only [Act.put, List.setIfInBounds_toArray, List.set_cons_zero, List.set_cons_succ]
    refine held_take (i := 14) (v := ?_) 110 rfl rfl (by kernel_rfl) (by kernel_rfl) (by kernel_rfl) (fun _ _ _ h => h) (Or.inl ⟨by rfl, ?_⟩) hS ?_
    rotate_left 1
    · intro w' hSw
      try dsimp only at hSw
      obtain ⟨q0, z0, z1, z2, z3, z4, y0⟩ := hSw
      go_simp
      all_goals with_reducible rfl
    try simp only [Act.put, List.setIfInBounds_toArray, List.set_cons_zero, List.set_cons_succ]
    refine held_take (i := 15) (v := ?_) 111 rfl rfl (by kernel_rfl) (by kernel_rfl) (by kernel_rfl) (fun _ _ _ h => h) (Or.inl ⟨by rfl, ?_⟩) hS ?_
    rotate_left 1
    · intro w' hSw
      try dsimp only at hSw
      obtain ⟨q0, z0, z1, z2, z3, z4, y0⟩ := hSw
      go_simp
      all_goals with_reducible rfl
    try simp only [Act.put, List.setIfInBounds_toArray, List.set_cons_zero, List.set_cons_succ]
    refine held_take (i := 16) (v := ?_) 14 rfl rfl (by kernel_rfl) (by kernel_rfl) (by kernel_rfl) (fun _ _ _ h => h) (Or.inl ⟨by rfl, ?_⟩) hS ?_
    rotate_left 1
    · intro w' hSw
      try dsimp only at hSw
      obtain ⟨q0, z0, z1, z2, z3, z4, y0⟩ := hSw
      go_simp
      all_goals with_reducible rfl
    try simp only [Act.put, List.setIfInBounds_toArray, List.set_cons_zero, List.set_cons_succ]
    refine held_take (i := 17) (v := ?_) 15 rfl rfl (by kernel_rfl) (by kernel_rfl) (by kernel_rfl) (fun _ _ _ h => h) (Or.inl ⟨by rfl, ?_⟩) hS ?_
    rotate_left 1
    · intro w' hSw
      try dsimp only at hSw
      obtain ⟨q0, z0, z1, z2, z3, z4, y0⟩ := hSw
      go_simp
      all_goals with_reducible rfl
    try simp only [Act.put, List.setIfInBounds_toArray, List.set_cons_zero, List.set_cons_succ]
    refine wpAnyH_done (by kernel_rfl) (noPanic_normal ?_) _
    clear hS hS8
    try simp only [Act.put, List.setIfInBounds_toArray, List.set_cons_zero, List.set_cons_succ]
    replace k4 := k4.below hbw
    replace b := b.trans (hbw.mono b.size)
    replace hrA := hrA.below hbw
    clear hbw hst2 hbt2 hin2 hla2 v0 v1 v2 v3 v4 x0 hq k3
    cases hb1 : laidB d1.s (insL e1.bs bits 0) with
    | false =>
      clear hl1 hl2 hrA hr2
      replace hb1 := Lib.hid hb1
      go_wp2_with fail
      refine (works_any _).mono ?_
      rintro e W ⟨rfl, hbel⟩
      go_wp2
      go_ret
      exact ⟨rfl, b.trans (hbel.mono b.size)⟩
    | true =>
      cases hb2 : laidB d2.s (insL e2.bs bits 5) with
      | false =>
        clear hl1 hl2 hrA hr2
        replace hb1 := Lib.hid hb1
        replace hb2 := Lib.hid hb2
        go_wp2_with fail
        refine (works_any _).mono ?_
        rintro e W ⟨rfl, hbel⟩
        go_wp2
        go_ret
        exact ⟨rfl, b.trans (hbel.mono b.size)⟩
      | true =>
        obtain ⟨hla, hpa⟩ := hl1.out hb1
        obtain ⟨hlb, hpb⟩ := hl2.out hb2
        simp only [hb1, hb2, if_true] at hrA hr2
        have hna := nodes_len d1.s e1.bs
        have hnb := nodes_len d2.s e2.bs
        have hle1 := hrA.len
        have hle2 := hr2.len
        have hlb1 := hlq1.out
        have hlb2 := hlq2.out
        have hfin := apart_said hla hlb (by omega) (by omega) (fun i x p h1 h2 => (hpa i x p h1 h2).1) (fun i x p h1 h2 => (hpb i x p h1 h2).1)
        rw [hV.out] at hfin
        have hokP : ∀ (i : Nat) (p : Pnt), (laidL d1.s (insL e1.bs bits 0) true)[i]? = some p → okPnt p = true := fun i p hp => by
          obtain ⟨x, hx⟩ := some_of_lt rfl (show i < (nodesL d1.s e1.bs).length by have := (List.getElem?_eq_some_iff.1 hp).1; omega)
          exact (hpa i x p hx hp).2
        have hokQ : ∀ (i : Nat) (p : Pnt), (laidL d2.s (insL e2.bs bits 5) false)[i]? = some p → okPnt p = true := fun i p hp => by
          obtain ⟨x, hx⟩ := some_of_lt rfl (show i < (nodesL d2.s e2.bs).length by have := (List.getElem?_eq_some_iff.1 hp).1; omega)
          exact (hpb i x p hx hp).2
        generalize laidL d1.s (insL e1.bs bits 0) true = ps at *
        generalize laidL d2.s (insL e2.bs bits 5) false = qs at *
        have hpos1 : 0 < mA := by omega
        have hpos2 : 0 < m2 := by omega
        have hma := hrA.le
        have hmb := hr2.le
        have z1 : ((mA : Int) == 0) = false := by rw [beq_eq_false_iff_ne]; omega
        have z2 : ((m2 : Int) == 0) = false := by rw [beq_eq_false_iff_ne]; omega
        replace hle1 := Lib.hid hle1
        replace hle2 := Lib.hid hle2
        replace hfin := Lib.hid hfin
        replace hokP := Lib.hid hokP
        replace hokQ := Lib.hid hokQ
        replace hb1 := Lib.hid hb1
        replace hb2 := Lib.hid hb2
        clear hl1 hl2 hla hlb hpa hpb hna hnb hlb1 hlb2 hlq1 hlq2
        go_wp2_with fail
        clear z1 z2
        rename_i Wz
        generalize W3 = W at *
        go_loopw [16, 17] (fun v i wr => ∃ k : Nat, i = .int .i64 k ∧ k ≤ mA ∧ v = .int .i64 (lsTo ps qs k) ∧ Below W.heap.size W wr) (fun v i wr => mA - (intOf i).toNat)
        case atStart => exact ⟨0, rfl, Nat.zero_le _, rfl, Below.refl _ _⟩
        case round =>
          obtain ⟨k, rfl, hk, rfl, hb⟩ := hrel
          by_cases hlt : k < mA
          · obtain ⟨p, hp⟩ := some_of_lt hle1.out hlt
            have hp2 := Lib.hid (lsTo_succ qs hp)
            have hk0 : (0 : Int) ≤ (k : Int) := by omega
            have hk1 : (k : Int) < (mA : Int) := by omega
            have hpo := of_decide_eq_true (hokP.out k p hp)
            replace hp := Lib.hid hp
            go_wp2_with fail
            obtain ⟨wo, hwo⟩ : ∃ wo : World, wo = wr := ⟨_, rfl⟩
            rw [← hwo]
            rw [← hwo] at hb
            clear hwo
            obtain ⟨ls0, hls0⟩ : ∃ x, x = lsTo ps qs k := ⟨_, rfl⟩
            rw [← hls0]
            rw [← hls0] at hp2
            clear hls0
            go_loopw [16, 18] (fun v i wr => ∃ j : Nat, i = .int .i64 j ∧ j ≤ m2 ∧ v = .int .i64 (lsIn ls0 p qs j) ∧ Below W.heap.size W wr) (fun v i wr => m2 - (intOf i).toNat)
            case atStart => exact ⟨0, rfl, Nat.zero_le _, rfl, hb⟩
            case round =>
              obtain ⟨j, rfl, hj, rfl, hb9⟩ := hrel
              by_cases hlt2 : j < m2
              · obtain ⟨q, hq9⟩ := some_of_lt hle2.out hlt2
                have hq2 := Lib.hid (lsIn_succ ls0 p hq9)
                have hqo := of_decide_eq_true (hokQ.out j q hq9)
                obtain ⟨bA, oA, hA1, -, hbA, p0, p1⟩ := (hrA.below hb9).pnt hp.out
                obtain ⟨bB, oB, hA2, -, hbB, q0, q1⟩ := (hr2.below hb9).pnt hq9
                subst hA1
                subst hA2
                replace hq9 := Lib.hid hq9
                have hj0 : (0 : Int) ≤ (j : Int) := by omega
                have hj1 : (j : Int) < (m2 : Int) := by omega
                have e1 := IntWalk.i64_in (p.x - q.x) (by omega)
                have e2 := IntWalk.i64_in (p.y - q.y) (by omega)
                have s1 := sq_bd (a := p.x - q.x) (A := 65536) (by omega) (by omega)
                have s2 := sq_bd (a := p.y - q.y) (A := 65536) (by omega) (by omega)
                have e3 := IntWalk.i64_in ((p.x - q.x) * (p.x - q.x)) (by omega)
                have e4 := IntWalk.i64_in ((p.y - q.y) * (p.y - q.y)) (by omega)
                have e5 := IntWalk.i64_in ((p.x - q.x) * (p.x - q.x) + (p.y - q.y) * (p.y - q.y)) (by omega)
                obtain ⟨m, hm⟩ : ∃ x, x = lsIn ls0 p qs j := ⟨_, rfl⟩
                rw [← hm]
                rw [← hm] at hq2
                clear hm
                have hb8 := fun n => below_drewN hb9 n
                by_cases c1 : m < 0
                · replace hq2 : Hid (lsIn ls0 p qs (j + 1) = (p.x - q.x) * (p.x - q.x) + (p.y - q.y) * (p.y - q.y)) := by show _ = _; rw [hq2.out, lsM, if_pos (.inl c1)]; rfl
                  clear s1 s2
                  go_wp2_with fail
                  go_quiet (fail)
                  go_wp2_with fail
                  go_roundw
                  case rel => exact ⟨j + 1, by go_num, by omega, by rw [hq2.out], hb8 _⟩
                  case measure => simp [intOf]; omega
                · have c1' : decide (m < 0) = false := decide_eq_false c1
                  by_cases c2 : (p.x - q.x) * (p.x - q.x) + (p.y - q.y) * (p.y - q.y) < m
                  · replace hq2 : Hid (lsIn ls0 p qs (j + 1) = (p.x - q.x) * (p.x - q.x) + (p.y - q.y) * (p.y - q.y)) := by show _ = _; rw [hq2.out, lsM, if_pos (.inr c2)]; rfl
                    clear s1 s2
                    go_wp2_with fail
                    go_quiet (fail)
                    go_wp2_with fail
                    go_roundw
                    case rel => exact ⟨j + 1, by go_num, by omega, by rw [hq2.out], hb8 _⟩
                    case measure => simp [intOf]; omega
                  · replace hq2 : Hid (lsIn ls0 p qs (j + 1) = m) := by show _ = _; rw [hq2.out, lsM, if_neg (fun h => h.elim c1 c2)]
                    have c2' : decide ((p.x - q.x) * (p.x - q.x) + (p.y - q.y) * (p.y - q.y) < m) = false := decide_eq_false c2
                    clear s1 s2
                    go_wp2_with fail
                    go_quiet (fail)
                    go_wp2_with fail
                    go_roundw
                    case rel => exact ⟨j + 1, by go_num, by omega, by rw [hq2.out], hb8 _⟩
                    case measure => simp [intOf]; omega
              · obtain rfl : j = m2 := by omega
                have e9 : Hid (lsIn ls0 p qs j = lsTo ps qs (k + 1)) := by show _ = _; rw [hp2.out, hle2.out]
                go_wp2_with fail
                go_roundw
                case rel => exact ⟨k + 1, by go_num, by omega, by rw [e9.out], hb9⟩
                case measure => simp [intOf]; omega
          · obtain rfl : k = mA := by omega
            have hBt : Hid (decide (V.lo ≤ lsTo ps qs k ∧ lsTo ps qs k ≤ V.hi) = true) := by show _ = _; have := hfin.out; rw [hle1.out] at this; exact decide_eq_true this
            have hC := fun W => Between_any (lsTo ps qs k) V.lo V.hi W
            simp only [hBt.out] at hC
            have k4w := k4.below hb
            obtain ⟨c4, f4, l4⟩ := k4w.rules
            go_wp2_with fail
            clear c4 f4 l4
            refine (hC _).mono ?_
            rintro e w' ⟨rfl, rfl⟩
            go_wp2_with fail
            refine (works_any _).mono ?_
            rintro e W9 ⟨rfl, hbel⟩
            go_wp2
            go_ret
            exact ⟨rfl, (b.trans (hb.mono b.size)).trans (hbel.mono (by have := b.size; have := hb.size; omega))⟩
  · have her2 := apprR_err her
    rw [her2] at h1
    obtain ⟨er, her3⟩ : ∃ x, x = (apprR ds es i0 i1).2 := ⟨_, rfl⟩
    rw [← her3] at her h1
    have hz : (er != 0) = true := by rw [bne_iff_ne]; exact her
    replace her := Lib.hid her
    replace her3 := Lib.hid her3
    clear h2 her2
    go_enter Tryz.func7, Tryz.ntmps7
    go_wp2_with fail
    rw [← hw1]
    clear hw1
    refine (h0 _ hA1).mono ?_
    rintro e W ⟨P, pc, Q, qc, rfl, hP, hQ, hbel⟩
    clear h0 hA1
    replace k3 := k3.below hbel
    replace b := b.trans (hbel.mono b.size)
    replace hq := hq.below hbel
    clear hbel
    obtain ⟨c3, f3, l3⟩ := k3.rules
    go_wp2_with fail
    clear c3 f3 l3
    refine (h1 _ _ _ _ _ hP hQ).mono ?_
    rintro e W ⟨rfl, hbel⟩
    clear h1
    replace b := b.trans (hbel.mono b.size)
    dsimp only
    go_wp2_with fail
    refine (works_any _).mono ?_
    rintro e W9 ⟨rfl, hbel2⟩
    go_wp2
    go_ret
    exact ⟨rfl, (b.alloc b.size _).trans (hbel2.mono (by have := b.size; simp; omega))⟩
end Go.Proofs.YtjiaepphnddpoaaGreat
namespace Go.Proofs.YtjiaepphnddpoaaGreat
set_option linter.unusedSimpArgs false
set_option linter.unusedVariables false
open Go.ChangeShapes Go.WideShapes Go.ChangeAt Go.RowKit Go.Deep
section
variable {H : Type} {enc : TypeId × Value → H} {P : Program} {w : World} {base : Nat} {spare : Nat → Bool} {held : Bool}
theorem open_slice_fields {t e : TypeId} {fs : Array Field} {fuel : Nat} {cs : List Value} {x : DataW H × List MemPlace} (ht : P.underlying t = some (.slice e)) (he : P.underlying e = some (.struct fs))
    (hone : oneCellFields P fs = true) (hC : P.cellsOf e = fs.size) (h : DataW.trod enc P w base spare held fuel t cs = some x) :
    (cs = [.slice none 0 0] ∧ x = (.nil, [])) ∨
    ∃ (a : Addr) (len cap m : Nat) (D : Nat → DataW H) (Pl : Nat → List MemPlace), cs = [.slice (some a) len cap] ∧ base ≤ a.block ∧ len ≤ cap ∧ cap ≤ maxLen ∧ m = (if spare a.block then cap else len) ∧
      x = (.slice ((List.range len).map D) ((List.range (m - len)).map fun j => D (len + j)), MemPlace.row a (m * fs.size) ++ (List.range m).flatMap Pl) ∧
      ∀ i, i < m → ∃ (ys : List (DataW H × List MemPlace)) (n : Nat), D i = .agg (ys.map (·.1)) ∧ Pl i = ys.flatMap (·.2) ∧ ys.length = fs.size ∧
        ∀ (j : Nat) (f : Field), fs[j]? = some f → ∃ (v : Value) (y : DataW H × List MemPlace), w.cell? (a.add (i * fs.size + j)) = some v ∧ ys[j]? = some y ∧ DataW.trod enc P w base spare held n f.type [v] = some y := by
  rcases open_slice ht h with h0 | ⟨a, len, cap, m, n, D, Pl, hcs, hb, hl, hm, hmm, hx, hi⟩
  · exact .inl h0
  · refine .inr ⟨a, len, cap, m, D, Pl, hcs, hb, hl, hm, hmm, by rw [hC] at hx; exact hx, fun i him => ?_⟩
    obtain ⟨cs', hc, ht'⟩ := hi i him
    rw [hC] at hc
    obtain ⟨ys, n', hn', hy, hlen, hyl, hf⟩ := DataW.trod_struct he ht'
    obtain ⟨_, hcl, hat⟩ := World.cells?_some hc
    simp only [Prod.mk.injEq] at hy
    refine ⟨ys, n', hy.1, hy.2, hyl, fun j f hj => ?_⟩
    obtain ⟨ho, hk⟩ := hone_of hone j f hj
    have hjl : j < fs.size := (Array.getElem?_eq_some_iff.1 hj).1
    have hcell := hat j hjl
    have hv : cs'[j]? = some (cs'[j]'(by omega)) := List.getElem?_eq_getElem (by omega)
    have h1 := hf j f hj
    rw [ho, hk] at h1
    have hone' : (cs'.drop j).take 1 = [cs'[j]'(by omega)] := by
      rw [List.drop_eq_getElem_cons (by omega)]
      rfl
    rw [hone'] at h1
    have hys : ys[j]? = some (ys[j]'(by omega)) := List.getElem?_eq_getElem (by omega)
    refine ⟨_, _, ?_, hys, h1.trans hys⟩
    rw [← Go.Deep.add_add, hcell, hv]
end
theorem Tryz.cellsSt : Tryz.prog.cellsOf 26 = 5 := by kernel_rfl
theorem Tryz.cellsInt : Tryz.prog.cellsOf 3 = 1 := by kernel_rfl
theorem Tryz.cellsSecs : Tryz.prog.cellsOf 22 = 1 := by kernel_rfl
theorem Tryz.cellsBnd : Tryz.prog.cellsOf 24 = 2 := by kernel_rfl
theorem Tryz.cellsSec : Tryz.prog.cellsOf 94 = 5 := by kernel_rfl
theorem Tryz.bytesInt : Tryz.prog.bytesOf 3 = 8 := by kernel_rfl
theorem Tryz.bytesSec : Tryz.prog.bytesOf 94 = 40 := by kernel_rfl
theorem add_none (b off n : Nat) : (⟨b, off, none⟩ : Addr).add n = ⟨b, off + n, none⟩ := by unfold Addr.add; split <;> simp_all
theorem reach44 {n k : Nat} (hk : 8 ≤ k) (h : n * k ≤ reachBytes) : n ≤ 17592186044416 := by
  have h1 : n * 8 ≤ n * k := Nat.mul_le_mul_left n hk
  have := reachBytes_lt
  omega
section
variable {H : Type} {enc : TypeId × Value → H} {W : World} {ts : List TypeId} {ds : List (DataW H)}
theorem row_ints {j : Nat} {a : Option Addr} {n c : Nat} {d : DataW H} {p : List MemPlace} (hsz : (DataW.weightsEach Tryz.prog ts ds).all (· ≤ reachBytes) = true) (ht : ts[j]? = some 31) (hd : ds[j]? = some d)
    (h : DataW.Trod enc Tryz.prog W 0 (fun _ => true) true 31 (.slice a n c) d p) : ∃ xs, SlAt W 0 1 ivs a n c xs := by
  obtain ⟨fuel, hf⟩ := h
  rcases open_ints Tryz.underlying31 Tryz.underlying3 Tryz.cellsInt hf with ⟨hcs, _⟩ | ⟨x, l, c', zs, hcs, _, hl, hm, hz, hx, hcell, hwz⟩
  · simp [Value.cells] at hcs
    obtain ⟨rfl, rfl, rfl⟩ := hcs
    exact ⟨[], SlAt.nil _ _ _ _⟩
  · simp [Value.cells] at hcs
    obtain ⟨rfl, rfl, rfl⟩ := hcs
    simp only [Prod.mk.injEq] at hx
    obtain ⟨rfl, -⟩ := hx
    have hr := sized_slice hsz ht hd Tryz.underlying31
    rw [Tryz.bytesInt] at hr
    simp only [if_true] at hz
    have hle : n ≤ 17592186044416 := by
      have := reach44 (Nat.le_refl 8) hr
      simp [lits] at this
      omega
    refine ⟨zs.take n, by simp; omega, hl, hle, fun hn => ?_⟩
    have h0 := hcell 0 (by omega)
    have hs := World.cell?_spot h0
    obtain ⟨b, off, spot⟩ := x
    have hspot : spot = none := by simpa [Addr.add] using hs
    subst hspot
    refine ⟨b, off, rfl, Nat.zero_le _, World.block_lt_of_cell? W _ (by simpa [Addr.add] using h0), fun k y hk jj v hv => ?_⟩
    have hkn : k < n := by have := (List.getElem?_eq_some_iff.1 hk).1; simp at this; omega
    have hc := hcell k (by omega)
    have hy : zs.getD k 0 = y := by
      rw [List.getElem?_take_of_lt hkn] at hk
      rw [List.getD_eq_getElem?_getD, hk]; rfl
    rw [hy] at hc
    match jj, hv with
    | 0, hv =>
      simp [ivs] at hv
      subst hv
      rw [add_none] at hc
      simpa using hc
    | q + 1, hv => simp [ivs] at hv
theorem row_secs {fuel : Nat} {c1 : Value} {x : DataW H × List MemPlace} (h : DataW.trod enc Tryz.prog W 0 (fun _ => true) true fuel 22 [c1] = some x)
    (hr : ∀ elems spare, x.1 = .slice elems spare → (elems.length + spare.length) * 40 ≤ reachBytes) : ∃ a n c xs, c1 = .slice a n c ∧ SlAt W 0 5 Sec.cells a n c xs := by
  rcases open_slice_fields Tryz.underlying22 Tryz.underlying94 (by kernel_rfl) Tryz.cellsSec h with ⟨hcs, _⟩ | ⟨a, len, cap, m, D, Pl, hcs, _, hl, hm, hmm, hx, hi⟩
  · simp at hcs
    subst hcs
    exact ⟨none, 0, 0, [], rfl, SlAt.nil _ _ _ _⟩
  · simp at hcs
    subst hcs
    have hr1 := hr _ _ (by rw [hx])
    simp only [if_true] at hmm
    subst hmm
    have hle : len ≤ 17592186044416 := by
      have := reach44 (show 8 ≤ 40 by omega) hr1
      simp at this
      omega
    have hsec : ∀ i, i < m → ∃ y : Sec, ∀ j v, y.cells[j]? = some v → W.cell? (a.add (i * 5 + j)) = some v := by
      intro i him
      obtain ⟨ys, n', _, _, _, hf⟩ := hi i him
      obtain ⟨u0, y0, hc0, _, ht0⟩ := hf 0 _ rfl
      obtain ⟨v0, e0, _, _⟩ := DataW.trod_int Tryz.underlying3 ht0
      simp at e0
      subst e0
      obtain ⟨u1, y1, hc1, _, ht1⟩ := hf 1 _ rfl
      obtain ⟨v1, e1, _, _⟩ := DataW.trod_int Tryz.underlying3 ht1
      simp at e1
      subst e1
      obtain ⟨u2, y2, hc2, _, ht2⟩ := hf 2 _ rfl
      obtain ⟨v2, e2, _, _⟩ := DataW.trod_int Tryz.underlying3 ht2
      simp at e2
      subst e2
      obtain ⟨u3, y3, hc3, _, ht3⟩ := hf 3 _ rfl
      obtain ⟨v3, e3, _, _⟩ := DataW.trod_int Tryz.underlying3 ht3
      simp at e3
      subst e3
      obtain ⟨u4, y4, hc4, _, ht4⟩ := hf 4 _ rfl
      obtain ⟨v4, e4, _, _⟩ := DataW.trod_int Tryz.underlying3 ht4
      simp at e4
      subst e4
      refine ⟨⟨v0, v1, v2, v3, v4⟩, fun j v hv => ?_⟩
      match j, hv with
      | 0, hv => simp [Sec.cells] at hv; subst hv; simpa using hc0
      | 1, hv => simp [Sec.cells] at hv; subst hv; simpa using hc1
      | 2, hv => simp [Sec.cells] at hv; subst hv; simpa using hc2
      | 3, hv => simp [Sec.cells] at hv; subst hv; simpa using hc3
      | 4, hv => simp [Sec.cells] at hv; subst hv; simpa using hc4
      | q + 5, hv => simp [Sec.cells] at hv
    have hch : ∃ f : Nat → Sec, ∀ i, i < m → ∀ j v, (f i).cells[j]? = some v → W.cell? (a.add (i * 5 + j)) = some v :=
      ⟨fun i => if h : i < m then (hsec i h).choose else ⟨0, 0, 0, 0, 0⟩, fun i h => by simp only [dif_pos h]; exact (hsec i h).choose_spec⟩
    obtain ⟨f, hf⟩ := hch
    refine ⟨some a, len, m, (List.range len).map f, rfl, by simp, hl, hle, fun hn => ?_⟩
    have h0 := hf 0 (by omega) 0 _ rfl
    have hs := World.cell?_spot h0
    obtain ⟨b, off, spot⟩ := a
    have hspot : spot = none := by simpa [Addr.add] using hs
    subst hspot
    refine ⟨b, off, rfl, Nat.zero_le _, World.block_lt_of_cell? W _ (by simpa [Addr.add] using h0), fun k y hk jj v hv => ?_⟩
    have hkn : k < len := by have := (List.getElem?_eq_some_iff.1 hk).1; simpa using this
    have hy : f k = y := by simpa [hkn] using hk
    subst hy
    have := hf k (by omega) jj v hv
    rw [add_none] at this
    exact this
end
end Go.Proofs.YtjiaepphnddpoaaGreat
namespace Go.Proofs.YtjiaepphnddpoaaGreat
open Go.ChangeShapes Go.WideShapes Go.ChangeAt Go.RowKit Go.Deep
set_option linter.unusedSimpArgs false
set_option linter.unusedVariables false
section
variable {H : Type} {enc : TypeId × Value → H} {W : World} {ts : List TypeId} {ds : List (DataW H)}
theorem Tryz.cellsTail : Tryz.prog.cellsOf 29 = 6 := by kernel_rfl
theorem Tryz.cellsBnds : Tryz.prog.cellsOf 27 = 1 := by kernel_rfl
theorem Tryz.bytesBnd : Tryz.prog.bytesOf 24 = 16 := by kernel_rfl
theorem row_bnds {fuel : Nat} {c1 : Value} {x : DataW H × List MemPlace} (h : DataW.trod enc Tryz.prog W 0 (fun _ => true) true fuel 27 [c1] = some x)
    (hr : ∀ elems spare, x.1 = .slice elems spare → (elems.length + spare.length) * 16 ≤ reachBytes) : ∃ a n c xs, c1 = .slice a n c ∧ SlAt W 0 2 Bnd.cells a n c xs := by
  rcases open_slice_fields Tryz.underlying27 Tryz.underlying24 (by kernel_rfl) Tryz.cellsBnd h with ⟨hcs, _⟩ | ⟨a, len, cap, m, D, Pl, hcs, _, hl, hm, hmm, hx, hi⟩
  · simp at hcs
    subst hcs
    exact ⟨none, 0, 0, [], rfl, SlAt.nil _ _ _ _⟩
  · simp at hcs
    subst hcs
    have hr1 := hr _ _ (by rw [hx])
    simp only [if_true] at hmm
    subst hmm
    have hle : len ≤ 17592186044416 := by
      have := reach44 (show 8 ≤ 16 by omega) hr1
      simp at this
      omega
    have hsec : ∀ i, i < m → ∃ y : Bnd, ∀ j v, y.cells[j]? = some v → W.cell? (a.add (i * 2 + j)) = some v := by
      intro i him
      obtain ⟨ys, n', _, _, _, hf⟩ := hi i him
      obtain ⟨u0, y0, hc0, _, ht0⟩ := hf 0 _ rfl
      obtain ⟨v0, e0, _, _⟩ := DataW.trod_int Tryz.underlying3 ht0
      simp at e0
      subst e0
      obtain ⟨u1, y1, hc1, _, ht1⟩ := hf 1 _ rfl
      obtain ⟨v1, e1, _, _⟩ := DataW.trod_int Tryz.underlying3 ht1
      simp at e1
      subst e1
      refine ⟨⟨v0, v1⟩, fun j v hv => ?_⟩
      match j, hv with
      | 0, hv => simp [Bnd.cells] at hv; subst hv; simpa using hc0
      | 1, hv => simp [Bnd.cells] at hv; subst hv; simpa using hc1
      | q + 2, hv => simp [Bnd.cells] at hv
    have hch : ∃ f : Nat → Bnd, ∀ i, i < m → ∀ j v, (f i).cells[j]? = some v → W.cell? (a.add (i * 2 + j)) = some v :=
      ⟨fun i => if h : i < m then (hsec i h).choose else ⟨0, 0⟩, fun i h => by simp only [dif_pos h]; exact (hsec i h).choose_spec⟩
    obtain ⟨f, hf⟩ := hch
    refine ⟨some a, len, m, (List.range len).map f, rfl, by simp, hl, hle, fun hn => ?_⟩
    have h0 := hf 0 (by omega) 0 _ rfl
    have hs := World.cell?_spot h0
    obtain ⟨b, off, spot⟩ := a
    have hspot : spot = none := by simpa [Addr.add] using hs
    subst hspot
    refine ⟨b, off, rfl, Nat.zero_le _, World.block_lt_of_cell? W _ (by simpa [Addr.add] using h0), fun k y hk jj v hv => ?_⟩
    have hkn : k < len := by have := (List.getElem?_eq_some_iff.1 hk).1; simpa using this
    have hy : f k = y := by simpa [hkn] using hk
    subst hy
    have := hf k (by omega) jj v hv
    rw [add_none] at this
    exact this
set_option maxRecDepth 100000 in
theorem row_bnd {fuel : Nat} {c0 c1 : Value} {x : DataW H × List MemPlace} (hf : DataW.trod enc Tryz.prog W 0 (fun _ => true) true fuel 24 [c0, c1] = some x) :
    ∃ b : Bnd, c0 = .int .i64 b.lo ∧ c1 = .int .i64 b.hi := by
  obtain ⟨zs, m, _, _, _, hlen2, hg2⟩ := DataW.trod_struct Tryz.underlying24 hf
  match zs, hlen2 with
  | [z0, z1], _ =>
    have w0 := hg2 0 _ rfl
    have w1 := hg2 1 _ rfl
    simp at w0 w1
    simp only [Tryz.cellsInt] at w0 w1
    simp at w0 w1
    obtain ⟨lo, g0, _, _⟩ := DataW.trod_int Tryz.underlying3 w0
    obtain ⟨hi, g1, _, _⟩ := DataW.trod_int Tryz.underlying3 w1
    simp at g0 g1
    subst g0 g1
    exact ⟨⟨lo, hi⟩, rfl, rfl⟩
set_option maxRecDepth 100000 in
theorem row_strm_of {fuel : Nat} {c0 c1 c2 c3 c4 : Value} {x : DataW H × List MemPlace} (hf : DataW.trod enc Tryz.prog W 0 (fun _ => true) true fuel 26 [c0, c1, c2, c3, c4] = some x)
    (hr : ∀ d0 elems spare d2 d3, x.1 = .agg [d0, .slice elems spare, d2, d3] → (elems.length + spare.length) * 40 ≤ reachBytes) :
    ∃ (s : Strm) (a : Option Addr) (n c : Nat), c0 = .int .i64 s.head ∧ c1 = .slice a n c ∧ c2 = .int .i64 s.lane.lo ∧ c3 = .int .i64 s.lane.hi ∧ c4 = .int .i64 s.bend ∧ SlAt W 0 5 Sec.cells a n c s.secs := by
  obtain ⟨xs, n, _, hx, _, hlen, hg⟩ := DataW.trod_struct Tryz.underlying26 hf
  match xs, hlen with
  | [y0, y1, y2, y3], _ =>
    have hx1 : x.1 = .agg [y0.1, y1.1, y2.1, y3.1] := by rw [hx]; rfl
    have t0 := hg 0 _ rfl
    have t1 := hg 1 _ rfl
    have t2 := hg 2 _ rfl
    have t3 := hg 3 _ rfl
    simp at t0 t1 t2 t3
    simp only [Tryz.cellsInt] at t0
    simp only [Tryz.cellsSecs] at t1
    simp only [Tryz.cellsBnd] at t2
    simp only [Tryz.cellsInt] at t3
    simp at t0 t1 t2 t3
    obtain ⟨hd0, e0, _, _⟩ := DataW.trod_int Tryz.underlying3 t0
    obtain ⟨be, e3, _, _⟩ := DataW.trod_int Tryz.underlying3 t3
    obtain ⟨b, g0, g1⟩ := row_bnd t2
    obtain ⟨a, n', c', secs, rfl, hs⟩ := row_secs (W := W) t1 (fun elems spare he => hr y0.1 elems spare y2.1 y3.1 (by rw [hx1, he]))
    simp at e0 e3
    subst e0 e3 g0 g1
    exact ⟨⟨hd0, secs, b, be⟩, a, n', c', rfl, rfl, rfl, rfl, rfl, hs⟩
end
end Go.Proofs.YtjiaepphnddpoaaGreat
namespace Go.Proofs.YtjiaepphnddpoaaGreat
open Go.ChangeShapes Go.WideShapes Go.ChangeAt Go.RowKit Go.Deep
set_option linter.unusedSimpArgs false
set_option linter.unusedVariables false
section
variable {H : Type} {enc : TypeId × Value → H} {W : World} {ts : List TypeId} {ds : List (DataW H)}
end
end Go.Proofs.YtjiaepphnddpoaaGreat
namespace Go.Proofs.YtjiaepphnddpoaaGreat
open Go.ChangeShapes Go.WideShapes Go.ChangeAt Go.RowKit Go.Deep
set_option linter.unusedSimpArgs false
set_option linter.unusedVariables false
section
variable {H : Type} {enc : TypeId × Value → H} {W : World} {ts : List TypeId} {ds : List (DataW H)}
end
end Go.Proofs.YtjiaepphnddpoaaGreat
namespace Go.Proofs.YtjiaepphnddpoaaGreat
open Go.ChangeShapes Go.WideShapes Go.ChangeAt Go.RowKit Go.Deep
set_option linter.unusedSimpArgs false
set_option linter.unusedVariables false
section
variable {H : Type} {enc : TypeId × Value → H} {W : World} {ts : List TypeId} {ds : List (DataW H)}
end
end Go.Proofs.YtjiaepphnddpoaaGreat
namespace Go.Proofs.YtjiaepphnddpoaaGreat
open Go.ChangeShapes Go.WideShapes Go.ChangeAt Go.RowKit Go.Deep
set_option linter.unusedSimpArgs false
set_option linter.unusedVariables false
section
variable {H : Type} {enc : TypeId × Value → H} {W : World} {ts : List TypeId} {ds : List (DataW H)}
theorem okWide_array {P : Program} {w : World} {r : Reach} {base n : Nat} {t e : TypeId} {v : Value} (ht : P.underlying t = some (.array n e)) (h : Value.okWide P w r base t v) : ∃ cs, v = .agg cs ∧ cs.size = P.cellsOf t := by
  simp only [Value.okWide, ht] at h
  obtain ⟨cs, h1, h2, _⟩ := h
  exact ⟨cs, h1, h2⟩
theorem Tryz.cellsArr2 : Tryz.prog.cellsOf 69 = 2 := by kernel_rfl
set_option maxRecDepth 100000 in
theorem row_arr2 {r : Reach} {b0 : Nat} {v : Value} {d : DataW H} {p : List MemPlace} (hv : Value.okWide Tryz.prog W r b0 69 v) (h : DataW.Trod enc Tryz.prog W 0 (fun _ => true) true 69 v d p) :
    ∃ a b : Int, v = .agg #[.int .i64 a, .int .i64 b] := by
  obtain ⟨cs, rfl, hcs⟩ := okWide_array Tryz.underlying69 hv
  obtain ⟨l⟩ := cs
  match l, hcs.trans Tryz.cellsArr2 with
  | [c0, c1], _ =>
    obtain ⟨fuel, hf⟩ := h
    obtain ⟨zs, m, _, _, _, hlen2, hg2⟩ := DataW.trod_array Tryz.underlying69 hf
    match zs, hlen2 with
    | [z0, z1], _ =>
      have w0 := hg2 0 (by omega)
      have w1 := hg2 1 (by omega)
      simp [Value.cells] at w0 w1
      simp only [Tryz.cellsInt] at w0 w1
      simp at w0 w1
      obtain ⟨lo, g0, _, _⟩ := DataW.trod_int Tryz.underlying3 w0
      obtain ⟨hi, g1, _, _⟩ := DataW.trod_int Tryz.underlying3 w1
      simp at g0 g1
      subst g0 g1
      exact ⟨lo, hi, rfl⟩
end
end Go.Proofs.YtjiaepphnddpoaaGreat
namespace Go.Proofs.YtjiaepphnddpoaaGreat
open Go.ChangeShapes Go.WideShapes Go.ChangeAt Go.RowKit Go.Deep
set_option linter.unusedSimpArgs false
set_option linter.unusedVariables false
section
variable {H : Type} {enc : TypeId × Value → H} {W : World} {ts : List TypeId} {ds : List (DataW H)}
theorem Tryz.bytesTail : Tryz.prog.bytesOf 29 = 80 := by kernel_rfl
theorem weights_mem_all {P : Program} {e : TypeId} : ∀ {l : List (DataW H)} {d : DataW H}, d ∈ l → ∀ n ∈ d.weights P e, n ∈ DataW.weightsAll P e l
  | x :: l, d, hd, n, hn => by
    simp only [DataW.weightsAll, List.mem_append]
    rcases List.mem_cons.1 hd with rfl | hd
    · exact .inl hn
    · exact .inr (weights_mem_all hd n hn)
set_option maxRecDepth 100000 in
theorem row_tail_of {fuel : Nat} {cs : List Value} {x : DataW H × List MemPlace} (hf : DataW.trod enc Tryz.prog W 0 (fun _ => true) true fuel 29 cs = some x) (hl : cs.length = 6)
    (hr : ∀ n ∈ x.1.weights Tryz.prog 29, n ≤ reachBytes) : ∃ t : TlD, cs = t.cells ∧ StOk W t.t ∧ BdOk W t.b := by
  match cs, hl with
  | [c0, c1, c2, c3, c4, c5], _ =>
    obtain ⟨xs, n, _, hx, _, hlen, hg⟩ := DataW.trod_struct Tryz.underlying29 hf
    match xs, hlen with
    | [y0, y1], _ =>
      have hx1 : x.1 = .agg [y0.1, y1.1] := by rw [hx]; rfl
      have t0 := hg 0 _ rfl
      have t1 := hg 1 _ rfl
      simp at t0 t1
      simp only [Tryz.cellsSt] at t0
      simp only [Tryz.cellsBnds] at t1
      simp at t0 t1
      obtain ⟨a', n', c', l, rfl, hl⟩ := row_bnds (W := W) t1 (fun elems spare he => by
        have := hr ((elems.length + spare.length) * Tryz.prog.bytesOf 24) (by
          rw [hx1]
          simp [DataW.weights, DataW.weightsEach, Tryz.underlying29, he, Tryz.underlying27])
        rw [Tryz.bytesBnd] at this
        exact this)
      obtain ⟨s, a, n0, c, rfl, rfl, rfl, rfl, rfl, hs⟩ := row_strm_of (W := W) t0 (fun d0 elems spare d2 d3 he => by
        have := hr ((elems.length + spare.length) * Tryz.prog.bytesOf 94) (by
          rw [hx1]
          simp [DataW.weights, DataW.weightsEach, Tryz.underlying29, he, Tryz.underlying26, Tryz.underlying22])
        rw [Tryz.bytesSec] at this
        exact this)
      exact ⟨⟨⟨s, a, n0, c⟩, ⟨l, a', n', c'⟩⟩, rfl, hs, hl⟩
set_option maxRecDepth 100000 in
theorem row_tails {r : Reach} {b0 j : Nat} {v : Value} {d : DataW H} {p : List MemPlace} (hsz : (DataW.weightsEach Tryz.prog ts ds).all (· ≤ reachBytes) = true) (ht : ts[j]? = some 68) (hd : ds[j]? = some d)
    (hv : Value.okWide Tryz.prog W r b0 68 v) (h : DataW.Trod enc Tryz.prog W 0 (fun _ => true) true 68 v d p) :
    ∃ (a : Option Addr) (n c : Nat) (xs : List TlD), v = .slice a n c ∧ n * 80 ≤ 140737488355328 ∧ TlL W a n c xs := by
  obtain ⟨a, n, c, rfl⟩ := okWide_slice Tryz.underlying68 hv
  obtain ⟨fuel, hf⟩ := h
  simp [Value.cells] at hf
  have hall : ∀ q ∈ d.weights Tryz.prog 68, q ≤ reachBytes := fun q hq => of_decide_eq_true (List.all_eq_true.1 hsz _ (DataW.weights_mem_each ht hd q hq))
  rcases open_slice Tryz.underlying68 hf with ⟨hcs, _⟩ | ⟨a, len, cap, m, nn, D, Pl, hcs, _, hl, hm, hmm, hx, hi⟩
  · simp at hcs
    obtain ⟨rfl, rfl, rfl⟩ := hcs
    exact ⟨none, 0, 0, [], rfl, by omega, SlAt.nil _ _ _ _, fun t h => by cases h⟩
  · simp at hcs
    obtain ⟨rfl, rfl, rfl⟩ := hcs
    simp only [if_true] at hmm
    obtain rfl : c = m := hmm.symm
    have hd1 : d = .slice ((List.range n).map D) ((List.range (c - n)).map fun j => D (n + j)) := congrArg Prod.fst hx
    rw [hd1] at hall
    simp only [DataW.weights, Tryz.underlying68] at hall
    have hw0 := hall _ List.mem_cons_self
    rw [Tryz.bytesTail] at hw0
    simp only [List.length_map, List.length_range] at hw0
    unfold reachBytes at hw0
    have hn80 : n * 80 ≤ 140737488355328 := by omega
    have hel : ∀ i, i < c → ∃ t : TlD, StOk W t.t ∧ BdOk W t.b ∧ ∀ j v, t.cells[j]? = some v → W.cell? (a.add (i * 6 + j)) = some v := by
      intro i hic
      obtain ⟨cs', hc, ht'⟩ := hi i hic
      rw [Tryz.cellsTail] at hc
      obtain ⟨_, hcl, hat⟩ := World.cells?_some hc
      obtain ⟨t, rfl, h1, h2⟩ := row_tail_of ht' hcl (fun q hq => by
        refine hall q (List.mem_cons_of_mem _ (List.mem_append.2 ?_))
        by_cases hin : i < n
        · exact .inl (weights_mem_all (List.mem_map.2 ⟨i, List.mem_range.2 hin, rfl⟩) q hq)
        · exact .inr (weights_mem_all (List.mem_map.2 ⟨i - n, List.mem_range.2 (by omega), by rw [show n + (i - n) = i by omega]⟩) q hq))
      refine ⟨t, h1, h2, fun j v hv => ?_⟩
      have hj : j < 6 := (List.getElem?_eq_some_iff.1 hv).1
      rw [← Go.Deep.add_add, hat j hj, hv]
    have hch : ∃ f : Nat → TlD, ∀ i, i < c → StOk W (f i).t ∧ BdOk W (f i).b ∧ ∀ j v, (f i).cells[j]? = some v → W.cell? (a.add (i * 6 + j)) = some v :=
      ⟨fun i => if h : i < c then (hel i h).choose else ⟨⟨⟨0, [], ⟨0, 0⟩, 0⟩, none, 0, 0⟩, ⟨[], none, 0, 0⟩⟩, fun i h => by simp only [dif_pos h]; exact (hel i h).choose_spec⟩
    obtain ⟨f, hf⟩ := hch
    refine ⟨some a, n, c, (List.range n).map f, rfl, hn80, ⟨by simp, hl, by omega, fun hn => ?_⟩, fun t ht => ?_⟩
    · have h0 := (hf 0 (by omega)).2.2 0 _ rfl
      have hs := World.cell?_spot h0
      obtain ⟨b, off, spot⟩ := a
      have hspot : spot = none := by simpa [Addr.add] using hs
      subst hspot
      refine ⟨b, off, rfl, Nat.zero_le _, World.block_lt_of_cell? W _ (by simpa [Addr.add] using h0), fun k y hk jj v hv => ?_⟩
      have hkn : k < n := by have := (List.getElem?_eq_some_iff.1 hk).1; simpa using this
      have hy : f k = y := by simpa [hkn] using hk
      subst hy
      have := (hf k (by omega)).2.2 jj v hv
      rw [add_none] at this
      exact this
    · obtain ⟨i, hir, rfl⟩ := List.mem_map.1 ht
      have := hf i (by have := List.mem_range.1 hir; omega)
      exact ⟨this.1, this.2.1⟩
end
end Go.Proofs.YtjiaepphnddpoaaGreat
