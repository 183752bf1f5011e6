/-
  Own texts for one claim, joined: G15 G16.
-/
import Derived.ChangeKeysEq
import Derived.Deep.QuietTactic
import Derived.BigQuiet
import Derived.Deep.RegionHeld3
import Derived.StillTailTactics
import Derived.Shelf.Abstract
import Derived.Test.YtjiaepphnddpoaaGreatChecked
import Derived.Shelf.Abstract
import Derived.Deep.QuietTactic
import Derived.BigQuiet
import Derived.Deep.RegionHeld3
import Derived.StillTailTactics
import Derived.Deep.AppendLies
import Derived.WalkMore
import Derived.WalkKit
import Derived.WalkSpells
import Derived.WalkLawsBesides
import Derived.Lib.Hide
import Derived.OrdersHeld
import Derived.StillTail
import Derived.StillTailTactics
import Derived.RangeFuncNested
import Derived.RangeFuncBound
import Derived.RangeFuncCalls
import Derived.RangeFuncLeaves
import Derived.Shelf.Abstract
import Derived.Shelf.RegionOpen
import Derived.OwnWalkIn
import Derived.TacticsInMore
import Derived.LoopNIn
import Derived.LoopIn
import Derived.OrdersIn
import Derived.Deep.Quiet
import Derived.Deep.QuietTactic
import Derived.BigQuiet
import Derived.Deep.AppendLies
import Derived.WalkMore
import Derived.Maps.Own
import Derived.Maps.Views
import Derived.WideKeyPair
import Derived.Carry
import Derived.Deep.RegionHeld3
import Derived.Deep.RegionWith
import Derived.BigRegionIn
import Derived.Deep.AppendLies
import Derived.Deep.QuietTactic
import Derived.LoopN
import Derived.Deep.RegionWith
import Derived.BigQuiet
import Derived.Deep.AppendLies
import Derived.Laws.AppendOwnNone
import Derived.Deep.AppendLies
import Derived.Deep.AppendLies
import Derived.Test.YtjiaepphnddpoaaGreatU01
import Derived.Test.YtjiaepphnddpoaaGreatU02
import Derived.Test.YtjiaepphnddpoaaGreatU03
import Derived.Test.YtjiaepphnddpoaaGreatU04
import Derived.Test.YtjiaepphnddpoaaGreatU05
import Derived.Test.YtjiaepphnddpoaaGreatU06
import Derived.Test.YtjiaepphnddpoaaGreatU07
import Derived.Test.YtjiaepphnddpoaaGreatU08
import Derived.Test.YtjiaepphnddpoaaGreatU09
import Derived.Test.YtjiaepphnddpoaaGreatU10
import Derived.Test.YtjiaepphnddpoaaGreatU11
import Derived.Test.YtjiaepphnddpoaaGreatU12
namespace Go.Proofs.YtjiaepphnddpoaaGreat
open Go.RowKit Go.Shelf
set_option linter.unusedSimpArgs false
set_option linter.unusedVariables false
def appAt (ds : List StD) (es : List BdD) (i k : Nat) : Bnd := match ds[i]?, es[i]?, ds[k]?, es[k]? with
  | some d1, some e1, some d2, some e2 => appS (nodesL d1.s e1.bs) (nodesL d2.s e2.bs)
  | _, _, _, _ => ⟨0, 0⟩
def twoOk (ds : List StD) (i k : Int) : Bool := decide (i ≠ k ∧ 0 ≤ i ∧ i < ds.length ∧ 0 ≤ k ∧ k < ds.length)
def apprR (ds : List StD) (es : List BdD) (i k : Int) : Bnd × Int := if sprOk ds es = true then (if twoOk ds i k = true then (appAt ds es i.toNat k.toNat, 0) else (⟨0, 0⟩, 3)) else (⟨0, 0⟩, 36)
theorem sprOk_iff {ds : List StD} {es : List BdD} (h : sprOk ds es = true) : (1 ≤ ds.length ∧ ds.length ≤ 4) ∧ es.length = ds.length ∧ sprTo ds es ds.length = true := by
  unfold sprOk at h
  simp only [Bool.and_eq_true, decide_eq_true_eq] at h
  exact ⟨⟨h.1.1, h.1.2.1⟩, h.1.2.2, h.2⟩
theorem zipT_at {ds : List StD} {es : List BdD} {k : Nat} {d : StD} {e : BdD} (hd : ds[k]? = some d) (he : es[k]? = some e) : (zipT ds es)[k]? = some ⟨d, e⟩ := by
  unfold zipT; simp [List.getElem?_zipWith, hd, he]
set_option maxRecDepth 100000 in
set_option maxHeartbeats 1000000 in
theorem Approach_any (L M : Option Addr) (n c m cm : Nat) (i k : Int) (ds : List StD) (es : List BdD) (w : World) (hL : SpL w L n c ds) (hM : BpL w M m cm es) :
    Calls Tryz.prog 33 #[.slice L n c, .slice M m cm, .int .i64 i, .int .i64 k] w fun e w' => e = .returned (.tuple #[.agg #[.int .i64 (apprR ds es i k).1.lo, .int .i64 (apprR ds es i k).1.hi], .int .i64 (apprR ds es i k).2]) ∧ Below w.heap.size w w' := by
  have hdl := hL.1.len
  have hel := hM.1.len
  have hle := hL.1.le
  have hM0 := hM
  have hsp : ∀ W, SpL W L n c ds → BpL W M m cm es → Calls Tryz.prog 87 #[.slice L n c, .slice M m cm] W fun e w' => ∃ P np cp, e = .returned (.tuple #[.slice P np cp, .int .i64 (if sprOk ds es = true then 0 else 36)]) ∧ (sprOk ds es = true → np = ds.length ∧ SlAt w' W.heap.size 6 TlD.cells P np cp (zipT ds es)) ∧ Below W.heap.size W w' := fun W h1 h2 => spread_any L M n c m cm ds es W h1 h2
  have hb1 := fun W => within_any i 0 ((n : Int) - 1) W
  have hb2 := fun W => within_any k 0 ((n : Int) - 1) W
  have u1 := IntWalk.i64_in ((n : Int) - 1) (by omega)
  obtain ⟨w1, hw1⟩ : ∃ w1, w1 = w.alloc (.cells #[.int .i64 0, .int .i64 0] 24) := ⟨_, rfl⟩
  have k8 : Blk w1 w.heap.size 24 #[.int .i64 0, .int .i64 0] := by rw [hw1]; exact Blk.new _ _ _
  have b : Below w.heap.size w w1 := by rw [hw1]; exact (Below.refl _ _).alloc (Nat.le_refl _) _
  have hbw : Below w.heap.size w w1 := b
  replace hL : SpL w1 L n c ds := hL.below hbw
  replace hM : BpL w1 M m cm es := hM.below hbw
  clear hbw
  cases hs : sprOk ds es with
  | false =>
    have hv : apprR ds es i k = (⟨0, 0⟩, 36) := by unfold apprR; rw [hs]; rfl
    rw [hv]
    simp only [hs, Bool.false_eq_true, if_false] at hsp
    clear hv hs hb1 hb2 hdl hel hle u1
    dsimp only
    go_enter Tryz.func33, Tryz.ntmps33
    go_wp2_with fail
    rw [← hw1]
    clear hw1
    refine (hsp _ hL hM).mono ?_
    rintro e W ⟨P, np, cp, rfl, hP, hbel⟩
    clear hsp
    replace k8 := k8.below hbel
    replace b := b.trans (hbel.mono b.size)
    replace hL := hL.below hbel
    replace hM := hM.below hbel
    clear hbel
    clear hP
    have kz := (k8.set_ 0 (.int .i64 (0))).set_ 1 (.int .i64 (0))
    simp only [List.setIfInBounds_toArray, List.set_cons_zero, List.set_cons_succ] at kz
    have bz := (b.setCell (p := ⟨w.heap.size, 0, none⟩) (Nat.le_refl _) (.int .i64 (0))).setCell (p := ⟨w.heap.size, 1, none⟩) (Nat.le_refl _) (.int .i64 (0))
    obtain ⟨wz, hwz⟩ : ∃ q, q = (W.setCell ⟨w.heap.size, 0, none⟩ (.int .i64 (0))).setCell ⟨w.heap.size, 1, none⟩ (.int .i64 (0)) := ⟨_, rfl⟩
    rw [← hwz] at kz bz
    obtain ⟨c8, f8, l8⟩ := k8.rules
    go_wp2
    rw [← hwz]
    clear hwz c8 f8 l8
    obtain ⟨c8, f8, l8⟩ := kz.rules
    exact bodyPost_ret (v := .tuple #[.agg #[.int .i64 (0), .int .i64 (0)], .int .i64 36]) (by simp [results, Tryz.results33, go_sem, c8]) rfl ⟨rfl, bz⟩
  | true =>
    simp only [hs, if_true] at hsp
    by_cases hik : i = k
    · have hv : apprR ds es i k = (⟨0, 0⟩, 3) := by unfold apprR; rw [hs, if_pos rfl, if_neg (by unfold twoOk; simp; omega)]
      rw [hv]
      subst hik
      clear hv hs hdl hel hle hb1 hb2
      dsimp only
      go_enter Tryz.func33, Tryz.ntmps33
      go_wp2_with fail
      rw [← hw1]
      clear hw1
      refine (hsp _ hL hM).mono ?_
      rintro e W ⟨P, np, cp, rfl, hP, hbel⟩
      clear hsp
      replace k8 := k8.below hbel
      replace b := b.trans (hbel.mono b.size)
      replace hL := hL.below hbel
      replace hM := hM.below hbel
      clear hbel
      clear hP
      have kz := (k8.set_ 0 (.int .i64 (0))).set_ 1 (.int .i64 (0))
      simp only [List.setIfInBounds_toArray, List.set_cons_zero, List.set_cons_succ] at kz
      have bz := (b.setCell (p := ⟨w.heap.size, 0, none⟩) (Nat.le_refl _) (.int .i64 (0))).setCell (p := ⟨w.heap.size, 1, none⟩) (Nat.le_refl _) (.int .i64 (0))
      obtain ⟨wz, hwz⟩ : ∃ q, q = (W.setCell ⟨w.heap.size, 0, none⟩ (.int .i64 (0))).setCell ⟨w.heap.size, 1, none⟩ (.int .i64 (0)) := ⟨_, rfl⟩
      rw [← hwz] at kz bz
      obtain ⟨c8, f8, l8⟩ := k8.rules
      go_wp2
      rw [← hwz]
      clear hwz c8 f8 l8
      obtain ⟨c8, f8, l8⟩ := kz.rules
      exact bodyPost_ret (v := .tuple #[.agg #[.int .i64 (0), .int .i64 (0)], .int .i64 3]) (by simp [results, Tryz.results33, go_sem, c8]) rfl ⟨rfl, bz⟩
    · have hik' : (i == k) = false := by rw [beq_eq_false_iff_ne]; exact hik
      by_cases hi : 0 ≤ i ∧ i < (n : Int)
      · simp only [decide_eq_true (show 0 ≤ i ∧ i ≤ (n : Int) - 1 by omega)] at hb1
        by_cases hk : 0 ≤ k ∧ k < (n : Int)
        · simp only [decide_eq_true (show 0 ≤ k ∧ k ≤ (n : Int) - 1 by omega)] at hb2
          obtain ⟨hl4, hlm, hto⟩ := sprOk_iff hs
          have htw : twoOk ds i k = true := decide_eq_true (by omega)
          obtain ⟨i, rfl⟩ : ∃ q : Nat, i = q := ⟨i.toNat, by omega⟩
          obtain ⟨k, rfl⟩ : ∃ q : Nat, k = q := ⟨k.toNat, by omega⟩
          obtain ⟨d1, hd1⟩ := some_of_lt rfl (show i < ds.length by omega)
          obtain ⟨e1, he1⟩ := some_of_lt rfl (show i < es.length by omega)
          obtain ⟨d2, hd2⟩ := some_of_lt rfl (show k < ds.length by omega)
          obtain ⟨e2, he2⟩ := some_of_lt rfl (show k < es.length by omega)
          have hv : apprR ds es i k = (appS (nodesL d1.s e1.bs) (nodesL d2.s e2.bs), 0) := by
            unfold apprR
            rw [hs, if_pos rfl, htw, if_pos rfl]
            unfold appAt
            simp only [Int.toNat_natCast, hd1, he1, hd2, he2]
          rw [hv]
          have er1 := sprTo_at hto (by omega) hd1 he1
          have er2 := sprTo_at hto (by omega) hd2 he2
          obtain ⟨o1, o2⟩ := errB_zero er1
          obtain ⟨o3, o4⟩ := errB_zero er2
          have hN1 := fun W h1 h2 => nodes_any d1.s d1.A e1.O d1.n d1.c e1.c 0 0 e1.bs W o1 o2 h1 h2
          have hN2 := fun W h1 h2 => nodes_any d2.s d2.A e2.O d2.n d2.c e2.c 0 0 e2.bs W o3 o4 h1 h2
          unfold OwnRegs at hN1 hN2
          have hg1 := nodes_good er1
          have hg2 := nodes_good er2
          have hst1 : StOk w1 d1 := hL.2 d1 (List.mem_of_getElem? hd1)
          have hbt1 : BdOk w1 e1 := hM.2 e1 (List.mem_of_getElem? he1)
          have hst2 : StOk w1 d2 := hL.2 d2 (List.mem_of_getElem? hd2)
          have hbt2 : BdOk w1 e2 := hM.2 e2 (List.mem_of_getElem? he2)
          unfold BdOk at hbt1 hbt2
          unfold StOk at hst1 hst2
          have hn1 : d1.n = e1.n := by have := okOffs_len o2; have := hst1.len; have := hbt1.len; omega
          have hn2 : d2.n = e2.n := by have := okOffs_len o4; have := hst2.len; have := hbt2.len; omega
          have hp1 : 1 ≤ d1.n := by have := ok_head o1; unfold headOk at this; have := hst1.len; omega
          have hp2 : 1 ≤ d2.n := by have := ok_head o3; unfold headOk at this; have := hst2.len; omega
          have hap := fun P Q cp cq W h1 h2 => approach_any (nodesL d1.s e1.bs) (nodesL d2.s e2.bs) P Q d1.n cp d2.n cq W hg1 hg2 (by omega) (by omega) h1 h2
          have hz1 := zipT_at hd1 he1
          have hz2 := zipT_at hd2 he2
          obtain ⟨bM, oM, hB, -, hbM, y0⟩ := hM.1.bdd he1
          obtain ⟨bM2, oM2, hB2, -, hbM2, v0⟩ := hM.1.bdd he2
          have hbMn : bM ≠ w.heap.size := by
            obtain ⟨b9, o9, hB9, -, hb9, -⟩ := hM0.1.bdd he1
            rw [hB] at hB9
            simp only [Option.some.injEq, Addr.mk.injEq, and_true] at hB9
            omega
          rw [hB] at hB2
          simp only [Option.some.injEq, Addr.mk.injEq, and_true] at hB2
          obtain ⟨rfl, rfl⟩ := hB2
          subst hB
          rw [← hn1] at y0 hbt1
          rw [← hn2] at v0 hbt2
          generalize nodesL d1.s e1.bs = xs at *
          generalize nodesL d2.s e2.bs = ys at *
          generalize appS xs ys = V at *
          have hkn : (k : Int) < (n : Int) := hk.2
          have hkm : (k : Int) < (m : Int) := by omega
          have hin : (i : Int) < (n : Int) := hi.2
          have him : (i : Int) < (m : Int) := by omega
          have hi0 : (0 : Int) ≤ (i : Int) := by omega
          have hk0 : (0 : Int) ≤ (k : Int) := by omega
          obtain ⟨w2, hw2⟩ : ∃ w2, w2 = w1 := ⟨_, rfl⟩
          clear hv hs hel hle hi hk htw hl4 hlm hto hd1 hd2 he1 he2 er1 er2 o1 o2 o3 o4 hg1 hg2 hn1 hn2
          replace hik := Lib.hid hik
          dsimp only
          go_enter Tryz.func33, Tryz.ntmps33
          go_wp2_with fail
          rw [← hw1]
          clear hw1
          refine (hsp _ hL hM).mono ?_
          rintro e W ⟨P, np, cp, rfl, hP, hbel⟩
          clear hsp hw2 hL hM
          have hP0 := hP trivial
          clear hP
          obtain ⟨hnp, hP⟩ := hP0
          obtain rfl : np = n := by omega
          clear hdl hnp
          obtain ⟨bL, oL, hA, hbLw, hbL, z0, z1, z2, z3, z4, -⟩ := hP.tld hz1
          have hbLn : bL ≠ w.heap.size := by have := k8.lt; omega
          obtain ⟨bL2, oL2, hA2, -, hbL2, u0, u1', u2, u3, u4, -⟩ := hP.tld hz2
          rw [hA] at hA2
          simp only [Option.some.injEq, Addr.mk.injEq, and_true] at hA2
          obtain ⟨rfl, rfl⟩ := hA2
          subst hA
          replace y0 := (hbel.cell (p := ⟨bM, oM + i, none⟩) hbM).trans y0
          replace v0 := (hbel.cell (p := ⟨bM, oM + k, none⟩) hbM).trans v0
          replace hbM := Nat.lt_of_lt_of_le hbM hbel.size
          replace k8 := k8.below hbel
          replace b := b.trans (hbel.mono b.size)
          replace hst1 := hst1.below hbel
          replace hst2 := hst2.below hbel
          replace hbt1 := hbt1.below hbel
          replace hbt2 := hbt2.below hbel
          clear hbel hP
          go_wp2_with fail
          refine (hb1 _).mono ?_
          rintro e w' ⟨rfl, rfl⟩
          go_wp2_with fail
          refine (hb2 _).mono ?_
          rintro e w' ⟨rfl, rfl⟩
          clear hb1 hb2
          go_wp2_with fail
          refine wp_held_np (fun w' : World => (w'.cell? ⟨bL, oL + i * 6, none⟩ = some (.int .i64 d1.s.head) ∧ w'.cell? ⟨bL, oL + i * 6 + 1, none⟩ = some (.slice d1.A d1.n d1.c) ∧ w'.cell? ⟨bL, oL + i * 6 + 2, none⟩ = some (.int .i64 d1.s.lane.lo) ∧ w'.cell? ⟨bL, oL + i * 6 + 3, none⟩ = some (.int .i64 d1.s.lane.hi) ∧ w'.cell? ⟨bL, oL + i * 6 + 4, none⟩ = some (.int .i64 d1.s.bend) ∧ w'.cell? ⟨bM, oM + i, none⟩ = some (.slice e1.O d1.n e1.c)) ∧ (w'.cell? ⟨bL, oL + k * 6, none⟩ = some (.int .i64 d2.s.head) ∧ w'.cell? ⟨bL, oL + k * 6 + 1, none⟩ = some (.slice d2.A d2.n d2.c) ∧ w'.cell? ⟨bL, oL + k * 6 + 2, none⟩ = some (.int .i64 d2.s.lane.lo) ∧ w'.cell? ⟨bL, oL + k * 6 + 3, none⟩ = some (.int .i64 d2.s.lane.hi) ∧ w'.cell? ⟨bL, oL + k * 6 + 4, none⟩ = some (.int .i64 d2.s.bend) ∧ w'.cell? ⟨bM, oM + k, none⟩ = some (.slice e2.O d2.n e2.c))) (by kernel_rfl) ?_
          have hSb : Hid (∀ W', Below W.heap.size W W' → (fun w' : World => (w'.cell? ⟨bL, oL + i * 6, none⟩ = some (.int .i64 d1.s.head) ∧ w'.cell? ⟨bL, oL + i * 6 + 1, none⟩ = some (.slice d1.A d1.n d1.c) ∧ w'.cell? ⟨bL, oL + i * 6 + 2, none⟩ = some (.int .i64 d1.s.lane.lo) ∧ w'.cell? ⟨bL, oL + i * 6 + 3, none⟩ = some (.int .i64 d1.s.lane.hi) ∧ w'.cell? ⟨bL, oL + i * 6 + 4, none⟩ = some (.int .i64 d1.s.bend) ∧ w'.cell? ⟨bM, oM + i, none⟩ = some (.slice e1.O d1.n e1.c)) ∧ (w'.cell? ⟨bL, oL + k * 6, none⟩ = some (.int .i64 d2.s.head) ∧ w'.cell? ⟨bL, oL + k * 6 + 1, none⟩ = some (.slice d2.A d2.n d2.c) ∧ w'.cell? ⟨bL, oL + k * 6 + 2, none⟩ = some (.int .i64 d2.s.lane.lo) ∧ w'.cell? ⟨bL, oL + k * 6 + 3, none⟩ = some (.int .i64 d2.s.lane.hi) ∧ w'.cell? ⟨bL, oL + k * 6 + 4, none⟩ = some (.int .i64 d2.s.bend) ∧ w'.cell? ⟨bM, oM + k, none⟩ = some (.slice e2.O d2.n e2.c))) W') := by
            show ∀ _, _
            intro W' hb
            exact ⟨⟨(hb.cell (p := ⟨bL, oL + i * 6, none⟩) hbL).trans z0, (hb.cell (p := ⟨bL, oL + i * 6 + 1, none⟩) hbL).trans z1, (hb.cell (p := ⟨bL, oL + i * 6 + 2, none⟩) hbL).trans z2, (hb.cell (p := ⟨bL, oL + i * 6 + 3, none⟩) hbL).trans z3, (hb.cell (p := ⟨bL, oL + i * 6 + 4, none⟩) hbL).trans z4, (hb.cell (p := ⟨bM, oM + i, none⟩) hbM).trans y0⟩, ⟨(hb.cell (p := ⟨bL, oL + k * 6, none⟩) hbL).trans u0, (hb.cell (p := ⟨bL, oL + k * 6 + 1, none⟩) hbL).trans u1', (hb.cell (p := ⟨bL, oL + k * 6 + 2, none⟩) hbL).trans u2, (hb.cell (p := ⟨bL, oL + k * 6 + 3, none⟩) hbL).trans u3, (hb.cell (p := ⟨bL, oL + k * 6 + 4, none⟩) hbL).trans u4, (hb.cell (p := ⟨bM, oM + k, none⟩) hbM).trans v0⟩⟩
          have hb9 : Below W.heap.size W W.drew := (Below.refl _ _).drew
          have hS := hSb.out _ hb9
          replace k8 := k8.drew
          have hbW := b
          clear z0 z1 z2 z3 z4 u0 u1' u2 u3 u4 y0 v0
          generalize W.drew = wd at *
          refine held_take (i := 0) (v := ?_) 42 rfl rfl (by kernel_rfl) (by kernel_rfl) (by kernel_rfl) (fun _ _ _ h => h) (Or.inl ⟨by rfl, ?_⟩) hS ?_
          rotate_left 1
          · intro w' hSw
            try dsimp only at hSw
            obtain ⟨⟨p0, p1, p2, p3, p4, p5⟩, q0, q1, q2, q3, q4, q5⟩ := hSw
            go_simp
            all_goals with_reducible rfl
          try simp only [Act.put, List.setIfInBounds_toArray, List.set_cons_zero, List.set_cons_succ]
          refine held_take (i := 1) (v := ?_) 43 rfl rfl (by kernel_rfl) (by kernel_rfl) (by kernel_rfl) (fun _ _ _ h => h) (Or.inl ⟨by rfl, ?_⟩) hS ?_
          rotate_left 1
          · intro w' hSw
            try dsimp only at hSw
            obtain ⟨⟨p0, p1, p2, p3, p4, p5⟩, q0, q1, q2, q3, q4, q5⟩ := hSw
            go_simp
            all_goals with_reducible rfl
          try simp only [Act.put, List.setIfInBounds_toArray, List.set_cons_zero, List.set_cons_succ]
          refine held_take (i := 2) (v := ?_) 44 rfl rfl (by kernel_rfl) (by kernel_rfl) (by kernel_rfl) (fun _ _ _ h => h) (Or.inl ⟨by rfl, ?_⟩) hS ?_
          rotate_left 1
          · intro w' hSw
            try dsimp only at hSw
            obtain ⟨⟨p0, p1, p2, p3, p4, p5⟩, q0, q1, q2, q3, q4, q5⟩ := hSw
            go_simp
            all_goals with_reducible rfl
          try simp only [Act.put, List.setIfInBounds_toArray, List.set_cons_zero, List.set_cons_succ]
          refine held_take (i := 3) (v := ?_) 45 rfl rfl (by kernel_rfl) (by kernel_rfl) (by kernel_rfl) (fun _ _ _ h => h) (Or.inl ⟨by rfl, ?_⟩) hS ?_
          rotate_left 1
          · intro w' hSw
            try dsimp only at hSw
            obtain ⟨⟨p0, p1, p2, p3, p4, p5⟩, q0, q1, q2, q3, q4, q5⟩ := hSw
            go_simp
            all_goals with_reducible rfl
          try simp only [Act.put, List.setIfInBounds_toArray, List.set_cons_zero, List.set_cons_succ]
          refine held_take (i := 4) (v := ?_) 46 rfl rfl (by kernel_rfl) (by kernel_rfl) (by kernel_rfl) (fun _ _ _ h => h) (Or.inl ⟨by rfl, ?_⟩) hS ?_
          rotate_left 1
          · intro w' hSw
            try dsimp only at hSw
            obtain ⟨⟨p0, p1, p2, p3, p4, p5⟩, q0, q1, q2, q3, q4, q5⟩ := hSw
            go_simp
            all_goals with_reducible rfl
          try simp only [Act.put, List.setIfInBounds_toArray, List.set_cons_zero, List.set_cons_succ]
          refine held_take (i := 5) (v := ?_) 47 rfl rfl (by kernel_rfl) (by kernel_rfl) (by kernel_rfl) (fun _ _ _ h => h) (Or.inl ⟨by rfl, ?_⟩) hS ?_
          rotate_left 1
          · intro w' hSw
            try dsimp only at hSw
            obtain ⟨⟨p0, p1, p2, p3, p4, p5⟩, q0, q1, q2, q3, q4, q5⟩ := hSw
            go_simp
            all_goals with_reducible rfl
          try simp only [Act.put, List.setIfInBounds_toArray, List.set_cons_zero, List.set_cons_succ]
          refine held_take (i := 6) (v := ?_) 48 rfl rfl (by kernel_rfl) (by kernel_rfl) (by kernel_rfl) (fun _ _ _ h => h) (Or.inl ⟨by rfl, ?_⟩) hS ?_
          rotate_left 1
          · intro w' hSw
            try dsimp only at hSw
            obtain ⟨⟨p0, p1, p2, p3, p4, p5⟩, q0, q1, q2, q3, q4, q5⟩ := hSw
            go_simp
            all_goals with_reducible rfl
          try simp only [Act.put, List.setIfInBounds_toArray, List.set_cons_zero, List.set_cons_succ]
          refine held_take (i := 7) (v := ?_) 49 rfl rfl (by kernel_rfl) (by kernel_rfl) (by kernel_rfl) (fun _ _ _ h => h) (Or.inl ⟨by rfl, ?_⟩) hS ?_
          rotate_left 1
          · intro w' hSw
            try dsimp only at hSw
            obtain ⟨⟨p0, p1, p2, p3, p4, p5⟩, q0, q1, q2, q3, q4, q5⟩ := hSw
            go_simp
            all_goals with_reducible rfl
          try simp only [Act.put, List.setIfInBounds_toArray, List.set_cons_zero, List.set_cons_succ]
          refine held_take (i := 8) (v := ?_) 50 rfl rfl (by kernel_rfl) (by kernel_rfl) (by kernel_rfl) (fun _ _ _ h => h) (Or.inl ⟨by rfl, ?_⟩) hS ?_
          rotate_left 1
          · intro w' hSw
            try dsimp only at hSw
            obtain ⟨⟨p0, p1, p2, p3, p4, p5⟩, q0, q1, q2, q3, q4, q5⟩ := hSw
            go_simp
            all_goals with_reducible rfl
          try simp only [Act.put, List.setIfInBounds_toArray, List.set_cons_zero, List.set_cons_succ]
          refine held_take (i := 10) (v := ?_) 52 rfl rfl (by kernel_rfl) (by kernel_rfl) (by kernel_rfl) (fun _ _ _ h => h) (Or.inl ⟨by rfl, ?_⟩) hS ?_
          rotate_left 1
          · intro w' hSw
            try dsimp only at hSw
            obtain ⟨⟨p0, p1, p2, p3, p4, p5⟩, q0, q1, q2, q3, q4, q5⟩ := hSw
            go_simp
            all_goals with_reducible rfl
          try simp only [Act.put, List.setIfInBounds_toArray, List.set_cons_zero, List.set_cons_succ]
          refine held_take (i := 11) (v := ?_) 53 rfl rfl (by kernel_rfl) (by kernel_rfl) (by kernel_rfl) (fun _ _ _ h => h) (Or.inl ⟨by rfl, ?_⟩) hS ?_
          rotate_left 1
          · intro w' hSw
            try dsimp only at hSw
            obtain ⟨⟨p0, p1, p2, p3, p4, p5⟩, q0, q1, q2, q3, q4, q5⟩ := hSw
            go_simp
            all_goals with_reducible rfl
          try simp only [Act.put, List.setIfInBounds_toArray, List.set_cons_zero, List.set_cons_succ]
          refine held_take (i := 12) (v := ?_) 54 rfl rfl (by kernel_rfl) (by kernel_rfl) (by kernel_rfl) (fun _ _ _ h => h) (Or.inl ⟨by rfl, ?_⟩) hS ?_
          rotate_left 1
          · intro w' hSw
            try dsimp only at hSw
            obtain ⟨⟨p0, p1, p2, p3, p4, p5⟩, q0, q1, q2, q3, q4, q5⟩ := hSw
            go_simp
            all_goals with_reducible rfl
          try simp only [Act.put, List.setIfInBounds_toArray, List.set_cons_zero, List.set_cons_succ]
          refine held_take (i := 13) (v := ?_) 55 rfl rfl (by kernel_rfl) (by kernel_rfl) (by kernel_rfl) (fun _ _ _ h => h) (Or.inl ⟨by rfl, ?_⟩) hS ?_
          rotate_left 1
          · intro w' hSw
            try dsimp only at hSw
            obtain ⟨⟨p0, p1, p2, p3, p4, p5⟩, q0, q1, q2, q3, q4, q5⟩ := hSw
            go_simp
            all_goals with_reducible rfl
          try simp only [Act.put, List.setIfInBounds_toArray, List.set_cons_zero, List.set_cons_succ]
          refine held_take (i := 14) (v := ?_) 56 rfl rfl (by kernel_rfl) (by kernel_rfl) (by kernel_rfl) (fun _ _ _ h => h) (Or.inl ⟨by rfl, ?_⟩) hS ?_
          rotate_left 1
          · intro w' hSw
            try dsimp only at hSw
            obtain ⟨⟨p0, p1, p2, p3, p4, p5⟩, q0, q1, q2, q3, q4, q5⟩ := hSw
            go_simp
            all_goals with_reducible rfl
          try simp only [Act.put, List.setIfInBounds_toArray, List.set_cons_zero, List.set_cons_succ]
          refine held_take (i := 15) (v := ?_) 57 rfl rfl (by kernel_rfl) (by kernel_rfl) (by kernel_rfl) (fun _ _ _ h => h) (Or.inl ⟨by rfl, ?_⟩) hS ?_
          rotate_left 1
          · intro w' hSw
            try dsimp only at hSw
            obtain ⟨⟨p0, p1, p2, p3, p4, p5⟩, q0, q1, q2, q3, q4, q5⟩ := hSw
            go_simp
            all_goals with_reducible rfl
          try simp only [Act.put, List.setIfInBounds_toArray, List.set_cons_zero, List.set_cons_succ]
          refine held_take (i := 16) (v := ?_) 58 rfl rfl (by kernel_rfl) (by kernel_rfl) (by kernel_rfl) (fun _ _ _ h => h) (Or.inl ⟨by rfl, ?_⟩) hS ?_
          rotate_left 1
          · intro w' hSw
            try dsimp only at hSw
            obtain ⟨⟨p0, p1, p2, p3, p4, p5⟩, q0, q1, q2, q3, q4, q5⟩ := hSw
            go_simp
            all_goals with_reducible rfl
          try simp only [Act.put, List.setIfInBounds_toArray, List.set_cons_zero, List.set_cons_succ]
          refine held_take (i := 17) (v := ?_) 59 rfl rfl (by kernel_rfl) (by kernel_rfl) (by kernel_rfl) (fun _ _ _ h => h) (Or.inl ⟨by rfl, ?_⟩) hS ?_
          rotate_left 1
          · intro w' hSw
            try dsimp only at hSw
            obtain ⟨⟨p0, p1, p2, p3, p4, p5⟩, q0, q1, q2, q3, q4, q5⟩ := hSw
            go_simp
            all_goals with_reducible rfl
          try simp only [Act.put, List.setIfInBounds_toArray, List.set_cons_zero, List.set_cons_succ]
          refine held_take (i := 18) (v := ?_) 60 rfl rfl (by kernel_rfl) (by kernel_rfl) (by kernel_rfl) (fun _ _ _ h => h) (Or.inl ⟨by rfl, ?_⟩) hS ?_
          rotate_left 1
          · intro w' hSw
            try dsimp only at hSw
            obtain ⟨⟨p0, p1, p2, p3, p4, p5⟩, q0, q1, q2, q3, q4, q5⟩ := hSw
            go_simp
            all_goals with_reducible rfl
          try simp only [Act.put, List.setIfInBounds_toArray, List.set_cons_zero, List.set_cons_succ]
          refine held_one (i := 9) (by kernel_rfl) rfl rfl (fun K hK => ?_)
          go_simp
          refine (hN1 _ (hst1.below hb9) (hbt1.below hb9)).mono ?_
          rintro e1 W1 ⟨P1, c1, rfl, r1, hbel⟩
          clear hS
          skip
          replace hb9 := hb9.trans (hbel.mono hb9.size)
          replace k8 := k8.below hbel
          clear hbel
          have hS := hSb.out _ hb9
          refine hK _ _ hS ?_
          clear hK K
          try simp only [Act.put, List.setIfInBounds_toArray, List.set_cons_zero, List.set_cons_succ]
          refine held_one (i := 19) (by kernel_rfl) rfl rfl (fun K hK => ?_)
          go_simp
          refine (hN2 _ (hst2.below hb9) (hbt2.below hb9)).mono ?_
          rintro e1 W2 ⟨P2, c2, rfl, r2, hbel⟩
          clear hS
          replace r1 := r1.below hbel
          replace hb9 := hb9.trans (hbel.mono hb9.size)
          replace k8 := k8.below hbel
          clear hbel
          have hS := hSb.out _ hb9
          refine hK _ _ hS ?_
          clear hK K
          try simp only [Act.put, List.setIfInBounds_toArray, List.set_cons_zero, List.set_cons_succ]
          refine held_one (i := 20) (by kernel_rfl) rfl rfl (fun K hK => ?_)
          go_simp
          refine (hap _ _ _ _ _ (r1.mono (Nat.zero_le _)) (r2.mono (Nat.zero_le _))).mono ?_
          rintro e3 W3 ⟨rfl, hbel⟩
          clear hS hap r1 r2 hN1 hN2
          replace hb9 := hb9.trans (hbel.mono hb9.size)
          replace k8 := k8.below hbel
          clear hbel
          have hS := hSb.out _ hb9
          refine hK _ _ hS ?_
          clear hK K
          try simp only [Act.put, List.setIfInBounds_toArray, List.set_cons_zero, List.set_cons_succ]
          replace b := b.trans (hb9.mono b.size)
          have kz := (k8.set_ 0 (.int .i64 V.lo)).set_ 1 (.int .i64 V.hi)
          simp only [List.setIfInBounds_toArray, List.set_cons_zero, List.set_cons_succ] at kz
          have bz := (b.setCell (p := ⟨w.heap.size, 0, none⟩) (Nat.le_refl _) (.int .i64 V.lo)).setCell (p := ⟨w.heap.size, 1, none⟩) (Nat.le_refl _) (.int .i64 V.hi)
          have hSz : (fun w' : World => (w'.cell? ⟨bL, oL + i * 6, none⟩ = some (.int .i64 d1.s.head) ∧ w'.cell? ⟨bL, oL + i * 6 + 1, none⟩ = some (.slice d1.A d1.n d1.c) ∧ w'.cell? ⟨bL, oL + i * 6 + 2, none⟩ = some (.int .i64 d1.s.lane.lo) ∧ w'.cell? ⟨bL, oL + i * 6 + 3, none⟩ = some (.int .i64 d1.s.lane.hi) ∧ w'.cell? ⟨bL, oL + i * 6 + 4, none⟩ = some (.int .i64 d1.s.bend) ∧ w'.cell? ⟨bM, oM + i, none⟩ = some (.slice e1.O d1.n e1.c)) ∧ (w'.cell? ⟨bL, oL + k * 6, none⟩ = some (.int .i64 d2.s.head) ∧ w'.cell? ⟨bL, oL + k * 6 + 1, none⟩ = some (.slice d2.A d2.n d2.c) ∧ w'.cell? ⟨bL, oL + k * 6 + 2, none⟩ = some (.int .i64 d2.s.lane.lo) ∧ w'.cell? ⟨bL, oL + k * 6 + 3, none⟩ = some (.int .i64 d2.s.lane.hi) ∧ w'.cell? ⟨bL, oL + k * 6 + 4, none⟩ = some (.int .i64 d2.s.bend) ∧ w'.cell? ⟨bM, oM + k, none⟩ = some (.slice e2.O d2.n e2.c))) ((W3.setCell ⟨w.heap.size, 0, none⟩ (.int .i64 V.lo)).setCell ⟨w.heap.size, 1, none⟩ (.int .i64 V.hi)) := by
            have hf : ∀ bb oo vv, bb ≠ w.heap.size → W3.cell? ⟨bb, oo, none⟩ = some vv → ((W3.setCell ⟨w.heap.size, 0, none⟩ (.int .i64 V.lo)).setCell ⟨w.heap.size, 1, none⟩ (.int .i64 V.hi)).cell? ⟨bb, oo, none⟩ = some vv := fun bb oo vv h1 h2 => by
              rw [← h2]
              apply cell_eq
              exact (Below.heap_setCell _ _ _ _ (by exact h1)).trans (Below.heap_setCell _ _ _ _ (by exact h1))
            obtain ⟨⟨p0, p1, p2, p3, p4, p5⟩, q0, q1, q2, q3, q4, q5⟩ := hS
            exact ⟨⟨hf _ _ _ hbLn p0, hf _ _ _ hbLn p1, hf _ _ _ hbLn p2, hf _ _ _ hbLn p3, hf _ _ _ hbLn p4, hf _ _ _ hbMn p5⟩, hf _ _ _ hbLn q0, hf _ _ _ hbLn q1, hf _ _ _ hbLn q2, hf _ _ _ hbLn q3, hf _ _ _ hbLn q4, hf _ _ _ hbMn q5⟩
          obtain ⟨wz, hwz⟩ : ∃ q, q = (W3.setCell ⟨w.heap.size, 0, none⟩ (.int .i64 V.lo)).setCell ⟨w.heap.size, 1, none⟩ (.int .i64 V.hi) := ⟨_, rfl⟩
          rw [← hwz] at kz bz hSz
          obtain ⟨c8, f8, l8⟩ := k8.rules
          refine held_one (i := 21) (by kernel_rfl) rfl rfl (fun K hK => ?_)
          go_simp
          rw [← hwz]
          clear hwz c8 f8 l8 hS
          refine hK _ _ hSz ?_
          clear hK K
          have hS := hSz
          try simp only [Act.put, List.setIfInBounds_toArray, List.set_cons_zero, List.set_cons_succ]
          refine held_take (i := 22) (v := ?_) 9 rfl rfl (by kernel_rfl) (by kernel_rfl) (by kernel_rfl) (fun _ _ _ h => h) (Or.inl ⟨by rfl, ?_⟩) hS ?_
          rotate_left 1
          · intro w' hSw
            try dsimp only at hSw
            obtain ⟨⟨p0, p1, p2, p3, p4, p5⟩, q0, q1, q2, q3, q4, q5⟩ := hSw
            go_simp
            all_goals with_reducible rfl
          try simp only [Act.put, List.setIfInBounds_toArray, List.set_cons_zero, List.set_cons_succ]
          refine wpAnyH_done (by kernel_rfl) (noPanic_normal ?_) _
          clear hS
          go_wp2
          obtain ⟨c8, f8, l8⟩ := kz.rules
          exact bodyPost_ret (v := .tuple #[.agg #[.int .i64 V.lo, .int .i64 V.hi], .int .i64 0]) (by simp [results, Tryz.results33, go_sem, c8]) rfl ⟨rfl, bz⟩
        · have hv : apprR ds es i k = (⟨0, 0⟩, 3) := by unfold apprR; rw [hs, if_pos rfl, if_neg (by unfold twoOk; simp; omega)]
          rw [hv]
          simp only [decide_eq_false (show ¬ (0 ≤ k ∧ k ≤ (n : Int) - 1) by omega)] at hb2
          clear hv hs hdl hel hle hi hk
          replace hik := Lib.hid hik
          dsimp only
          go_enter Tryz.func33, Tryz.ntmps33
          go_wp2_with fail
          rw [← hw1]
          clear hw1
          refine (hsp _ hL hM).mono ?_
          rintro e W ⟨P, np, cp, rfl, hP, hbel⟩
          clear hsp
          replace k8 := k8.below hbel
          replace b := b.trans (hbel.mono b.size)
          replace hL := hL.below hbel
          replace hM := hM.below hbel
          clear hbel
          clear hP
          go_wp2_with fail
          refine (hb1 _).mono ?_
          rintro e w' ⟨rfl, rfl⟩
          go_wp2_with fail
          refine (hb2 _).mono ?_
          rintro e w' ⟨rfl, rfl⟩
          have kz := (k8.set_ 0 (.int .i64 (0))).set_ 1 (.int .i64 (0))
          simp only [List.setIfInBounds_toArray, List.set_cons_zero, List.set_cons_succ] at kz
          have bz := (b.setCell (p := ⟨w.heap.size, 0, none⟩) (Nat.le_refl _) (.int .i64 (0))).setCell (p := ⟨w.heap.size, 1, none⟩) (Nat.le_refl _) (.int .i64 (0))
          obtain ⟨wz, hwz⟩ : ∃ q, q = (W.setCell ⟨w.heap.size, 0, none⟩ (.int .i64 (0))).setCell ⟨w.heap.size, 1, none⟩ (.int .i64 (0)) := ⟨_, rfl⟩
          rw [← hwz] at kz bz
          obtain ⟨c8, f8, l8⟩ := k8.rules
          go_wp2
          rw [← hwz]
          clear hwz c8 f8 l8
          obtain ⟨c8, f8, l8⟩ := kz.rules
          exact bodyPost_ret (v := .tuple #[.agg #[.int .i64 (0), .int .i64 (0)], .int .i64 3]) (by simp [results, Tryz.results33, go_sem, c8]) rfl ⟨rfl, bz⟩
      · have hv : apprR ds es i k = (⟨0, 0⟩, 3) := by unfold apprR; rw [hs, if_pos rfl, if_neg (by unfold twoOk; simp; omega)]
        rw [hv]
        simp only [decide_eq_false (show ¬ (0 ≤ i ∧ i ≤ (n : Int) - 1) by omega)] at hb1
        clear hv hs hdl hel hle hi hb2
        replace hik := Lib.hid hik
        dsimp only
        go_enter Tryz.func33, Tryz.ntmps33
        go_wp2_with fail
        rw [← hw1]
        clear hw1
        refine (hsp _ hL hM).mono ?_
        rintro e W ⟨P, np, cp, rfl, hP, hbel⟩
        clear hsp
        replace k8 := k8.below hbel
        replace b := b.trans (hbel.mono b.size)
        replace hL := hL.below hbel
        replace hM := hM.below hbel
        clear hbel
        clear hP
        go_wp2_with fail
        refine (hb1 _).mono ?_
        rintro e w' ⟨rfl, rfl⟩
        have kz := (k8.set_ 0 (.int .i64 (0))).set_ 1 (.int .i64 (0))
        simp only [List.setIfInBounds_toArray, List.set_cons_zero, List.set_cons_succ] at kz
        have bz := (b.setCell (p := ⟨w.heap.size, 0, none⟩) (Nat.le_refl _) (.int .i64 (0))).setCell (p := ⟨w.heap.size, 1, none⟩) (Nat.le_refl _) (.int .i64 (0))
        obtain ⟨wz, hwz⟩ : ∃ q, q = (W.setCell ⟨w.heap.size, 0, none⟩ (.int .i64 (0))).setCell ⟨w.heap.size, 1, none⟩ (.int .i64 (0)) := ⟨_, rfl⟩
        rw [← hwz] at kz bz
        obtain ⟨c8, f8, l8⟩ := k8.rules
        go_wp2
        rw [← hwz]
        clear hwz c8 f8 l8
        obtain ⟨c8, f8, l8⟩ := kz.rules
        exact bodyPost_ret (v := .tuple #[.agg #[.int .i64 (0), .int .i64 (0)], .int .i64 3]) (by simp [results, Tryz.results33, go_sem, c8]) rfl ⟨rfl, bz⟩
end Go.Proofs.YtjiaepphnddpoaaGreat
namespace Go.Proofs.YtjiaepphnddpoaaGreat
open Go.RowKit Go.Shelf
set_option linter.unusedSimpArgs false
set_option linter.unusedVariables false
theorem Tryz.infoStr : (Tryz.prog.info? 26).map (fun i => (i.zero, i.size, i.bytes)) = some (some (.agg #[.int .i64 0, .slice none 0 0, .int .i64 0, .int .i64 0, .int .i64 0]), 5, 56) := by kernel_rfl
theorem Tryz.infoBs : (Tryz.prog.info? 27).map (fun i => (i.zero, i.size, i.bytes)) = some (some (.slice none 0 0), 1, 24) := by kernel_rfl
def TlL (w : World) (A : Option Addr) (n c : Nat) (ts : List TlD) : Prop := SlAt w 0 6 TlD.cells A n c ts ∧ ∀ t ∈ ts, StOk w t.t ∧ BdOk w t.b
set_option maxRecDepth 100000 in
set_option maxHeartbeats 2000000 in
theorem split_any (A : Option Addr) (n c : Nat) (ts : List TlD) (w : World) (hA : TlL w A n c ts) (hnb : n * 80 ≤ 140737488355328) :
    Calls Tryz.prog 32 #[.slice A n c] w fun e w' => ∃ P pc Q qc, e = .returned (.tuple #[.slice P n pc, .slice Q n qc]) ∧ SpL w' P n pc (ts.map (·.t)) ∧ BpL w' Q n qc (ts.map (·.b)) ∧ Below w.heap.size w w' := by
  have hlen := Lib.hid hA.1.len
  obtain ⟨is, ish, is0, is1, is2⟩ := info_parts Tryz.infoStr
  obtain ⟨ib, ibh, ib0, ib1, ib2⟩ := info_parts Tryz.infoBs
  replace hA := Lib.hid hA
  go_enter Tryz.func32, Tryz.ntmps32
  go_wp2_with fail
  go_loopw [4, 5, 6] (fun v u i wr => ∃ k : Nat, i = .int .i64 k ∧ k ≤ n ∧ wr.ownsRow w.heap.size 26 5 v k (((ts.take k).map (·.t)).flatMap StD.cells) ∧ wr.ownsRow w.heap.size 27 1 u k (((ts.take k).map (·.b)).flatMap BdD.cells) ∧ (∀ q, v.ownBlock = some q → u.ownBlock = some q → False) ∧ Below w.heap.size w wr) (fun v u i wr => n - (intOf i).toNat)
  case atStart => exact ⟨0, rfl, Nat.zero_le _, ⟨rfl, .inl ⟨rfl, rfl⟩⟩, ⟨rfl, .inl ⟨rfl, rfl⟩⟩, (fun q h => by cases h), Below.refl _ _⟩
  case round =>
    obtain ⟨k, rfl, hk, rv, ru, hvu, hb⟩ := hrel
    by_cases hlt : k < n
    · have hk0 : (0 : Int) ≤ (k : Int) := by omega
      have hk1 : (k : Int) < (n : Int) := by omega
      obtain ⟨x, hx⟩ := some_of_lt hlen.out hlt
      have hvx : ∀ q, u4.ownBlock = some q → w.heap.size ≤ q ∧ q < wr.heap.size := fun q e => rv.lt q e
      have hux : ∀ q, u5.ownBlock = some q → w.heap.size ≤ q ∧ q < wr.heap.size := fun q e => ru.lt q e
      obtain ⟨bL, oL, hA2, -, hbL, z0, z1, z2, z3, z4, z5⟩ := hA.out.1.tld hx
      subst hA2
      have htk : Hid (ts.take (k + 1) = ts.take k ++ [x]) := by show _ = _; rw [List.take_add_one, hx]; rfl
      replace hx := Lib.hid hx
      have hbig1 : Hid (k + 1 ≤ maxLen) := by show k + 1 ≤ maxLen; unfold maxLen; omega
      have hbig2 : Hid ((k + 1) * 56 ≤ 140737488355328) := by show (k + 1) * 56 ≤ 140737488355328; omega
      have hbig3 : Hid ((k + 1) * 24 ≤ 140737488355328) := by show (k + 1) * 24 ≤ 140737488355328; omega
      go_wp2_with fail
      refine wp_held_np (fun w' : World => w'.cell? ⟨bL, oL + k * 6, none⟩ = some (.int .i64 x.t.s.head) ∧ w'.cell? ⟨bL, oL + k * 6 + 1, none⟩ = some (.slice x.t.A x.t.n x.t.c) ∧ w'.cell? ⟨bL, oL + k * 6 + 2, none⟩ = some (.int .i64 x.t.s.lane.lo) ∧ w'.cell? ⟨bL, oL + k * 6 + 3, none⟩ = some (.int .i64 x.t.s.lane.hi) ∧ w'.cell? ⟨bL, oL + k * 6 + 4, none⟩ = some (.int .i64 x.t.s.bend) ∧ w'.cell? ⟨bL, oL + k * 6 + 5, none⟩ = some (.slice x.b.O x.b.n x.b.c)) (by kernel_rfl) ?_
      have hSb : Hid (∀ W', Below w.heap.size wr W' → (fun w' : World => w'.cell? ⟨bL, oL + k * 6, none⟩ = some (.int .i64 x.t.s.head) ∧ w'.cell? ⟨bL, oL + k * 6 + 1, none⟩ = some (.slice x.t.A x.t.n x.t.c) ∧ w'.cell? ⟨bL, oL + k * 6 + 2, none⟩ = some (.int .i64 x.t.s.lane.lo) ∧ w'.cell? ⟨bL, oL + k * 6 + 3, none⟩ = some (.int .i64 x.t.s.lane.hi) ∧ w'.cell? ⟨bL, oL + k * 6 + 4, none⟩ = some (.int .i64 x.t.s.bend) ∧ w'.cell? ⟨bL, oL + k * 6 + 5, none⟩ = some (.slice x.b.O x.b.n x.b.c)) W') := by
        show ∀ _, _
        intro W' hb2
        have hb3 := hb.trans hb2
        have h := hA.out.1.tld hx.out
        exact ⟨(hb3.cell (p := ⟨bL, oL + k * 6, none⟩) hbL).trans z0, (hb3.cell (p := ⟨bL, oL + k * 6 + 1, none⟩) hbL).trans z1, (hb3.cell (p := ⟨bL, oL + k * 6 + 2, none⟩) hbL).trans z2, (hb3.cell (p := ⟨bL, oL + k * 6 + 3, none⟩) hbL).trans z3, (hb3.cell (p := ⟨bL, oL + k * 6 + 4, none⟩) hbL).trans z4, (hb3.cell (p := ⟨bL, oL + k * 6 + 5, none⟩) hbL).trans z5⟩
      clear z0 z1 z2 z3 z4 z5
      have hb9 : Below w.heap.size wr wr.drew := (Below.refl _ _).drew
      have hS := hSb.out _ hb9
      have sbwd : wr.heap.size ≤ wr.drew.heap.size := Nat.le_refl _
      replace rv : wr.drew.ownsRow _ _ _ _ _ _ := rv
      replace ru : wr.drew.ownsRow _ _ _ _ _ _ := ru
      generalize wr.drew = wd at *
      refine held_take (i := 0) (v := ?_) 13 rfl rfl (by kernel_rfl) (by kernel_rfl) (by kernel_rfl) (fun _ _ _ h => h) (Or.inl ⟨by rfl, ?_⟩) hS ?_
      rotate_left 1
      · intro w' hSw
        try dsimp only at hSw
        obtain ⟨z0, z1, z2, z3, z4, z5⟩ := hSw
        go_simp
        all_goals with_reducible rfl
      try simp only [Act.put, List.setIfInBounds_toArray, List.set_cons_zero, List.set_cons_succ]
      refine held_take (i := 1) (v := ?_) 14 rfl rfl (by kernel_rfl) (by kernel_rfl) (by kernel_rfl) (fun _ _ _ h => h) (Or.inl ⟨by rfl, ?_⟩) hS ?_
      rotate_left 1
      · intro w' hSw
        try dsimp only at hSw
        obtain ⟨z0, z1, z2, z3, z4, z5⟩ := hSw
        go_simp
        all_goals with_reducible rfl
      try simp only [Act.put, List.setIfInBounds_toArray, List.set_cons_zero, List.set_cons_succ]
      refine held_take (i := 2) (v := ?_) 15 rfl rfl (by kernel_rfl) (by kernel_rfl) (by kernel_rfl) (fun _ _ _ h => h) (Or.inl ⟨by rfl, ?_⟩) hS ?_
      rotate_left 1
      · intro w' hSw
        try dsimp only at hSw
        obtain ⟨z0, z1, z2, z3, z4, z5⟩ := hSw
        go_simp
        all_goals with_reducible rfl
      try simp only [Act.put, List.setIfInBounds_toArray, List.set_cons_zero, List.set_cons_succ]
      refine held_take (i := 3) (v := ?_) 16 rfl rfl (by kernel_rfl) (by kernel_rfl) (by kernel_rfl) (fun _ _ _ h => h) (Or.inl ⟨by rfl, ?_⟩) hS ?_
      rotate_left 1
      · intro w' hSw
        try dsimp only at hSw
        obtain ⟨z0, z1, z2, z3, z4, z5⟩ := hSw
        go_simp
        all_goals with_reducible rfl
      try simp only [Act.put, List.setIfInBounds_toArray, List.set_cons_zero, List.set_cons_succ]
      refine held_take (i := 4) (v := ?_) 17 rfl rfl (by kernel_rfl) (by kernel_rfl) (by kernel_rfl) (fun _ _ _ h => h) (Or.inl ⟨by rfl, ?_⟩) hS ?_
      rotate_left 1
      · intro w' hSw
        try dsimp only at hSw
        obtain ⟨z0, z1, z2, z3, z4, z5⟩ := hSw
        go_simp
        all_goals with_reducible rfl
      try simp only [Act.put, List.setIfInBounds_toArray, List.set_cons_zero, List.set_cons_succ]
      refine held_take (i := 5) (v := ?_) 18 rfl rfl (by kernel_rfl) (by kernel_rfl) (by kernel_rfl) (fun _ _ _ h => h) (Or.inl ⟨by rfl, ?_⟩) hS ?_
      rotate_left 1
      · intro w' hSw
        try dsimp only at hSw
        obtain ⟨z0, z1, z2, z3, z4, z5⟩ := hSw
        go_simp
        all_goals with_reducible rfl
      try simp only [Act.put, List.setIfInBounds_toArray, List.set_cons_zero, List.set_cons_succ]
      refine held_take (i := 8) (v := ?_) 21 rfl rfl (by kernel_rfl) (by kernel_rfl) (by kernel_rfl) (fun _ _ _ h => h) (Or.inl ⟨by rfl, ?_⟩) hS ?_
      rotate_left 1
      · intro w' hSw
        try dsimp only at hSw
        obtain ⟨z0, z1, z2, z3, z4, z5⟩ := hSw
        go_simp
        all_goals with_reducible rfl
      try simp only [Act.put, List.setIfInBounds_toArray, List.set_cons_zero, List.set_cons_succ]
      refine held_take (i := 9) (v := ?_) 22 rfl rfl (by kernel_rfl) (by kernel_rfl) (by kernel_rfl) (fun _ _ _ h => h) (Or.inl ⟨by rfl, ?_⟩) hS ?_
      rotate_left 1
      · intro w' hSw
        try dsimp only at hSw
        obtain ⟨z0, z1, z2, z3, z4, z5⟩ := hSw
        go_simp
        all_goals with_reducible rfl
      try simp only [Act.put, List.setIfInBounds_toArray, List.set_cons_zero, List.set_cons_succ]
      refine held_take (i := 10) (v := ?_) 23 rfl rfl (by kernel_rfl) (by kernel_rfl) (by kernel_rfl) (fun _ _ _ h => h) (Or.inl ⟨by rfl, ?_⟩) hS ?_
      rotate_left 1
      · intro w' hSw
        try dsimp only at hSw
        obtain ⟨z0, z1, z2, z3, z4, z5⟩ := hSw
        go_simp
        all_goals with_reducible rfl
      try simp only [Act.put, List.setIfInBounds_toArray, List.set_cons_zero, List.set_cons_succ]
      refine held_take (i := 11) (v := ?_) 24 rfl rfl (by kernel_rfl) (by kernel_rfl) (by kernel_rfl) (fun _ _ _ h => h) (Or.inl ⟨by rfl, ?_⟩) hS ?_
      rotate_left 1
      · intro w' hSw
        try dsimp only at hSw
        obtain ⟨z0, z1, z2, z3, z4, z5⟩ := hSw
        go_simp
        all_goals with_reducible rfl
      try simp only [Act.put, List.setIfInBounds_toArray, List.set_cons_zero, List.set_cons_succ]
      refine held_take (i := 12) (v := ?_) 25 rfl rfl (by kernel_rfl) (by kernel_rfl) (by kernel_rfl) (fun _ _ _ h => h) (Or.inl ⟨by rfl, ?_⟩) hS ?_
      rotate_left 1
      · intro w' hSw
        try dsimp only at hSw
        obtain ⟨z0, z1, z2, z3, z4, z5⟩ := hSw
        go_simp
        all_goals with_reducible rfl
      try simp only [Act.put, List.setIfInBounds_toArray, List.set_cons_zero, List.set_cons_succ]
      refine held_take (i := 13) (v := ?_) 26 rfl rfl (by kernel_rfl) (by kernel_rfl) (by kernel_rfl) (fun _ _ _ h => h) (Or.inl ⟨by rfl, ?_⟩) hS ?_
      rotate_left 1
      · intro w' hSw
        try dsimp only at hSw
        obtain ⟨z0, z1, z2, z3, z4, z5⟩ := hSw
        go_simp
        all_goals with_reducible rfl
      try simp only [Act.put, List.setIfInBounds_toArray, List.set_cons_zero, List.set_cons_succ]
      clear hS
      refine wpAnyH_fin (f := fun a (q : Value × Value × Value × Value) => (((((a.put (some 19) q.1).put (some 20) q.2.1).put (some 27) q.2.2.1).put (some 28) q.2.2.2).put (some 4) q.2.1).put (some 5) q.2.2.2) (B := fun q W' => W'.ownsRow w.heap.size 26 5 q.2.1 (k + 1) (((ts.take k).map (·.t)).flatMap StD.cells ++ x.t.cells) ∧ W'.ownsRow w.heap.size 27 1 q.2.2.2 (k + 1) (((ts.take k).map (·.b)).flatMap BdD.cells ++ x.b.cells) ∧ (∀ p, q.2.1.ownBlock = some p → q.2.2.2.ownBlock = some p → False) ∧ Below w.heap.size wr W') ?_ (fun hrest => ?_)
      · rintro ⟨v19, v20, v27, v28⟩ W3 ⟨ha1, ha2, ha3, ha4⟩
        try simp only [Act.put, List.setIfInBounds_toArray, List.set_cons_zero, List.set_cons_succ]
        refine noPanic_normal ?_
        clear hSb hb9
        go_wp2_with fail
        go_roundw
        case rel =>
          refine ⟨k + 1, by go_num, by omega, ?_, ?_, ha3, hb.trans ha4⟩
          · rw [htk.out, List.map_append, List.flatMap_append]; simpa using ha1
          · rw [htk.out, List.map_append, List.flatMap_append]; simpa using ha2
        case measure => simp [intOf]; omega
      · try simp only [Act.put, List.setIfInBounds_toArray, List.set_cons_zero, List.set_cons_succ] at hrest
        refine held_two (i := 6) (j := 14) (by kernel_rfl) rfl rfl rfl rfl (fun K hK => ?_) (fun K hK => ?_)
        · skip
          go_simp
          have n6 := Blk.new wd 26 #[Value.int .i64 x.t.s.head, .slice x.t.A x.t.n x.t.c, .int .i64 x.t.s.lane.lo, .int .i64 x.t.s.lane.hi, .int .i64 x.t.s.bend]
          have hbel := (Below.refl wd.heap.size wd).alloc (Nat.le_refl _) (.cells #[Value.int .i64 x.t.s.head, .slice x.t.A x.t.n x.t.c, .int .i64 x.t.s.lane.lo, .int .i64 x.t.s.lane.hi, .int .i64 x.t.s.bend] 26)
          have szB : wd.heap.size < (wd.alloc (.cells #[Value.int .i64 x.t.s.head, .slice x.t.A x.t.n x.t.c, .int .i64 x.t.s.lane.lo, .int .i64 x.t.s.lane.hi, .int .i64 x.t.s.bend] 26)).heap.size := by rw [World.size_alloc]; omega
          generalize wd.alloc (.cells #[Value.int .i64 x.t.s.head, .slice x.t.A x.t.n x.t.c, .int .i64 x.t.s.lane.lo, .int .i64 x.t.s.lane.hi, .int .i64 x.t.s.bend] 26) = X1 at *
          have szX1 : wd.heap.size < X1.heap.size := szB
          clear szB
          try replace n6 := n6.below hbel
          try replace n14 := n14.below hbel
          try replace rv := ownsRow_below rv hbel
          try replace ru := ownsRow_below ru hbel
          try replace r7 := ownsRow_below r7 hbel
          replace hb9 := hb9.trans (hbel.mono (Nat.le_trans hb.size sbwd))
          clear hbel
          have sbX1 := Nat.le_trans sbwd (Nat.le_of_lt szX1)
          refine hK _ _ (hSb.out _ hb9) ?_
          clear hK K
          try simp only [Act.put, List.setIfInBounds_toArray, List.set_cons_zero, List.set_cons_succ]
          have hg6 : wr.heap.size ≤ wd.heap.size := sbwd
          generalize hge6 : wd.heap.size = g6 at n6 hg6
          refine held_two (i := 7) (j := 14) (by kernel_rfl) rfl rfl rfl rfl (fun K hK => ?_) (fun K hK => ?_)
          · skip
            refine wp_append_lies _ _ _ 70 (by rfl) w.heap.size 26 is (.agg #[.int .i64 0, .slice none 0 0, .int .i64 0, .int .i64 0, .int .i64 0]) 5 56 Tryz.underlying70 ish is0 is1 is2 rfl (by omega) u4 k (((ts.take k).map (·.t)).flatMap StD.cells) (by rfl) rv ⟨g6, 0, none⟩ 1 1 x.t.cells (by rfl) rfl (World.news_of_block (cs := #[Value.int .i64 x.t.s.head, .slice x.t.A x.t.n x.t.c, .int .i64 x.t.s.lane.lo, .int .i64 x.t.s.lane.hi, .int .i64 x.t.s.bend]) n6) (by simp [Value.oneCell', StD.cells, BdD.cells]) (by omega) hbig1.out hbig2.out (Nat.le_trans hb.size sbX1) X1.heap.size rfl ?_
            intro b7 c7 X2 r7 hgrow hlies7 hlt7
            have hbx : Below w.heap.size X1 X2 := ⟨hgrow.os, hgrow.tape, hgrow.output, hgrow.size, fun b hb2 => hgrow.block b (Nat.lt_of_lt_of_le hb2 (Nat.le_trans hb.size sbX1)) (fun e => by have := hvx _ e.symm; omega)⟩
            have sbX2 := Nat.le_trans sbX1 hgrow.size
            replace ru := ru.kept hgrow (by
              by_cases h0 : u5.ownBlock = none
              · exact .inl h0
              · obtain ⟨q, hq⟩ := Option.ne_none_iff_exists'.1 h0
                exact .inr (fun e => hvu q (by rw [← e]; exact hq) hq))
            try replace n14 := n14.grown hgrow (fun e => by have := hvx _ e.symm; omega)
            have hd7 : u5.ownBlock ≠ some b7 := fun e => by
              rcases hlies7 with h | h
              · exact hvu _ h e
              · have := hux _ e; omega
            replace hb9 := hb9.trans hbx
            clear hbx hgrow
            refine hK _ _ (hSb.out _ hb9) ?_
            clear hK K
            try simp only [Act.put, List.setIfInBounds_toArray, List.set_cons_zero, List.set_cons_succ]
            refine held_one (i := 14) (by kernel_rfl) rfl rfl (fun K hK => ?_)
            go_simp
            have n14 := Blk.new X2 27 #[Value.slice x.b.O x.b.n x.b.c]
            have hbel := (Below.refl X2.heap.size X2).alloc (Nat.le_refl _) (.cells #[Value.slice x.b.O x.b.n x.b.c] 27)
            have szB : X2.heap.size < (X2.alloc (.cells #[Value.slice x.b.O x.b.n x.b.c] 27)).heap.size := by rw [World.size_alloc]; omega
            generalize X2.alloc (.cells #[Value.slice x.b.O x.b.n x.b.c] 27) = X3 at *
            have szX3 : X2.heap.size < X3.heap.size := szB
            clear szB
            try replace n6 := n6.below hbel
            try replace n14 := n14.below hbel
            try replace rv := ownsRow_below rv hbel
            try replace ru := ownsRow_below ru hbel
            try replace r7 := ownsRow_below r7 hbel
            replace hb9 := hb9.trans (hbel.mono (Nat.le_trans hb.size sbX2))
            clear hbel
            have sbX3 := Nat.le_trans sbX2 (Nat.le_of_lt szX3)
            refine hK _ _ (hSb.out _ hb9) ?_
            clear hK K
            try simp only [Act.put, List.setIfInBounds_toArray, List.set_cons_zero, List.set_cons_succ]
            have hg14 : wr.heap.size ≤ X2.heap.size := sbX2
            generalize hge14 : X2.heap.size = g14 at n14 hg14
            refine held_one (i := 15) (by kernel_rfl) rfl rfl (fun K hK => ?_)
            refine wp_append_lies _ _ _ 71 (by rfl) w.heap.size 27 ib (.slice none 0 0) 1 24 Tryz.underlying71 ibh ib0 ib1 ib2 rfl (by omega) u5 k (((ts.take k).map (·.b)).flatMap BdD.cells) (by rfl) ru ⟨g14, 0, none⟩ 1 1 x.b.cells (by rfl) rfl (World.news_of_block (cs := #[Value.slice x.b.O x.b.n x.b.c]) n14) (by simp [Value.oneCell', StD.cells, BdD.cells]) (by omega) hbig1.out hbig3.out (Nat.le_trans hb.size sbX3) X3.heap.size rfl ?_
            intro b15 c15 X4 r15 hgrow hlies15 hlt15
            have hbx : Below w.heap.size X3 X4 := ⟨hgrow.os, hgrow.tape, hgrow.output, hgrow.size, fun b hb2 => hgrow.block b (Nat.lt_of_lt_of_le hb2 (Nat.le_trans hb.size sbX3)) (fun e => by have := hux _ e.symm; omega)⟩
            have sbX4 := Nat.le_trans sbX3 hgrow.size
            have hlt7b := r7.lt b7 rfl
            have hd15 : b7 ≠ b15 := fun e => by
              rcases hlies15 with h | h
              · exact hd7 (by rw [e]; exact h)
              · omega
            replace r7 := r7.kept hgrow (.inr (fun e => hd7 (by rw [← e]; rfl)))
            replace hb9 := hb9.trans hbx
            clear hbx hgrow
            refine hK _ _ (hSb.out _ hb9) ?_
            clear hK K
            try simp only [Act.put, List.setIfInBounds_toArray, List.set_cons_zero, List.set_cons_succ]
            have hS := hSb.out _ hb9
            refine held_take (i := 16) (v := ?_) 4 rfl rfl (by kernel_rfl) (by kernel_rfl) (by kernel_rfl) (fun _ _ _ h => h) (Or.inl ⟨by rfl, ?_⟩) hS ?_
            rotate_left 1
            · intro w' hSw
              try dsimp only at hSw
              obtain ⟨z0, z1, z2, z3, z4, z5⟩ := hSw
              go_simp
              all_goals with_reducible rfl
            try simp only [Act.put, List.setIfInBounds_toArray, List.set_cons_zero, List.set_cons_succ]
            refine held_take (i := 17) (v := ?_) 5 rfl rfl (by kernel_rfl) (by kernel_rfl) (by kernel_rfl) (fun _ _ _ h => h) (Or.inl ⟨by rfl, ?_⟩) hS ?_
            rotate_left 1
            · intro w' hSw
              try dsimp only at hSw
              obtain ⟨z0, z1, z2, z3, z4, z5⟩ := hSw
              go_simp
              all_goals with_reducible rfl
            try simp only [Act.put, List.setIfInBounds_toArray, List.set_cons_zero, List.set_cons_succ]
            refine wpAnyH_done (by kernel_rfl) (hrest (_, _, _, _) _ ⟨r7, r15, (by intro q h1 h2; simp only [Value.ownBlock, Option.some.injEq] at h1 h2; omega), hb9⟩) _
          · skip
            go_simp
            have n14 := Blk.new X1 27 #[Value.slice x.b.O x.b.n x.b.c]
            have hbel := (Below.refl X1.heap.size X1).alloc (Nat.le_refl _) (.cells #[Value.slice x.b.O x.b.n x.b.c] 27)
            have szB : X1.heap.size < (X1.alloc (.cells #[Value.slice x.b.O x.b.n x.b.c] 27)).heap.size := by rw [World.size_alloc]; omega
            generalize X1.alloc (.cells #[Value.slice x.b.O x.b.n x.b.c] 27) = X5 at *
            have szX5 : X1.heap.size < X5.heap.size := szB
            clear szB
            try replace n6 := n6.below hbel
            try replace n14 := n14.below hbel
            try replace rv := ownsRow_below rv hbel
            try replace ru := ownsRow_below ru hbel
            try replace r7 := ownsRow_below r7 hbel
            replace hb9 := hb9.trans (hbel.mono (Nat.le_trans hb.size sbX1))
            clear hbel
            have sbX5 := Nat.le_trans sbX1 (Nat.le_of_lt szX5)
            refine hK _ _ (hSb.out _ hb9) ?_
            clear hK K
            try simp only [Act.put, List.setIfInBounds_toArray, List.set_cons_zero, List.set_cons_succ]
            have hg14 : wr.heap.size ≤ X1.heap.size := sbX1
            generalize hge14 : X1.heap.size = g14 at n14 hg14
            refine held_one (i := 7) (by kernel_rfl) rfl rfl (fun K hK => ?_)
            refine wp_append_lies _ _ _ 70 (by rfl) w.heap.size 26 is (.agg #[.int .i64 0, .slice none 0 0, .int .i64 0, .int .i64 0, .int .i64 0]) 5 56 Tryz.underlying70 ish is0 is1 is2 rfl (by omega) u4 k (((ts.take k).map (·.t)).flatMap StD.cells) (by rfl) rv ⟨g6, 0, none⟩ 1 1 x.t.cells (by rfl) rfl (World.news_of_block (cs := #[Value.int .i64 x.t.s.head, .slice x.t.A x.t.n x.t.c, .int .i64 x.t.s.lane.lo, .int .i64 x.t.s.lane.hi, .int .i64 x.t.s.bend]) n6) (by simp [Value.oneCell', StD.cells, BdD.cells]) (by omega) hbig1.out hbig2.out (Nat.le_trans hb.size sbX5) X5.heap.size rfl ?_
            intro b7 c7 X6 r7 hgrow hlies7 hlt7
            have hbx : Below w.heap.size X5 X6 := ⟨hgrow.os, hgrow.tape, hgrow.output, hgrow.size, fun b hb2 => hgrow.block b (Nat.lt_of_lt_of_le hb2 (Nat.le_trans hb.size sbX5)) (fun e => by have := hvx _ e.symm; omega)⟩
            have sbX6 := Nat.le_trans sbX5 hgrow.size
            replace ru := ru.kept hgrow (by
              by_cases h0 : u5.ownBlock = none
              · exact .inl h0
              · obtain ⟨q, hq⟩ := Option.ne_none_iff_exists'.1 h0
                exact .inr (fun e => hvu q (by rw [← e]; exact hq) hq))
            try replace n14 := n14.grown hgrow (fun e => by have := hvx _ e.symm; omega)
            have hd7 : u5.ownBlock ≠ some b7 := fun e => by
              rcases hlies7 with h | h
              · exact hvu _ h e
              · have := hux _ e; omega
            replace hb9 := hb9.trans hbx
            clear hbx hgrow
            refine hK _ _ (hSb.out _ hb9) ?_
            clear hK K
            try simp only [Act.put, List.setIfInBounds_toArray, List.set_cons_zero, List.set_cons_succ]
            refine held_one (i := 15) (by kernel_rfl) rfl rfl (fun K hK => ?_)
            refine wp_append_lies _ _ _ 71 (by rfl) w.heap.size 27 ib (.slice none 0 0) 1 24 Tryz.underlying71 ibh ib0 ib1 ib2 rfl (by omega) u5 k (((ts.take k).map (·.b)).flatMap BdD.cells) (by rfl) ru ⟨g14, 0, none⟩ 1 1 x.b.cells (by rfl) rfl (World.news_of_block (cs := #[Value.slice x.b.O x.b.n x.b.c]) n14) (by simp [Value.oneCell', StD.cells, BdD.cells]) (by omega) hbig1.out hbig3.out (Nat.le_trans hb.size sbX6) X6.heap.size rfl ?_
            intro b15 c15 X7 r15 hgrow hlies15 hlt15
            have hbx : Below w.heap.size X6 X7 := ⟨hgrow.os, hgrow.tape, hgrow.output, hgrow.size, fun b hb2 => hgrow.block b (Nat.lt_of_lt_of_le hb2 (Nat.le_trans hb.size sbX6)) (fun e => by have := hux _ e.symm; omega)⟩
            have sbX7 := Nat.le_trans sbX6 hgrow.size
            have hlt7b := r7.lt b7 rfl
            have hd15 : b7 ≠ b15 := fun e => by
              rcases hlies15 with h | h
              · exact hd7 (by rw [e]; exact h)
              · omega
            replace r7 := r7.kept hgrow (.inr (fun e => hd7 (by rw [← e]; rfl)))
            replace hb9 := hb9.trans hbx
            clear hbx hgrow
            refine hK _ _ (hSb.out _ hb9) ?_
            clear hK K
            try simp only [Act.put, List.setIfInBounds_toArray, List.set_cons_zero, List.set_cons_succ]
            have hS := hSb.out _ hb9
            refine held_take (i := 16) (v := ?_) 4 rfl rfl (by kernel_rfl) (by kernel_rfl) (by kernel_rfl) (fun _ _ _ h => h) (Or.inl ⟨by rfl, ?_⟩) hS ?_
            rotate_left 1
            · intro w' hSw
              try dsimp only at hSw
              obtain ⟨z0, z1, z2, z3, z4, z5⟩ := hSw
              go_simp
              all_goals with_reducible rfl
            try simp only [Act.put, List.setIfInBounds_toArray, List.set_cons_zero, List.set_cons_succ]
            refine held_take (i := 17) (v := ?_) 5 rfl rfl (by kernel_rfl) (by kernel_rfl) (by kernel_rfl) (fun _ _ _ h => h) (Or.inl ⟨by rfl, ?_⟩) hS ?_
            rotate_left 1
            · intro w' hSw
              try dsimp only at hSw
              obtain ⟨z0, z1, z2, z3, z4, z5⟩ := hSw
              go_simp
              all_goals with_reducible rfl
            try simp only [Act.put, List.setIfInBounds_toArray, List.set_cons_zero, List.set_cons_succ]
            refine wpAnyH_done (by kernel_rfl) (hrest (_, _, _, _) _ ⟨r7, r15, (by intro q h1 h2; simp only [Value.ownBlock, Option.some.injEq] at h1 h2; omega), hb9⟩) _
        · skip
          go_simp
          have n14 := Blk.new wd 27 #[Value.slice x.b.O x.b.n x.b.c]
          have hbel := (Below.refl wd.heap.size wd).alloc (Nat.le_refl _) (.cells #[Value.slice x.b.O x.b.n x.b.c] 27)
          have szB : wd.heap.size < (wd.alloc (.cells #[Value.slice x.b.O x.b.n x.b.c] 27)).heap.size := by rw [World.size_alloc]; omega
          generalize wd.alloc (.cells #[Value.slice x.b.O x.b.n x.b.c] 27) = X8 at *
          have szX8 : wd.heap.size < X8.heap.size := szB
          clear szB
          try replace n6 := n6.below hbel
          try replace n14 := n14.below hbel
          try replace rv := ownsRow_below rv hbel
          try replace ru := ownsRow_below ru hbel
          try replace r7 := ownsRow_below r7 hbel
          replace hb9 := hb9.trans (hbel.mono (Nat.le_trans hb.size sbwd))
          clear hbel
          have sbX8 := Nat.le_trans sbwd (Nat.le_of_lt szX8)
          refine hK _ _ (hSb.out _ hb9) ?_
          clear hK K
          try simp only [Act.put, List.setIfInBounds_toArray, List.set_cons_zero, List.set_cons_succ]
          have hg14 : wr.heap.size ≤ wd.heap.size := sbwd
          generalize hge14 : wd.heap.size = g14 at n14 hg14
          refine held_one (i := 6) (by kernel_rfl) rfl rfl (fun K hK => ?_)
          go_simp
          have n6 := Blk.new X8 26 #[Value.int .i64 x.t.s.head, .slice x.t.A x.t.n x.t.c, .int .i64 x.t.s.lane.lo, .int .i64 x.t.s.lane.hi, .int .i64 x.t.s.bend]
          have hbel := (Below.refl X8.heap.size X8).alloc (Nat.le_refl _) (.cells #[Value.int .i64 x.t.s.head, .slice x.t.A x.t.n x.t.c, .int .i64 x.t.s.lane.lo, .int .i64 x.t.s.lane.hi, .int .i64 x.t.s.bend] 26)
          have szB : X8.heap.size < (X8.alloc (.cells #[Value.int .i64 x.t.s.head, .slice x.t.A x.t.n x.t.c, .int .i64 x.t.s.lane.lo, .int .i64 x.t.s.lane.hi, .int .i64 x.t.s.bend] 26)).heap.size := by rw [World.size_alloc]; omega
          generalize X8.alloc (.cells #[Value.int .i64 x.t.s.head, .slice x.t.A x.t.n x.t.c, .int .i64 x.t.s.lane.lo, .int .i64 x.t.s.lane.hi, .int .i64 x.t.s.bend] 26) = X9 at *
          have szX9 : X8.heap.size < X9.heap.size := szB
          clear szB
          try replace n6 := n6.below hbel
          try replace n14 := n14.below hbel
          try replace rv := ownsRow_below rv hbel
          try replace ru := ownsRow_below ru hbel
          try replace r7 := ownsRow_below r7 hbel
          replace hb9 := hb9.trans (hbel.mono (Nat.le_trans hb.size sbX8))
          clear hbel
          have sbX9 := Nat.le_trans sbX8 (Nat.le_of_lt szX9)
          refine hK _ _ (hSb.out _ hb9) ?_
          clear hK K
          try simp only [Act.put, List.setIfInBounds_toArray, List.set_cons_zero, List.set_cons_succ]
          have hg6 : wr.heap.size ≤ X8.heap.size := sbX8
          generalize hge6 : X8.heap.size = g6 at n6 hg6
          refine held_one (i := 7) (by kernel_rfl) rfl rfl (fun K hK => ?_)
          refine wp_append_lies _ _ _ 70 (by rfl) w.heap.size 26 is (.agg #[.int .i64 0, .slice none 0 0, .int .i64 0, .int .i64 0, .int .i64 0]) 5 56 Tryz.underlying70 ish is0 is1 is2 rfl (by omega) u4 k (((ts.take k).map (·.t)).flatMap StD.cells) (by rfl) rv ⟨g6, 0, none⟩ 1 1 x.t.cells (by rfl) rfl (World.news_of_block (cs := #[Value.int .i64 x.t.s.head, .slice x.t.A x.t.n x.t.c, .int .i64 x.t.s.lane.lo, .int .i64 x.t.s.lane.hi, .int .i64 x.t.s.bend]) n6) (by simp [Value.oneCell', StD.cells, BdD.cells]) (by omega) hbig1.out hbig2.out (Nat.le_trans hb.size sbX9) X9.heap.size rfl ?_
          intro b7 c7 X10 r7 hgrow hlies7 hlt7
          have hbx : Below w.heap.size X9 X10 := ⟨hgrow.os, hgrow.tape, hgrow.output, hgrow.size, fun b hb2 => hgrow.block b (Nat.lt_of_lt_of_le hb2 (Nat.le_trans hb.size sbX9)) (fun e => by have := hvx _ e.symm; omega)⟩
          have sbX10 := Nat.le_trans sbX9 hgrow.size
          replace ru := ru.kept hgrow (by
            by_cases h0 : u5.ownBlock = none
            · exact .inl h0
            · obtain ⟨q, hq⟩ := Option.ne_none_iff_exists'.1 h0
              exact .inr (fun e => hvu q (by rw [← e]; exact hq) hq))
          try replace n14 := n14.grown hgrow (fun e => by have := hvx _ e.symm; omega)
          have hd7 : u5.ownBlock ≠ some b7 := fun e => by
            rcases hlies7 with h | h
            · exact hvu _ h e
            · have := hux _ e; omega
          replace hb9 := hb9.trans hbx
          clear hbx hgrow
          refine hK _ _ (hSb.out _ hb9) ?_
          clear hK K
          try simp only [Act.put, List.setIfInBounds_toArray, List.set_cons_zero, List.set_cons_succ]
          refine held_one (i := 15) (by kernel_rfl) rfl rfl (fun K hK => ?_)
          refine wp_append_lies _ _ _ 71 (by rfl) w.heap.size 27 ib (.slice none 0 0) 1 24 Tryz.underlying71 ibh ib0 ib1 ib2 rfl (by omega) u5 k (((ts.take k).map (·.b)).flatMap BdD.cells) (by rfl) ru ⟨g14, 0, none⟩ 1 1 x.b.cells (by rfl) rfl (World.news_of_block (cs := #[Value.slice x.b.O x.b.n x.b.c]) n14) (by simp [Value.oneCell', StD.cells, BdD.cells]) (by omega) hbig1.out hbig3.out (Nat.le_trans hb.size sbX10) X10.heap.size rfl ?_
          intro b15 c15 X11 r15 hgrow hlies15 hlt15
          have hbx : Below w.heap.size X10 X11 := ⟨hgrow.os, hgrow.tape, hgrow.output, hgrow.size, fun b hb2 => hgrow.block b (Nat.lt_of_lt_of_le hb2 (Nat.le_trans hb.size sbX10)) (fun e => by have := hux _ e.symm; omega)⟩
          have sbX11 := Nat.le_trans sbX10 hgrow.size
          have hlt7b := r7.lt b7 rfl
          have hd15 : b7 ≠ b15 := fun e => by
            rcases hlies15 with h | h
            · exact hd7 (by rw [e]; exact h)
            · omega
          replace r7 := r7.kept hgrow (.inr (fun e => hd7 (by rw [← e]; rfl)))
          replace hb9 := hb9.trans hbx
          clear hbx hgrow
          refine hK _ _ (hSb.out _ hb9) ?_
          clear hK K
          try simp only [Act.put, List.setIfInBounds_toArray, List.set_cons_zero, List.set_cons_succ]
          have hS := hSb.out _ hb9
          refine held_take (i := 16) (v := ?_) 4 rfl rfl (by kernel_rfl) (by kernel_rfl) (by kernel_rfl) (fun _ _ _ h => h) (Or.inl ⟨by rfl, ?_⟩) hS ?_
          rotate_left 1
          · intro w' hSw
            try dsimp only at hSw
            obtain ⟨z0, z1, z2, z3, z4, z5⟩ := hSw
            go_simp
            all_goals with_reducible rfl
          try simp only [Act.put, List.setIfInBounds_toArray, List.set_cons_zero, List.set_cons_succ]
          refine held_take (i := 17) (v := ?_) 5 rfl rfl (by kernel_rfl) (by kernel_rfl) (by kernel_rfl) (fun _ _ _ h => h) (Or.inl ⟨by rfl, ?_⟩) hS ?_
          rotate_left 1
          · intro w' hSw
            try dsimp only at hSw
            obtain ⟨z0, z1, z2, z3, z4, z5⟩ := hSw
            go_simp
            all_goals with_reducible rfl
          try simp only [Act.put, List.setIfInBounds_toArray, List.set_cons_zero, List.set_cons_succ]
          refine wpAnyH_done (by kernel_rfl) (hrest (_, _, _, _) _ ⟨r7, r15, (by intro q h1 h2; simp only [Value.ownBlock, Option.some.injEq] at h1 h2; omega), hb9⟩) _
    · obtain rfl : n = k := by omega
      rw [List.take_of_length_le (by rw [hlen.out]; exact Nat.le_refl _)] at rv ru
      obtain ⟨P, pc, rfl, hP⟩ := SlAt.of_own (enc := StD.cells) rv (by omega) (ts.map (·.t)) rfl (fun _ => rfl) (by rw [List.length_map, hlen.out])
      obtain ⟨Q, qc, rfl, hQ⟩ := SlAt.of_own (enc := BdD.cells) ru (by omega) (ts.map (·.b)) rfl (fun _ => rfl) (by rw [List.length_map, hlen.out])
      clear rv ru hvu
      go_wp2
      go_ret2
      refine ⟨P, pc, Q, qc, rfl, ⟨hP.mono (Nat.zero_le _), ?_⟩, ⟨hQ.mono (Nat.zero_le _), ?_⟩, hb⟩
      · intro d hd
        obtain ⟨t, ht, rfl⟩ := List.mem_map.1 hd
        exact SlAt.below (hA.out.2 t ht).1 hb
      · intro d hd
        obtain ⟨t, ht, rfl⟩ := List.mem_map.1 hd
        exact SlAt.below (hA.out.2 t ht).2 hb
end Go.Proofs.YtjiaepphnddpoaaGreat
namespace Go.Proofs.YtjiaepphnddpoaaGreat
open Go.RowKit Go.Shelf
set_option linter.unusedSimpArgs false
set_option linter.unusedVariables false
def ltO : Option Bnd → Int → Prop
  | none, _ => False
  | some b, v => b.lo < v
theorem ex_cons {α : Type} {p : α → Prop} {a : α} {l : List α} : (∃ x ∈ a :: l, p x) ↔ p a ∨ ∃ x ∈ l, p x := by simp
theorem ltO_minO (o : Option Bnd) (g : Bnd) (v : Int) : ltO (minO o g) v ↔ ltO o v ∨ g.lo < v := by
  cases o with
  | none => simp [minO, ltO]
  | some b => simp only [minO, ltO]; omega
theorem ltO_in (x : Reg) (ys : List Reg) (v : Int) (o : Option Bnd) : ltO (apIn o x ys ys.length) v ↔ ltO o v ∨ ∃ y ∈ ys, (gapS x y).lo < v := by
  unfold apIn
  rw [List.take_of_length_le (Nat.le_refl _)]
  induction ys generalizing o with
  | nil => simp
  | cons y ys ih =>
    simp only [List.map_cons, List.foldl_cons]
    rw [ih, ltO_minO, ex_cons, or_assoc]
theorem ltO_app (xs ys : List Reg) (v : Int) : ltO (appO xs ys) v ↔ ∃ x ∈ xs, ∃ y ∈ ys, (gapS x y).lo < v := by
  unfold appO apTo
  rw [List.take_of_length_le (Nat.le_refl _)]
  have : ∀ (L : List Reg) (o : Option Bnd), ltO (L.foldl (fun o x => apIn o x ys ys.length) o) v ↔ ltO o v ∨ ∃ x ∈ L, ∃ y ∈ ys, (gapS x y).lo < v := by
    intro L
    induction L with
    | nil => intro o; simp
    | cons x L ih =>
      intro o
      simp only [List.foldl_cons]
      rw [ih, ltO_in, ex_cons, or_assoc]
  rw [this]
  simp [ltO]
theorem appO_nil {xs ys : List Reg} (h : ¬ (0 < xs.length ∧ 0 < ys.length)) : appO xs ys = none := by
  unfold appO apTo
  rw [List.take_of_length_le (Nat.le_refl _)]
  cases xs with
  | nil => rfl
  | cons x xs =>
    cases ys with
    | cons y ys => exact absurd ⟨by simp, by simp⟩ h
    | nil =>
      have : ∀ (L : List Reg) (o : Option Bnd), L.foldl (fun o x => apIn o x [] 0) o = o := by
        intro L
        induction L with
        | nil => intro o; rfl
        | cons x L ih => intro o; exact ih o
      exact this _ none
theorem rowsTo_hasM {r : Reg} : ∀ {n j : Nat}, j < n → (rowB r (r.x.lo + j)).fr ≤ (rowB r (r.x.lo + j)).to → rowB r (r.x.lo + j) ∈ rowsTo r n
  | n + 1, j, hj, h => by
    rw [rowsTo, List.mem_append]
    by_cases e : j = n
    · subst e
      rw [if_pos h]
      exact .inr (List.mem_singleton.2 rfl)
    · exact .inl (rowsTo_hasM (by omega) h)
theorem rowsL_iffM {r : Reg} {q : RRow} : q ∈ rowsL r ↔ ∃ x, r.x.lo ≤ x ∧ x ≤ r.x.hi ∧ q = rowB r x ∧ q.fr ≤ q.to := by
  unfold rowsL
  constructor
  · intro h
    obtain ⟨j, hj, e, hle⟩ := rowsTo_mem h
    exact ⟨r.x.lo + j, by omega, by unfold nX at hj; omega, e, hle⟩
  · rintro ⟨x, h1, h2, e, hle⟩
    obtain ⟨j, rfl⟩ : ∃ j : Nat, x = r.x.lo + j := ⟨(x - r.x.lo).toNat, by omega⟩
    subst e
    exact rowsTo_hasM (by unfold nX; omega) hle
def negQ (q : RRow) : RRow := ⟨-q.x, -q.to, -q.fr⟩
theorem minus_ng (a b : Reg) : zipR minusB b a = negR (zipR minusB a b) := by
  unfold zipR negR negB minusB
  simp only [Reg.mk.injEq, Bnd.mk.injEq]
  omega
theorem rowB_neg (r : Reg) (x : Int) : rowB (negR r) (-x) = negQ (rowB r x) := by
  unfold rowB negR negQ negB
  simp only [RRow.mk.injEq, true_and]
  constructor <;> omega
theorem rows_neg {r : Reg} {q : RRow} (h : q ∈ rowsL r) : negQ q ∈ rowsL (negR r) := by
  obtain ⟨x, h1, h2, e, hle⟩ := rowsL_iffM.1 h
  refine rowsL_iffM.2 ⟨-x, ?_, ?_, ?_, ?_⟩
  · unfold negR negB; dsimp only; omega
  · unfold negR negB; dsimp only; omega
  · rw [rowB_neg, e]
  · unfold negQ; dsimp only; omega
theorem neg_neg_r (r : Reg) : negR (negR r) = r := by
  unfold negR negB
  simp only [Int.neg_neg]
theorem sqB_neg {q : RRow} (h : q.fr ≤ q.to) : sqB (negQ q) = sqB q := by
  unfold sqB negQ
  dsimp only
  have e : max (-q.to) (min 0 (-q.fr)) = -(max q.fr (min 0 q.to)) := by omega
  rw [e]
  simp only [Int.neg_mul_neg]
  rw [Int.max_comm (q.to * q.to)]
theorem pickO_fold (v : Int) : ∀ (L : List Bnd) (o : Option Bnd), ltO (L.foldl (pickO ltLo) o) v ↔ ltO o v ∨ ∃ b ∈ L, b.lo < v
  | [], o => by simp
  | b :: L, o => by
    rw [List.foldl_cons, pickO_fold v L, ex_cons, ← or_assoc]
    refine or_congr ?_ Iff.rfl
    cases o with
    | none => simp [pickO, ltO]
    | some c =>
      unfold pickO ltLo
      dsimp only
      split
      · rename_i h; have := of_decide_eq_true h; simp only [ltO]; omega
      · rename_i h; have := of_decide_eq_false (Bool.not_eq_true _ ▸ h); simp only [ltO]; omega
theorem pick_none : ∀ (L : List Bnd) (o : Option Bnd), L.foldl (pickO ltLo) o = none ↔ L = [] ∧ o = none
  | [], o => by simp
  | b :: L, o => by
    rw [List.foldl_cons, pick_none L]
    have := pickO_some ltLo o b
    constructor
    · rintro ⟨-, h⟩; rw [h] at this; cases this
    · rintro ⟨h, -⟩; cases h
theorem opt_lt (o : Option Bnd) (v : Int) : (optB o).lo < v ↔ ltO o v ∨ (o = none ∧ 0 < v) := by
  cases o with
  | none => simp [ltO, optB]
  | some b => simp [ltO, optB]
theorem sqs_lt (r : Reg) (v : Int) : (sqsS r).lo < v ↔ (∃ q ∈ rowsL r, (sqB q).lo < v) ∨ (rowsL r = [] ∧ 0 < v) := by
  have e : (sqsS r).lo = (optB (pckAll ltLo r)).lo := rfl
  rw [e, opt_lt]
  unfold pckAll sqL
  rw [pickO_fold, pick_none]
  refine or_congr ?_ (by simp)
  simp only [ltO, false_or, List.mem_map]
  constructor
  · rintro ⟨b, ⟨q, hq, rfl⟩, hb⟩; exact ⟨q, hq, hb⟩
  · rintro ⟨q, hq, hb⟩; exact ⟨_, ⟨q, hq, rfl⟩, hb⟩
theorem sqs_neg (r : Reg) (v : Int) : (sqsS (negR r)).lo < v ↔ (sqsS r).lo < v := by
  have h1 : ∀ r, (sqsS r).lo < v → (sqsS (negR r)).lo < v := by
    intro r h
    rw [sqs_lt] at *
    rcases h with ⟨q, hq, hl⟩ | ⟨h1, h2⟩
    · refine .inl ⟨negQ q, rows_neg hq, ?_⟩
      obtain ⟨x, -, -, -, hle⟩ := rowsL_iffM.1 hq
      rw [sqB_neg hle]; exact hl
    · refine .inr ⟨?_, h2⟩
      cases hr : rowsL (negR r) with
      | nil => rfl
      | cons q L =>
        have := rows_neg (r := negR r) (q := q) (by rw [hr]; exact List.mem_cons_self)
        rw [neg_neg_r, h1] at this
        cases this
  constructor
  · intro h
    have := h1 _ h
    rwa [neg_neg_r] at this
  · exact h1 r
theorem gap_comm (a b : Reg) (v : Int) : (gapS a b).lo < v ↔ (gapS b a).lo < v := by
  unfold gapS
  rw [minus_ng a b, sqs_neg]
theorem app_comm (xs ys : List Reg) (v : Int) : (appS xs ys).lo < v ↔ (appS ys xs).lo < v := by
  unfold appS
  rw [opt_lt, opt_lt, ltO_app, ltO_app]
  by_cases h : 0 < xs.length ∧ 0 < ys.length
  · rw [appO_some h.1 h.2, appO_some h.2 h.1]
    constructor
    · rintro (⟨x, hx, y, hy, hl⟩ | ⟨h, -⟩)
      · exact .inl ⟨y, hy, x, hx, (gap_comm _ _ _).1 hl⟩
      · cases h
    · rintro (⟨x, hx, y, hy, hl⟩ | ⟨h, -⟩)
      · exact .inl ⟨y, hy, x, hx, (gap_comm _ _ _).1 hl⟩
      · cases h
  · rw [appO_nil h, appO_nil (fun e => h ⟨e.2, e.1⟩)]
    constructor
    · rintro (⟨x, hx, y, hy, hl⟩ | h)
      · exact .inl ⟨y, hy, x, hx, (gap_comm _ _ _).1 hl⟩
      · exact .inr h
    · rintro (⟨x, hx, y, hy, hl⟩ | h)
      · exact .inl ⟨y, hy, x, hx, (gap_comm _ _ _).1 hl⟩
      · exact .inr h
end Go.Proofs.YtjiaepphnddpoaaGreat
