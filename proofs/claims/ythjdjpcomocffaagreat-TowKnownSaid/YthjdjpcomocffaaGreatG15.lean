/-
  Walks: Approach of package tow, and what the chapter says.
-/
import Derived.Test.YthjdjpcomocffaaGreatR25
namespace Go.Proofs.YthjdjpcomocffaaGreat
open Go.RowKit Go.Shelf
set_option linter.unusedSimpArgs false
set_option linter.unusedVariables false

def appAt (ds : List StD) (es : List BdD) (i k : Nat) : Bnd := match ds[i]?, es[i]?, ds[k]?, es[k]? with
  | some d1, some e1, some d2, some e2 => appS (nodesL d1.s e1.bs) (nodesL d2.s e2.bs)
  | _, _, _, _ => ⟨0, 0⟩
def twoOk (ds : List StD) (i k : Int) : Bool := decide (i ≠ k ∧ 0 ≤ i ∧ i < ds.length ∧ 0 ≤ k ∧ k < ds.length)
def apprR (ds : List StD) (es : List BdD) (i k : Int) : Bnd × Int := if sprOk ds es = true then (if twoOk ds i k = true then (appAt ds es i.toNat k.toNat, 0) else (⟨0, 0⟩, 3)) else (⟨0, 0⟩, 36)
theorem sprOk_iff {ds : List StD} {es : List BdD} (h : sprOk ds es = true) : (1 ≤ ds.length ∧ ds.length ≤ 4) ∧ es.length = ds.length ∧ sprTo ds es ds.length = true := by
  unfold sprOk at h
  simp only [Bool.and_eq_true, decide_eq_true_eq] at h
  exact ⟨⟨h.1.1, h.1.2.1⟩, h.1.2.2, h.2⟩
theorem zipT_at {ds : List StD} {es : List BdD} {k : Nat} {d : StD} {e : BdD} (hd : ds[k]? = some d) (he : es[k]? = some e) : (zipT ds es)[k]? = some ⟨d, e⟩ := by
  unfold zipT; simp [List.getElem?_zipWith, hd, he]
set_option maxRecDepth 100000 in
set_option maxHeartbeats 1000000 in
theorem Approach_any (L M : Option Addr) (n c m cm : Nat) (i k : Int) (ds : List StD) (es : List BdD) (w : World) (hL : SpL w L n c ds) (hM : BpL w M m cm es) :
    Calls Tryz.prog 18 #[.slice L n c, .slice M m cm, .int .i64 i, .int .i64 k] w fun e w' => e = .returned (.tuple #[.agg #[.int .i64 (apprR ds es i k).1.lo, .int .i64 (apprR ds es i k).1.hi], .int .i64 (apprR ds es i k).2]) ∧ Below w.heap.size w w' := by
  have hdl := hL.1.len
  have hel := hM.1.len
  have hle := hL.1.le
  have hM0 := hM
  have hsp : ∀ W, SpL W L n c ds → BpL W M m cm es → Calls Tryz.prog 48 #[.slice L n c, .slice M m cm] W fun e w' => ∃ P np cp, e = .returned (.tuple #[.slice P np cp, .int .i64 (if sprOk ds es = true then 0 else 36)]) ∧ (sprOk ds es = true → np = ds.length ∧ SlAt w' W.heap.size 6 TlD.cells P np cp (zipT ds es)) ∧ Below W.heap.size W w' := fun W h1 h2 => spread_any L M n c m cm ds es W h1 h2
  have hb1 := fun W => within_any i 0 ((n : Int) - 1) W
  have hb2 := fun W => within_any k 0 ((n : Int) - 1) W
  have u1 := IntWalk.i64_in ((n : Int) - 1) (by omega)
  obtain ⟨w1, hw1⟩ : ∃ w1, w1 = w.alloc (.cells #[.int .i64 0, .int .i64 0] 24) := ⟨_, rfl⟩
  have k8 : Blk w1 w.heap.size 24 #[.int .i64 0, .int .i64 0] := by rw [hw1]; exact Blk.new _ _ _
  have b : Below w.heap.size w w1 := by rw [hw1]; exact (Below.refl _ _).alloc (Nat.le_refl _) _
  have hbw : Below w.heap.size w w1 := b
  replace hL : SpL w1 L n c ds := hL.below hbw
  replace hM : BpL w1 M m cm es := hM.below hbw
  clear hbw
  cases hs : sprOk ds es with
  | false =>
    have hv : apprR ds es i k = (⟨0, 0⟩, 36) := by unfold apprR; rw [hs]; rfl
    rw [hv]
    simp only [hs, Bool.false_eq_true, if_false] at hsp
    clear hv hs hb1 hb2 hdl hel hle u1
    dsimp only
    go_enter Tryz.func18, Tryz.ntmps18
    go_wp2_with fail
    rw [← hw1]
    clear hw1
    refine (hsp _ hL hM).mono ?_
    rintro e W ⟨P, np, cp, rfl, hP, hbel⟩
    clear hsp
    replace k8 := k8.below hbel
    replace b := b.trans (hbel.mono b.size)
    replace hL := hL.below hbel
    replace hM := hM.below hbel
    clear hbel
    clear hP
    have kz := (k8.set_ 0 (.int .i64 (0))).set_ 1 (.int .i64 (0))
    simp only [List.setIfInBounds_toArray, List.set_cons_zero, List.set_cons_succ] at kz
    have bz := (b.setCell (p := ⟨w.heap.size, 0, none⟩) (Nat.le_refl _) (.int .i64 (0))).setCell (p := ⟨w.heap.size, 1, none⟩) (Nat.le_refl _) (.int .i64 (0))
    obtain ⟨wz, hwz⟩ : ∃ q, q = (W.setCell ⟨w.heap.size, 0, none⟩ (.int .i64 (0))).setCell ⟨w.heap.size, 1, none⟩ (.int .i64 (0)) := ⟨_, rfl⟩
    rw [← hwz] at kz bz
    obtain ⟨c8, f8, l8⟩ := k8.rules
    go_wp2
    rw [← hwz]
    clear hwz c8 f8 l8
    obtain ⟨c8, f8, l8⟩ := kz.rules
    exact bodyPost_ret (v := .tuple #[.agg #[.int .i64 (0), .int .i64 (0)], .int .i64 36]) (by simp [results, Tryz.results18, go_sem, c8]) rfl ⟨rfl, bz⟩
  | true =>
    simp only [hs, if_true] at hsp
    by_cases hik : i = k
    · have hv : apprR ds es i k = (⟨0, 0⟩, 3) := by unfold apprR; rw [hs, if_pos rfl, if_neg (by unfold twoOk; simp; omega)]
      rw [hv]
      subst hik
      clear hv hs hdl hel hle hb1 hb2
      dsimp only
      go_enter Tryz.func18, Tryz.ntmps18
      go_wp2_with fail
      rw [← hw1]
      clear hw1
      refine (hsp _ hL hM).mono ?_
      rintro e W ⟨P, np, cp, rfl, hP, hbel⟩
      clear hsp
      replace k8 := k8.below hbel
      replace b := b.trans (hbel.mono b.size)
      replace hL := hL.below hbel
      replace hM := hM.below hbel
      clear hbel
      clear hP
      have kz := (k8.set_ 0 (.int .i64 (0))).set_ 1 (.int .i64 (0))
      simp only [List.setIfInBounds_toArray, List.set_cons_zero, List.set_cons_succ] at kz
      have bz := (b.setCell (p := ⟨w.heap.size, 0, none⟩) (Nat.le_refl _) (.int .i64 (0))).setCell (p := ⟨w.heap.size, 1, none⟩) (Nat.le_refl _) (.int .i64 (0))
      obtain ⟨wz, hwz⟩ : ∃ q, q = (W.setCell ⟨w.heap.size, 0, none⟩ (.int .i64 (0))).setCell ⟨w.heap.size, 1, none⟩ (.int .i64 (0)) := ⟨_, rfl⟩
      rw [← hwz] at kz bz
      obtain ⟨c8, f8, l8⟩ := k8.rules
      go_wp2
      rw [← hwz]
      clear hwz c8 f8 l8
      obtain ⟨c8, f8, l8⟩ := kz.rules
      exact bodyPost_ret (v := .tuple #[.agg #[.int .i64 (0), .int .i64 (0)], .int .i64 3]) (by simp [results, Tryz.results18, go_sem, c8]) rfl ⟨rfl, bz⟩
    · have hik' : (i == k) = false := by rw [beq_eq_false_iff_ne]; exact hik
      by_cases hi : 0 ≤ i ∧ i < (n : Int)
      · simp only [decide_eq_true (show 0 ≤ i ∧ i ≤ (n : Int) - 1 by omega)] at hb1
        by_cases hk : 0 ≤ k ∧ k < (n : Int)
        · simp only [decide_eq_true (show 0 ≤ k ∧ k ≤ (n : Int) - 1 by omega)] at hb2
          obtain ⟨hl4, hlm, hto⟩ := sprOk_iff hs
          have htw : twoOk ds i k = true := decide_eq_true (by omega)
          obtain ⟨i, rfl⟩ : ∃ q : Nat, i = q := ⟨i.toNat, by omega⟩
          obtain ⟨k, rfl⟩ : ∃ q : Nat, k = q := ⟨k.toNat, by omega⟩
          obtain ⟨d1, hd1⟩ := some_of_lt rfl (show i < ds.length by omega)
          obtain ⟨e1, he1⟩ := some_of_lt rfl (show i < es.length by omega)
          obtain ⟨d2, hd2⟩ := some_of_lt rfl (show k < ds.length by omega)
          obtain ⟨e2, he2⟩ := some_of_lt rfl (show k < es.length by omega)
          have hv : apprR ds es i k = (appS (nodesL d1.s e1.bs) (nodesL d2.s e2.bs), 0) := by
            unfold apprR
            rw [hs, if_pos rfl, htw, if_pos rfl]
            unfold appAt
            simp only [Int.toNat_natCast, hd1, he1, hd2, he2]
          rw [hv]
          have er1 := sprTo_at hto (by omega) hd1 he1
          have er2 := sprTo_at hto (by omega) hd2 he2
          obtain ⟨o1, o2⟩ := errB_zero er1
          obtain ⟨o3, o4⟩ := errB_zero er2
          have hN1 := fun W h1 h2 => nodes_any d1.s d1.A e1.O d1.n d1.c e1.c 0 0 e1.bs W o1 o2 h1 h2
          have hN2 := fun W h1 h2 => nodes_any d2.s d2.A e2.O d2.n d2.c e2.c 0 0 e2.bs W o3 o4 h1 h2
          unfold OwnRegs at hN1 hN2
          have hg1 := nodes_good er1
          have hg2 := nodes_good er2
          have hst1 : StOk w1 d1 := hL.2 d1 (List.mem_of_getElem? hd1)
          have hbt1 : BdOk w1 e1 := hM.2 e1 (List.mem_of_getElem? he1)
          have hst2 : StOk w1 d2 := hL.2 d2 (List.mem_of_getElem? hd2)
          have hbt2 : BdOk w1 e2 := hM.2 e2 (List.mem_of_getElem? he2)
          unfold BdOk at hbt1 hbt2
          unfold StOk at hst1 hst2
          have hn1 : d1.n = e1.n := by have := okOffs_len o2; have := hst1.len; have := hbt1.len; omega
          have hn2 : d2.n = e2.n := by have := okOffs_len o4; have := hst2.len; have := hbt2.len; omega
          have hp1 : 1 ≤ d1.n := by have := ok_head o1; unfold headOk at this; have := hst1.len; omega
          have hp2 : 1 ≤ d2.n := by have := ok_head o3; unfold headOk at this; have := hst2.len; omega
          have hap := fun P Q cp cq W h1 h2 => approach_any (nodesL d1.s e1.bs) (nodesL d2.s e2.bs) P Q d1.n cp d2.n cq W hg1 hg2 (by omega) (by omega) h1 h2
          have hz1 := zipT_at hd1 he1
          have hz2 := zipT_at hd2 he2
          obtain ⟨bM, oM, hB, -, hbM, y0⟩ := hM.1.bdd he1
          obtain ⟨bM2, oM2, hB2, -, hbM2, v0⟩ := hM.1.bdd he2
          have hbMn : bM ≠ w.heap.size := by
            obtain ⟨b9, o9, hB9, -, hb9, -⟩ := hM0.1.bdd he1
            rw [hB] at hB9
            simp only [Option.some.injEq, Addr.mk.injEq, and_true] at hB9
            omega
          rw [hB] at hB2
          simp only [Option.some.injEq, Addr.mk.injEq, and_true] at hB2
          obtain ⟨rfl, rfl⟩ := hB2
          subst hB
          rw [← hn1] at y0 hbt1
          rw [← hn2] at v0 hbt2
          generalize nodesL d1.s e1.bs = xs at *
          generalize nodesL d2.s e2.bs = ys at *
          generalize appS xs ys = V at *
          have hkn : (k : Int) < (n : Int) := hk.2
          have hkm : (k : Int) < (m : Int) := by omega
          have hin : (i : Int) < (n : Int) := hi.2
          have him : (i : Int) < (m : Int) := by omega
          have hi0 : (0 : Int) ≤ (i : Int) := by omega
          have hk0 : (0 : Int) ≤ (k : Int) := by omega
          obtain ⟨w2, hw2⟩ : ∃ w2, w2 = w1 := ⟨_, rfl⟩
          clear hv hs hel hle hi hk htw hl4 hlm hto hd1 hd2 he1 he2 er1 er2 o1 o2 o3 o4 hg1 hg2 hn1 hn2
          replace hik := Lib.hid hik
          dsimp only
          go_enter Tryz.func18, Tryz.ntmps18
          go_wp2_with fail
          rw [← hw1]
          clear hw1
          refine (hsp _ hL hM).mono ?_
          rintro e W ⟨P, np, cp, rfl, hP, hbel⟩
          clear hsp hw2 hL hM
          have hP0 := hP trivial
          clear hP
          obtain ⟨hnp, hP⟩ := hP0
          obtain rfl : np = n := by omega
          clear hdl hnp
          obtain ⟨bL, oL, hA, hbLw, hbL, z0, z1, z2, z3, z4, -⟩ := hP.tld hz1
          have hbLn : bL ≠ w.heap.size := by have := k8.lt; omega
          obtain ⟨bL2, oL2, hA2, -, hbL2, u0, u1', u2, u3, u4, -⟩ := hP.tld hz2
          rw [hA] at hA2
          simp only [Option.some.injEq, Addr.mk.injEq, and_true] at hA2
          obtain ⟨rfl, rfl⟩ := hA2
          subst hA
          replace y0 := (hbel.cell (p := ⟨bM, oM + i, none⟩) hbM).trans y0
          replace v0 := (hbel.cell (p := ⟨bM, oM + k, none⟩) hbM).trans v0
          replace hbM := Nat.lt_of_lt_of_le hbM hbel.size
          replace k8 := k8.below hbel
          replace b := b.trans (hbel.mono b.size)
          replace hst1 := hst1.below hbel
          replace hst2 := hst2.below hbel
          replace hbt1 := hbt1.below hbel
          replace hbt2 := hbt2.below hbel
          clear hbel hP
          go_wp2_with fail
          refine (hb1 _).mono ?_
          rintro e w' ⟨rfl, rfl⟩
          go_wp2_with fail
          refine (hb2 _).mono ?_
          rintro e w' ⟨rfl, rfl⟩
          clear hb1 hb2
          go_wp2_with fail
          refine wp_held_np (fun w' : World => (w'.cell? ⟨bL, oL + i * 6, none⟩ = some (.int .i64 d1.s.head) ∧ w'.cell? ⟨bL, oL + i * 6 + 1, none⟩ = some (.slice d1.A d1.n d1.c) ∧ w'.cell? ⟨bL, oL + i * 6 + 2, none⟩ = some (.int .i64 d1.s.lane.lo) ∧ w'.cell? ⟨bL, oL + i * 6 + 3, none⟩ = some (.int .i64 d1.s.lane.hi) ∧ w'.cell? ⟨bL, oL + i * 6 + 4, none⟩ = some (.int .i64 d1.s.bend) ∧ w'.cell? ⟨bM, oM + i, none⟩ = some (.slice e1.O d1.n e1.c)) ∧ (w'.cell? ⟨bL, oL + k * 6, none⟩ = some (.int .i64 d2.s.head) ∧ w'.cell? ⟨bL, oL + k * 6 + 1, none⟩ = some (.slice d2.A d2.n d2.c) ∧ w'.cell? ⟨bL, oL + k * 6 + 2, none⟩ = some (.int .i64 d2.s.lane.lo) ∧ w'.cell? ⟨bL, oL + k * 6 + 3, none⟩ = some (.int .i64 d2.s.lane.hi) ∧ w'.cell? ⟨bL, oL + k * 6 + 4, none⟩ = some (.int .i64 d2.s.bend) ∧ w'.cell? ⟨bM, oM + k, none⟩ = some (.slice e2.O d2.n e2.c))) (by kernel_rfl) ?_
          have hSb : Hid (∀ W', Below W.heap.size W W' → (fun w' : World => (w'.cell? ⟨bL, oL + i * 6, none⟩ = some (.int .i64 d1.s.head) ∧ w'.cell? ⟨bL, oL + i * 6 + 1, none⟩ = some (.slice d1.A d1.n d1.c) ∧ w'.cell? ⟨bL, oL + i * 6 + 2, none⟩ = some (.int .i64 d1.s.lane.lo) ∧ w'.cell? ⟨bL, oL + i * 6 + 3, none⟩ = some (.int .i64 d1.s.lane.hi) ∧ w'.cell? ⟨bL, oL + i * 6 + 4, none⟩ = some (.int .i64 d1.s.bend) ∧ w'.cell? ⟨bM, oM + i, none⟩ = some (.slice e1.O d1.n e1.c)) ∧ (w'.cell? ⟨bL, oL + k * 6, none⟩ = some (.int .i64 d2.s.head) ∧ w'.cell? ⟨bL, oL + k * 6 + 1, none⟩ = some (.slice d2.A d2.n d2.c) ∧ w'.cell? ⟨bL, oL + k * 6 + 2, none⟩ = some (.int .i64 d2.s.lane.lo) ∧ w'.cell? ⟨bL, oL + k * 6 + 3, none⟩ = some (.int .i64 d2.s.lane.hi) ∧ w'.cell? ⟨bL, oL + k * 6 + 4, none⟩ = some (.int .i64 d2.s.bend) ∧ w'.cell? ⟨bM, oM + k, none⟩ = some (.slice e2.O d2.n e2.c))) W') := by
            show ∀ _, _
            intro W' hb
            exact ⟨⟨(hb.cell (p := ⟨bL, oL + i * 6, none⟩) hbL).trans z0, (hb.cell (p := ⟨bL, oL + i * 6 + 1, none⟩) hbL).trans z1, (hb.cell (p := ⟨bL, oL + i * 6 + 2, none⟩) hbL).trans z2, (hb.cell (p := ⟨bL, oL + i * 6 + 3, none⟩) hbL).trans z3, (hb.cell (p := ⟨bL, oL + i * 6 + 4, none⟩) hbL).trans z4, (hb.cell (p := ⟨bM, oM + i, none⟩) hbM).trans y0⟩, ⟨(hb.cell (p := ⟨bL, oL + k * 6, none⟩) hbL).trans u0, (hb.cell (p := ⟨bL, oL + k * 6 + 1, none⟩) hbL).trans u1', (hb.cell (p := ⟨bL, oL + k * 6 + 2, none⟩) hbL).trans u2, (hb.cell (p := ⟨bL, oL + k * 6 + 3, none⟩) hbL).trans u3, (hb.cell (p := ⟨bL, oL + k * 6 + 4, none⟩) hbL).trans u4, (hb.cell (p := ⟨bM, oM + k, none⟩) hbM).trans v0⟩⟩
          have hb9 : Below W.heap.size W W.drew := (Below.refl _ _).drew
          have hS := hSb.out _ hb9
          replace k8 := k8.drew
          have hbW := b
          clear z0 z1 z2 z3 z4 u0 u1' u2 u3 u4 y0 v0
          generalize W.drew = wd at *
          refine held_take (i := 0) (v := ?_) 42 rfl rfl (by kernel_rfl) (by kernel_rfl) (by kernel_rfl) (fun _ _ _ h => h) (Or.inl ⟨by rfl, ?_⟩) hS ?_
          rotate_left 1
          · intro w' hSw
            try dsimp only at hSw
            obtain ⟨⟨p0, p1, p2, p3, p4, p5⟩, q0, q1, q2, q3, q4, q5⟩ := hSw
            go_simp
            all_goals with_reducible rfl
          try simp only [Act.put, List.setIfInBounds_toArray, List.set_cons_zero, List.set_cons_succ]
          refine held_take (i := 1) (v := ?_) 43 rfl rfl (by kernel_rfl) (by kernel_rfl) (by kernel_rfl) (fun _ _ _ h => h) (Or.inl ⟨by rfl, ?_⟩) hS ?_
          rotate_left 1
          · intro w' hSw
            try dsimp only at hSw
            obtain ⟨⟨p0, p1, p2, p3, p4, p5⟩, q0, q1, q2, q3, q4, q5⟩ := hSw
            go_simp
            all_goals with_reducible rfl
          try simp only [Act.put, List.setIfInBounds_toArray, List.set_cons_zero, List.set_cons_succ]
          refine held_take (i := 2) (v := ?_) 44 rfl rfl (by kernel_rfl) (by kernel_rfl) (by kernel_rfl) (fun _ _ _ h => h) (Or.inl ⟨by rfl, ?_⟩) hS ?_
          rotate_left 1
          · intro w' hSw
            try dsimp only at hSw
            obtain ⟨⟨p0, p1, p2, p3, p4, p5⟩, q0, q1, q2, q3, q4, q5⟩ := hSw
            go_simp
            all_goals with_reducible rfl
          try simp only [Act.put, List.setIfInBounds_toArray, List.set_cons_zero, List.set_cons_succ]
          refine held_take (i := 3) (v := ?_) 45 rfl rfl (by kernel_rfl) (by kernel_rfl) (by kernel_rfl) (fun _ _ _ h => h) (Or.inl ⟨by rfl, ?_⟩) hS ?_
          rotate_left 1
          · intro w' hSw
            try dsimp only at hSw
            obtain ⟨⟨p0, p1, p2, p3, p4, p5⟩, q0, q1, q2, q3, q4, q5⟩ := hSw
            go_simp
            all_goals with_reducible rfl
          try simp only [Act.put, List.setIfInBounds_toArray, List.set_cons_zero, List.set_cons_succ]
          refine held_take (i := 4) (v := ?_) 46 rfl rfl (by kernel_rfl) (by kernel_rfl) (by kernel_rfl) (fun _ _ _ h => h) (Or.inl ⟨by rfl, ?_⟩) hS ?_
          rotate_left 1
          · intro w' hSw
            try dsimp only at hSw
            obtain ⟨⟨p0, p1, p2, p3, p4, p5⟩, q0, q1, q2, q3, q4, q5⟩ := hSw
            go_simp
            all_goals with_reducible rfl
          try simp only [Act.put, List.setIfInBounds_toArray, List.set_cons_zero, List.set_cons_succ]
          refine held_take (i := 5) (v := ?_) 47 rfl rfl (by kernel_rfl) (by kernel_rfl) (by kernel_rfl) (fun _ _ _ h => h) (Or.inl ⟨by rfl, ?_⟩) hS ?_
          rotate_left 1
          · intro w' hSw
            try dsimp only at hSw
            obtain ⟨⟨p0, p1, p2, p3, p4, p5⟩, q0, q1, q2, q3, q4, q5⟩ := hSw
            go_simp
            all_goals with_reducible rfl
          try simp only [Act.put, List.setIfInBounds_toArray, List.set_cons_zero, List.set_cons_succ]
          refine held_take (i := 6) (v := ?_) 48 rfl rfl (by kernel_rfl) (by kernel_rfl) (by kernel_rfl) (fun _ _ _ h => h) (Or.inl ⟨by rfl, ?_⟩) hS ?_
          rotate_left 1
          · intro w' hSw
            try dsimp only at hSw
            obtain ⟨⟨p0, p1, p2, p3, p4, p5⟩, q0, q1, q2, q3, q4, q5⟩ := hSw
            go_simp
            all_goals with_reducible rfl
          try simp only [Act.put, List.setIfInBounds_toArray, List.set_cons_zero, List.set_cons_succ]
          refine held_take (i := 7) (v := ?_) 49 rfl rfl (by kernel_rfl) (by kernel_rfl) (by kernel_rfl) (fun _ _ _ h => h) (Or.inl ⟨by rfl, ?_⟩) hS ?_
          rotate_left 1
          · intro w' hSw
            try dsimp only at hSw
            obtain ⟨⟨p0, p1, p2, p3, p4, p5⟩, q0, q1, q2, q3, q4, q5⟩ := hSw
            go_simp
            all_goals with_reducible rfl
          try simp only [Act.put, List.setIfInBounds_toArray, List.set_cons_zero, List.set_cons_succ]
          refine held_take (i := 8) (v := ?_) 50 rfl rfl (by kernel_rfl) (by kernel_rfl) (by kernel_rfl) (fun _ _ _ h => h) (Or.inl ⟨by rfl, ?_⟩) hS ?_
          rotate_left 1
          · intro w' hSw
            try dsimp only at hSw
            obtain ⟨⟨p0, p1, p2, p3, p4, p5⟩, q0, q1, q2, q3, q4, q5⟩ := hSw
            go_simp
            all_goals with_reducible rfl
          try simp only [Act.put, List.setIfInBounds_toArray, List.set_cons_zero, List.set_cons_succ]
          refine held_take (i := 10) (v := ?_) 52 rfl rfl (by kernel_rfl) (by kernel_rfl) (by kernel_rfl) (fun _ _ _ h => h) (Or.inl ⟨by rfl, ?_⟩) hS ?_
          rotate_left 1
          · intro w' hSw
            try dsimp only at hSw
            obtain ⟨⟨p0, p1, p2, p3, p4, p5⟩, q0, q1, q2, q3, q4, q5⟩ := hSw
            go_simp
            all_goals with_reducible rfl
          try simp only [Act.put, List.setIfInBounds_toArray, List.set_cons_zero, List.set_cons_succ]
          refine held_take (i := 11) (v := ?_) 53 rfl rfl (by kernel_rfl) (by kernel_rfl) (by kernel_rfl) (fun _ _ _ h => h) (Or.inl ⟨by rfl, ?_⟩) hS ?_
          rotate_left 1
          · intro w' hSw
            try dsimp only at hSw
            obtain ⟨⟨p0, p1, p2, p3, p4, p5⟩, q0, q1, q2, q3, q4, q5⟩ := hSw
            go_simp
            all_goals with_reducible rfl
          try simp only [Act.put, List.setIfInBounds_toArray, List.set_cons_zero, List.set_cons_succ]
          refine held_take (i := 12) (v := ?_) 54 rfl rfl (by kernel_rfl) (by kernel_rfl) (by kernel_rfl) (fun _ _ _ h => h) (Or.inl ⟨by rfl, ?_⟩) hS ?_
          rotate_left 1
          · intro w' hSw
            try dsimp only at hSw
            obtain ⟨⟨p0, p1, p2, p3, p4, p5⟩, q0, q1, q2, q3, q4, q5⟩ := hSw
            go_simp
            all_goals with_reducible rfl
          try simp only [Act.put, List.setIfInBounds_toArray, List.set_cons_zero, List.set_cons_succ]
          refine held_take (i := 13) (v := ?_) 55 rfl rfl (by kernel_rfl) (by kernel_rfl) (by kernel_rfl) (fun _ _ _ h => h) (Or.inl ⟨by rfl, ?_⟩) hS ?_
          rotate_left 1
          · intro w' hSw
            try dsimp only at hSw
            obtain ⟨⟨p0, p1, p2, p3, p4, p5⟩, q0, q1, q2, q3, q4, q5⟩ := hSw
            go_simp
            all_goals with_reducible rfl
          try simp only [Act.put, List.setIfInBounds_toArray, List.set_cons_zero, List.set_cons_succ]
          refine held_take (i := 14) (v := ?_) 56 rfl rfl (by kernel_rfl) (by kernel_rfl) (by kernel_rfl) (fun _ _ _ h => h) (Or.inl ⟨by rfl, ?_⟩) hS ?_
          rotate_left 1
          · intro w' hSw
            try dsimp only at hSw
            obtain ⟨⟨p0, p1, p2, p3, p4, p5⟩, q0, q1, q2, q3, q4, q5⟩ := hSw
            go_simp
            all_goals with_reducible rfl
          try simp only [Act.put, List.setIfInBounds_toArray, List.set_cons_zero, List.set_cons_succ]
          refine held_take (i := 15) (v := ?_) 57 rfl rfl (by kernel_rfl) (by kernel_rfl) (by kernel_rfl) (fun _ _ _ h => h) (Or.inl ⟨by rfl, ?_⟩) hS ?_
          rotate_left 1
          · intro w' hSw
            try dsimp only at hSw
            obtain ⟨⟨p0, p1, p2, p3, p4, p5⟩, q0, q1, q2, q3, q4, q5⟩ := hSw
            go_simp
            all_goals with_reducible rfl
          try simp only [Act.put, List.setIfInBounds_toArray, List.set_cons_zero, List.set_cons_succ]
          refine held_take (i := 16) (v := ?_) 58 rfl rfl (by kernel_rfl) (by kernel_rfl) (by kernel_rfl) (fun _ _ _ h => h) (Or.inl ⟨by rfl, ?_⟩) hS ?_
          rotate_left 1
          · intro w' hSw
            try dsimp only at hSw
            obtain ⟨⟨p0, p1, p2, p3, p4, p5⟩, q0, q1, q2, q3, q4, q5⟩ := hSw
            go_simp
            all_goals with_reducible rfl
          try simp only [Act.put, List.setIfInBounds_toArray, List.set_cons_zero, List.set_cons_succ]
          refine held_take (i := 17) (v := ?_) 59 rfl rfl (by kernel_rfl) (by kernel_rfl) (by kernel_rfl) (fun _ _ _ h => h) (Or.inl ⟨by rfl, ?_⟩) hS ?_
          rotate_left 1
          · intro w' hSw
            try dsimp only at hSw
            obtain ⟨⟨p0, p1, p2, p3, p4, p5⟩, q0, q1, q2, q3, q4, q5⟩ := hSw
            go_simp
            all_goals with_reducible rfl
          try simp only [Act.put, List.setIfInBounds_toArray, List.set_cons_zero, List.set_cons_succ]
          refine held_take (i := 18) (v := ?_) 60 rfl rfl (by kernel_rfl) (by kernel_rfl) (by kernel_rfl) (fun _ _ _ h => h) (Or.inl ⟨by rfl, ?_⟩) hS ?_
          rotate_left 1
          · intro w' hSw
            try dsimp only at hSw
            obtain ⟨⟨p0, p1, p2, p3, p4, p5⟩, q0, q1, q2, q3, q4, q5⟩ := hSw
            go_simp
            all_goals with_reducible rfl
          try simp only [Act.put, List.setIfInBounds_toArray, List.set_cons_zero, List.set_cons_succ]
          refine held_one (i := 9) (by kernel_rfl) rfl rfl (fun K hK => ?_)
          go_simp
          refine (hN1 _ (hst1.below hb9) (hbt1.below hb9)).mono ?_
          rintro e1 W1 ⟨P1, c1, rfl, r1, hbel⟩
          clear hS
          skip
          replace hb9 := hb9.trans (hbel.mono hb9.size)
          replace k8 := k8.below hbel
          clear hbel
          have hS := hSb.out _ hb9
          refine hK _ _ hS ?_
          clear hK K
          try simp only [Act.put, List.setIfInBounds_toArray, List.set_cons_zero, List.set_cons_succ]
          refine held_one (i := 19) (by kernel_rfl) rfl rfl (fun K hK => ?_)
          go_simp
          refine (hN2 _ (hst2.below hb9) (hbt2.below hb9)).mono ?_
          rintro e1 W2 ⟨P2, c2, rfl, r2, hbel⟩
          clear hS
          replace r1 := r1.below hbel
          replace hb9 := hb9.trans (hbel.mono hb9.size)
          replace k8 := k8.below hbel
          clear hbel
          have hS := hSb.out _ hb9
          refine hK _ _ hS ?_
          clear hK K
          try simp only [Act.put, List.setIfInBounds_toArray, List.set_cons_zero, List.set_cons_succ]
          refine held_one (i := 20) (by kernel_rfl) rfl rfl (fun K hK => ?_)
          go_simp
          refine (hap _ _ _ _ _ (r1.mono (Nat.zero_le _)) (r2.mono (Nat.zero_le _))).mono ?_
          rintro e3 W3 ⟨rfl, hbel⟩
          clear hS hap r1 r2 hN1 hN2
          replace hb9 := hb9.trans (hbel.mono hb9.size)
          replace k8 := k8.below hbel
          clear hbel
          have hS := hSb.out _ hb9
          refine hK _ _ hS ?_
          clear hK K
          try simp only [Act.put, List.setIfInBounds_toArray, List.set_cons_zero, List.set_cons_succ]
          replace b := b.trans (hb9.mono b.size)
          have kz := (k8.set_ 0 (.int .i64 V.lo)).set_ 1 (.int .i64 V.hi)
          simp only [List.setIfInBounds_toArray, List.set_cons_zero, List.set_cons_succ] at kz
          have bz := (b.setCell (p := ⟨w.heap.size, 0, none⟩) (Nat.le_refl _) (.int .i64 V.lo)).setCell (p := ⟨w.heap.size, 1, none⟩) (Nat.le_refl _) (.int .i64 V.hi)
          have hSz : (fun w' : World => (w'.cell? ⟨bL, oL + i * 6, none⟩ = some (.int .i64 d1.s.head) ∧ w'.cell? ⟨bL, oL + i * 6 + 1, none⟩ = some (.slice d1.A d1.n d1.c) ∧ w'.cell? ⟨bL, oL + i * 6 + 2, none⟩ = some (.int .i64 d1.s.lane.lo) ∧ w'.cell? ⟨bL, oL + i * 6 + 3, none⟩ = some (.int .i64 d1.s.lane.hi) ∧ w'.cell? ⟨bL, oL + i * 6 + 4, none⟩ = some (.int .i64 d1.s.bend) ∧ w'.cell? ⟨bM, oM + i, none⟩ = some (.slice e1.O d1.n e1.c)) ∧ (w'.cell? ⟨bL, oL + k * 6, none⟩ = some (.int .i64 d2.s.head) ∧ w'.cell? ⟨bL, oL + k * 6 + 1, none⟩ = some (.slice d2.A d2.n d2.c) ∧ w'.cell? ⟨bL, oL + k * 6 + 2, none⟩ = some (.int .i64 d2.s.lane.lo) ∧ w'.cell? ⟨bL, oL + k * 6 + 3, none⟩ = some (.int .i64 d2.s.lane.hi) ∧ w'.cell? ⟨bL, oL + k * 6 + 4, none⟩ = some (.int .i64 d2.s.bend) ∧ w'.cell? ⟨bM, oM + k, none⟩ = some (.slice e2.O d2.n e2.c))) ((W3.setCell ⟨w.heap.size, 0, none⟩ (.int .i64 V.lo)).setCell ⟨w.heap.size, 1, none⟩ (.int .i64 V.hi)) := by
            have hf : ∀ bb oo vv, bb ≠ w.heap.size → W3.cell? ⟨bb, oo, none⟩ = some vv → ((W3.setCell ⟨w.heap.size, 0, none⟩ (.int .i64 V.lo)).setCell ⟨w.heap.size, 1, none⟩ (.int .i64 V.hi)).cell? ⟨bb, oo, none⟩ = some vv := fun bb oo vv h1 h2 => by
              rw [← h2]
              apply cell_eq
              exact (Below.heap_setCell _ _ _ _ (by exact h1)).trans (Below.heap_setCell _ _ _ _ (by exact h1))
            obtain ⟨⟨p0, p1, p2, p3, p4, p5⟩, q0, q1, q2, q3, q4, q5⟩ := hS
            exact ⟨⟨hf _ _ _ hbLn p0, hf _ _ _ hbLn p1, hf _ _ _ hbLn p2, hf _ _ _ hbLn p3, hf _ _ _ hbLn p4, hf _ _ _ hbMn p5⟩, hf _ _ _ hbLn q0, hf _ _ _ hbLn q1, hf _ _ _ hbLn q2, hf _ _ _ hbLn q3, hf _ _ _ hbLn q4, hf _ _ _ hbMn q5⟩
          obtain ⟨wz, hwz⟩ : ∃ q, q = (W3.setCell ⟨w.heap.size, 0, none⟩ (.int .i64 V.lo)).setCell ⟨w.heap.size, 1, none⟩ (.int .i64 V.hi) := ⟨_, rfl⟩
          rw [← hwz] at kz bz hSz
          obtain ⟨c8, f8, l8⟩ := k8.rules
          refine held_one (i := 21) (by kernel_rfl) rfl rfl (fun K hK => ?_)
          go_simp
          rw [← hwz]
          clear hwz c8 f8 l8 hS
          refine hK _ _ hSz ?_
          clear hK K
          have hS := hSz
          try simp only [Act.put, List.setIfInBounds_toArray, List.set_cons_zero, List.set_cons_succ]
          refine held_take (i := 22) (v := ?_) 9 rfl rfl (by kernel_rfl) (by kernel_rfl) (by kernel_rfl) (fun _ _ _ h => h) (Or.inl ⟨by rfl, ?_⟩) hS ?_
          rotate_left 1
          · intro w' hSw
            try dsimp only at hSw
            obtain ⟨⟨p0, p1, p2, p3, p4, p5⟩, q0, q1, q2, q3, q4, q5⟩ := hSw
            go_simp
            all_goals with_reducible rfl
          try simp only [Act.put, List.setIfInBounds_toArray, List.set_cons_zero, List.set_cons_succ]
          refine wpAnyH_done (by kernel_rfl) (noPanic_normal ?_) _
          clear hS
          go_wp2
          obtain ⟨c8, f8, l8⟩ := kz.rules
          exact bodyPost_ret (v := .tuple #[.agg #[.int .i64 V.lo, .int .i64 V.hi], .int .i64 0]) (by simp [results, Tryz.results18, go_sem, c8]) rfl ⟨rfl, bz⟩
        · have hv : apprR ds es i k = (⟨0, 0⟩, 3) := by unfold apprR; rw [hs, if_pos rfl, if_neg (by unfold twoOk; simp; omega)]
          rw [hv]
          simp only [decide_eq_false (show ¬ (0 ≤ k ∧ k ≤ (n : Int) - 1) by omega)] at hb2
          clear hv hs hdl hel hle hi hk
          replace hik := Lib.hid hik
          dsimp only
          go_enter Tryz.func18, Tryz.ntmps18
          go_wp2_with fail
          rw [← hw1]
          clear hw1
          refine (hsp _ hL hM).mono ?_
          rintro e W ⟨P, np, cp, rfl, hP, hbel⟩
          clear hsp
          replace k8 := k8.below hbel
          replace b := b.trans (hbel.mono b.size)
          replace hL := hL.below hbel
          replace hM := hM.below hbel
          clear hbel
          clear hP
          go_wp2_with fail
          refine (hb1 _).mono ?_
          rintro e w' ⟨rfl, rfl⟩
          go_wp2_with fail
          refine (hb2 _).mono ?_
          rintro e w' ⟨rfl, rfl⟩
          have kz := (k8.set_ 0 (.int .i64 (0))).set_ 1 (.int .i64 (0))
          simp only [List.setIfInBounds_toArray, List.set_cons_zero, List.set_cons_succ] at kz
          have bz := (b.setCell (p := ⟨w.heap.size, 0, none⟩) (Nat.le_refl _) (.int .i64 (0))).setCell (p := ⟨w.heap.size, 1, none⟩) (Nat.le_refl _) (.int .i64 (0))
          obtain ⟨wz, hwz⟩ : ∃ q, q = (W.setCell ⟨w.heap.size, 0, none⟩ (.int .i64 (0))).setCell ⟨w.heap.size, 1, none⟩ (.int .i64 (0)) := ⟨_, rfl⟩
          rw [← hwz] at kz bz
          obtain ⟨c8, f8, l8⟩ := k8.rules
          go_wp2
          rw [← hwz]
          clear hwz c8 f8 l8
          obtain ⟨c8, f8, l8⟩ := kz.rules
          exact bodyPost_ret (v := .tuple #[.agg #[.int .i64 (0), .int .i64 (0)], .int .i64 3]) (by simp [results, Tryz.results18, go_sem, c8]) rfl ⟨rfl, bz⟩
      · have hv : apprR ds es i k = (⟨0, 0⟩, 3) := by unfold apprR; rw [hs, if_pos rfl, if_neg (by unfold twoOk; simp; omega)]
        rw [hv]
        simp only [decide_eq_false (show ¬ (0 ≤ i ∧ i ≤ (n : Int) - 1) by omega)] at hb1
        clear hv hs hdl hel hle hi hb2
        replace hik := Lib.hid hik
        dsimp only
        go_enter Tryz.func18, Tryz.ntmps18
        go_wp2_with fail
        rw [← hw1]
        clear hw1
        refine (hsp _ hL hM).mono ?_
        rintro e W ⟨P, np, cp, rfl, hP, hbel⟩
        clear hsp
        replace k8 := k8.below hbel
        replace b := b.trans (hbel.mono b.size)
        replace hL := hL.below hbel
        replace hM := hM.below hbel
        clear hbel
        clear hP
        go_wp2_with fail
        refine (hb1 _).mono ?_
        rintro e w' ⟨rfl, rfl⟩
        have kz := (k8.set_ 0 (.int .i64 (0))).set_ 1 (.int .i64 (0))
        simp only [List.setIfInBounds_toArray, List.set_cons_zero, List.set_cons_succ] at kz
        have bz := (b.setCell (p := ⟨w.heap.size, 0, none⟩) (Nat.le_refl _) (.int .i64 (0))).setCell (p := ⟨w.heap.size, 1, none⟩) (Nat.le_refl _) (.int .i64 (0))
        obtain ⟨wz, hwz⟩ : ∃ q, q = (W.setCell ⟨w.heap.size, 0, none⟩ (.int .i64 (0))).setCell ⟨w.heap.size, 1, none⟩ (.int .i64 (0)) := ⟨_, rfl⟩
        rw [← hwz] at kz bz
        obtain ⟨c8, f8, l8⟩ := k8.rules
        go_wp2
        rw [← hwz]
        clear hwz c8 f8 l8
        obtain ⟨c8, f8, l8⟩ := kz.rules
        exact bodyPost_ret (v := .tuple #[.agg #[.int .i64 (0), .int .i64 (0)], .int .i64 3]) (by simp [results, Tryz.results18, go_sem, c8]) rfl ⟨rfl, bz⟩
end Go.Proofs.YthjdjpcomocffaaGreat
