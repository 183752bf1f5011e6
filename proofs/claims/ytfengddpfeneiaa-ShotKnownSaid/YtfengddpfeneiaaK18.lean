/-
  The law ShotKnown: what is said of single arrays, firings and rules.
-/
import Derived.Test.YtfengddpfeneiaaS28
import Derived.Test.YtfengddpfeneiaaQ20
namespace Go.Proofs.Ytfengddpfeneiaa
open Go.RowKit Go.Shelf
set_option linter.unusedSimpArgs false
set_option linter.unusedVariables false

def gunW : Gun := ⟨1, 0, ⟨-8, 8⟩⟩
theorem Try.infoGunK : (Try.prog.info? 74).map (fun i => (i.zero, i.size, i.bytes)) = some (some (.agg #[.int .i64 0, .int .i64 0, .int .i64 0, .int .i64 0]), 4, 32) := by kernel_rfl
theorem lls3 {w : World} {g a b c : Nat} (h : Blk w g 22 #[.slice (some ⟨a, 0, none⟩) 2 2, .slice (some ⟨b, 0, none⟩) 2 2, .slice (some ⟨c, 0, none⟩) 2 2]) {x y z : List Int} (h1 : SlAt w 0 1 ivs (some ⟨a, 0, none⟩) 2 2 x) (h2 : SlAt w 0 1 ivs (some ⟨b, 0, none⟩) 2 2 y) (h3 : SlAt w 0 1 ivs (some ⟨c, 0, none⟩) 2 2 z) : LLs w 0 (some ⟨g, 0, none⟩) 3 3 [x, y, z] := by
  refine ⟨rfl, [.slice (some ⟨a, 0, none⟩) 2 2, .slice (some ⟨b, 0, none⟩) 2 2, .slice (some ⟨c, 0, none⟩) 2 2], (SlAt.of_blk (enc := fun v => [v]) (s := 1) h (fun _ => rfl) _ rfl (by simp)).mono (Nat.zero_le _), fun i v l hv hl => ?_⟩
  match i with
  | 0 => simp at hv hl; subst hv; subst hl; exact ⟨_, _, _, rfl, h1⟩
  | 1 => simp at hv hl; subst hv; subst hl; exact ⟨_, _, _, rfl, h2⟩
  | 2 => simp at hv hl; subst hv; subst hl; exact ⟨_, _, _, rfl, h3⟩
  | i + 3 => simp at hv
set_option maxRecDepth 100000 in
theorem gunsB_any (w : World) : Calls Try.prog 69 #[] w fun e w' => ∃ bS bG, e = .returned (.agg #[.slice (some ⟨bS, 0, none⟩) 2 2, .slice (some ⟨bG, 0, none⟩) 2 2]) ∧ Blk w' bS 3 #[Value.int .i64 4, .int .i64 (-2)] ∧ Blk w' bG 74 #[Value.int .i64 3, .int .i64 0, .int .i64 0, .int .i64 1, .int .i64 1, .int .i64 2, .int .i64 0, .int .i64 0] ∧ w.heap.size ≤ bS ∧ w.heap.size ≤ bG ∧ bS ≠ bG ∧ Below w.heap.size w w' := by
  obtain ⟨wz, hwz⟩ : ∃ x, x = ((w.alloc (.cells #[Value.slice (some ⟨w.heap.size + 1, 0, none⟩) 2 2, .slice (some ⟨w.heap.size + 1 + 1, 0, none⟩) 2 2] 25)).alloc (.cells #[Value.int .i64 4, .int .i64 (-2)] 3)).alloc (.cells #[Value.int .i64 3, .int .i64 0, .int .i64 0, .int .i64 1, .int .i64 1, .int .i64 2, .int .i64 0, .int .i64 0] 74) := ⟨_, rfl⟩
  have k0 : Blk wz w.heap.size 25 #[Value.slice (some ⟨w.heap.size + 1, 0, none⟩) 2 2, .slice (some ⟨w.heap.size + 1 + 1, 0, none⟩) 2 2] := by rw [hwz]; exact ((Blk.new w _ _).alloc _).alloc _
  have k1 : Blk wz (w.heap.size + 1) 3 #[Value.int .i64 4, .int .i64 (-2)] := by
    rw [hwz]; have := (Blk.new (w.alloc (.cells #[Value.slice (some ⟨w.heap.size + 1, 0, none⟩) 2 2, .slice (some ⟨w.heap.size + 1 + 1, 0, none⟩) 2 2] 25)) 3 #[Value.int .i64 4, .int .i64 (-2)]).alloc (.cells #[Value.int .i64 3, .int .i64 0, .int .i64 0, .int .i64 1, .int .i64 1, .int .i64 2, .int .i64 0, .int .i64 0] 74); rwa [World.size_alloc] at this
  have k2 : Blk wz (w.heap.size + 1 + 1) 74 #[Value.int .i64 3, .int .i64 0, .int .i64 0, .int .i64 1, .int .i64 1, .int .i64 2, .int .i64 0, .int .i64 0] := by
    rw [hwz]; have := Blk.new ((w.alloc (.cells #[Value.slice (some ⟨w.heap.size + 1, 0, none⟩) 2 2, .slice (some ⟨w.heap.size + 1 + 1, 0, none⟩) 2 2] 25)).alloc (.cells #[Value.int .i64 4, .int .i64 (-2)] 3)) 74 #[Value.int .i64 3, .int .i64 0, .int .i64 0, .int .i64 1, .int .i64 1, .int .i64 2, .int .i64 0, .int .i64 0]; rwa [World.size_alloc, World.size_alloc] at this
  have b1 : Below w.heap.size w wz := by rw [hwz]; exact (((Below.refl _ _).alloc (Nat.le_refl _) _).alloc (by simp) _).alloc (by simp; omega) _
  go_enter Try.func69, Try.ntmps69
  go_wp2
  rw [← hwz]
  clear hwz
  obtain ⟨c0, f0, l0⟩ := k0.rules
  exact bodyPost_ret (v := .agg #[Value.slice (some ⟨w.heap.size + 1, 0, none⟩) 2 2, .slice (some ⟨w.heap.size + 1 + 1, 0, none⟩) 2 2]) (by simp [results, Try.results69, go_sem, c0]) rfl
    ⟨_, _, rfl, k1, k2, by omega, by omega, by omega, b1⟩
set_option maxRecDepth 100000 in
set_option maxHeartbeats 16000000 in
theorem ShotKnown_any (w : World) : Calls Try.prog 18 #[] w fun e w' => e = .returned (.bool true) ∧ Below w.heap.size w w' := by
  have b := Below.refl w.heap.size w
  go_enter Try.func18, Try.ntmps18
  go_wp2_with fail
  refine (gunsB_any _).mono ?_
  rintro e w1 ⟨bS1, bG1, rfl, ks1, kg1, zs1, zg1, zn1, hb⟩
  replace b := b.trans (hb.mono b.size)
  clear hb
  have zl1 := ks1.lt
  have zm1 := kg1.lt
  obtain ⟨c_ks1, f_ks1, l_ks1⟩ := ks1.rules
  obtain ⟨c_kg1, f_kg1, l_kg1⟩ := kg1.rules
  go_wp2_with fail
  refine (gunsB_any _).mono ?_
  rintro e w2 ⟨bS2, bG2, rfl, ks2, kg2, zs2, zg2, zn2, hb⟩
  clear c_ks1 f_ks1 l_ks1
  clear c_kg1 f_kg1 l_kg1
  replace ks1 := ks1.below hb
  replace kg1 := kg1.below hb
  replace b := b.trans (hb.mono b.size)
  clear hb
  have zl2 := ks2.lt
  have zm2 := kg2.lt
  obtain ⟨c_ks1, f_ks1, l_ks1⟩ := ks1.rules
  obtain ⟨c_kg1, f_kg1, l_kg1⟩ := kg1.rules
  obtain ⟨c_ks2, f_ks2, l_ks2⟩ := ks2.rules
  obtain ⟨c_kg2, f_kg2, l_kg2⟩ := kg2.rules
  go_wp2_with fail
  refine (gunsB_any _).mono ?_
  rintro e w3 ⟨bS3, bG3, rfl, ks3, kg3, zs3, zg3, zn3, hb⟩
  clear c_ks1 f_ks1 l_ks1
  clear c_kg1 f_kg1 l_kg1
  clear c_ks2 f_ks2 l_ks2
  clear c_kg2 f_kg2 l_kg2
  replace ks1 := ks1.below hb
  replace kg1 := kg1.below hb
  replace ks2 := ks2.below hb
  replace kg2 := kg2.below hb
  replace b := b.trans (hb.mono b.size)
  clear hb
  have zl3 := ks3.lt
  have zm3 := kg3.lt
  obtain ⟨c_ks1, f_ks1, l_ks1⟩ := ks1.rules
  obtain ⟨c_kg1, f_kg1, l_kg1⟩ := kg1.rules
  obtain ⟨c_ks2, f_ks2, l_ks2⟩ := ks2.rules
  obtain ⟨c_kg2, f_kg2, l_kg2⟩ := kg2.rules
  obtain ⟨c_ks3, f_ks3, l_ks3⟩ := ks3.rules
  obtain ⟨c_kg3, f_kg3, l_kg3⟩ := kg3.rules
  go_wp2_with fail
  refine (gunsB_any _).mono ?_
  rintro e w4 ⟨bS4, bG4, rfl, ks4, kg4, zs4, zg4, zn4, hb⟩
  clear c_ks1 f_ks1 l_ks1
  clear c_kg1 f_kg1 l_kg1
  clear c_ks2 f_ks2 l_ks2
  clear c_kg2 f_kg2 l_kg2
  clear c_ks3 f_ks3 l_ks3
  clear c_kg3 f_kg3 l_kg3
  replace ks1 := ks1.below hb
  replace kg1 := kg1.below hb
  replace ks2 := ks2.below hb
  replace kg2 := kg2.below hb
  replace ks3 := ks3.below hb
  replace kg3 := kg3.below hb
  replace b := b.trans (hb.mono b.size)
  clear hb
  have zl4 := ks4.lt
  have zm4 := kg4.lt
  replace ks1 := ks1.alloc (.cells #[.slice none 0 0, .slice none 0 0, .slice (some ⟨bS1, 0, none⟩) 2 2, .slice (some ⟨bG1, 0, none⟩) 2 2, .slice (some ⟨bS2, 0, none⟩) 2 2, .slice (some ⟨bG2, 0, none⟩) 2 2, .slice (some ⟨bS3, 0, none⟩) 2 2, .slice (some ⟨bG3, 0, none⟩) 2 2, .slice (some ⟨bS4, 0, none⟩) 2 2, .slice (some ⟨bG4, 0, none⟩) 2 2] 25)
  replace kg1 := kg1.alloc (.cells #[.slice none 0 0, .slice none 0 0, .slice (some ⟨bS1, 0, none⟩) 2 2, .slice (some ⟨bG1, 0, none⟩) 2 2, .slice (some ⟨bS2, 0, none⟩) 2 2, .slice (some ⟨bG2, 0, none⟩) 2 2, .slice (some ⟨bS3, 0, none⟩) 2 2, .slice (some ⟨bG3, 0, none⟩) 2 2, .slice (some ⟨bS4, 0, none⟩) 2 2, .slice (some ⟨bG4, 0, none⟩) 2 2] 25)
  replace ks2 := ks2.alloc (.cells #[.slice none 0 0, .slice none 0 0, .slice (some ⟨bS1, 0, none⟩) 2 2, .slice (some ⟨bG1, 0, none⟩) 2 2, .slice (some ⟨bS2, 0, none⟩) 2 2, .slice (some ⟨bG2, 0, none⟩) 2 2, .slice (some ⟨bS3, 0, none⟩) 2 2, .slice (some ⟨bG3, 0, none⟩) 2 2, .slice (some ⟨bS4, 0, none⟩) 2 2, .slice (some ⟨bG4, 0, none⟩) 2 2] 25)
  replace kg2 := kg2.alloc (.cells #[.slice none 0 0, .slice none 0 0, .slice (some ⟨bS1, 0, none⟩) 2 2, .slice (some ⟨bG1, 0, none⟩) 2 2, .slice (some ⟨bS2, 0, none⟩) 2 2, .slice (some ⟨bG2, 0, none⟩) 2 2, .slice (some ⟨bS3, 0, none⟩) 2 2, .slice (some ⟨bG3, 0, none⟩) 2 2, .slice (some ⟨bS4, 0, none⟩) 2 2, .slice (some ⟨bG4, 0, none⟩) 2 2] 25)
  replace ks3 := ks3.alloc (.cells #[.slice none 0 0, .slice none 0 0, .slice (some ⟨bS1, 0, none⟩) 2 2, .slice (some ⟨bG1, 0, none⟩) 2 2, .slice (some ⟨bS2, 0, none⟩) 2 2, .slice (some ⟨bG2, 0, none⟩) 2 2, .slice (some ⟨bS3, 0, none⟩) 2 2, .slice (some ⟨bG3, 0, none⟩) 2 2, .slice (some ⟨bS4, 0, none⟩) 2 2, .slice (some ⟨bG4, 0, none⟩) 2 2] 25)
  replace kg3 := kg3.alloc (.cells #[.slice none 0 0, .slice none 0 0, .slice (some ⟨bS1, 0, none⟩) 2 2, .slice (some ⟨bG1, 0, none⟩) 2 2, .slice (some ⟨bS2, 0, none⟩) 2 2, .slice (some ⟨bG2, 0, none⟩) 2 2, .slice (some ⟨bS3, 0, none⟩) 2 2, .slice (some ⟨bG3, 0, none⟩) 2 2, .slice (some ⟨bS4, 0, none⟩) 2 2, .slice (some ⟨bG4, 0, none⟩) 2 2] 25)
  replace ks4 := ks4.alloc (.cells #[.slice none 0 0, .slice none 0 0, .slice (some ⟨bS1, 0, none⟩) 2 2, .slice (some ⟨bG1, 0, none⟩) 2 2, .slice (some ⟨bS2, 0, none⟩) 2 2, .slice (some ⟨bG2, 0, none⟩) 2 2, .slice (some ⟨bS3, 0, none⟩) 2 2, .slice (some ⟨bG3, 0, none⟩) 2 2, .slice (some ⟨bS4, 0, none⟩) 2 2, .slice (some ⟨bG4, 0, none⟩) 2 2] 25)
  replace kg4 := kg4.alloc (.cells #[.slice none 0 0, .slice none 0 0, .slice (some ⟨bS1, 0, none⟩) 2 2, .slice (some ⟨bG1, 0, none⟩) 2 2, .slice (some ⟨bS2, 0, none⟩) 2 2, .slice (some ⟨bG2, 0, none⟩) 2 2, .slice (some ⟨bS3, 0, none⟩) 2 2, .slice (some ⟨bG3, 0, none⟩) 2 2, .slice (some ⟨bS4, 0, none⟩) 2 2, .slice (some ⟨bG4, 0, none⟩) 2 2] 25)
  have kW := Blk.new w4 25 #[.slice none 0 0, .slice none 0 0, .slice (some ⟨bS1, 0, none⟩) 2 2, .slice (some ⟨bG1, 0, none⟩) 2 2, .slice (some ⟨bS2, 0, none⟩) 2 2, .slice (some ⟨bG2, 0, none⟩) 2 2, .slice (some ⟨bS3, 0, none⟩) 2 2, .slice (some ⟨bG3, 0, none⟩) 2 2, .slice (some ⟨bS4, 0, none⟩) 2 2, .slice (some ⟨bG4, 0, none⟩) 2 2]
  replace b := b.alloc b.size (.cells #[.slice none 0 0, .slice none 0 0, .slice (some ⟨bS1, 0, none⟩) 2 2, .slice (some ⟨bG1, 0, none⟩) 2 2, .slice (some ⟨bS2, 0, none⟩) 2 2, .slice (some ⟨bG2, 0, none⟩) 2 2, .slice (some ⟨bS3, 0, none⟩) 2 2, .slice (some ⟨bG3, 0, none⟩) 2 2, .slice (some ⟨bS4, 0, none⟩) 2 2, .slice (some ⟨bG4, 0, none⟩) 2 2] 25)
  go_upto_region 2 with fail
  have hw4 := b.size
  simp only [World.size_alloc] at hw4
  generalize (w4.alloc (.cells #[.slice none 0 0, .slice none 0 0, .slice (some ⟨bS1, 0, none⟩) 2 2, .slice (some ⟨bG1, 0, none⟩) 2 2, .slice (some ⟨bS2, 0, none⟩) 2 2, .slice (some ⟨bG2, 0, none⟩) 2 2, .slice (some ⟨bS3, 0, none⟩) 2 2, .slice (some ⟨bG3, 0, none⟩) 2 2, .slice (some ⟨bS4, 0, none⟩) 2 2, .slice (some ⟨bG4, 0, none⟩) 2 2] 25)) = wA at *
  obtain ⟨gW, hgW⟩ : ∃ g, w4.heap.size = g := ⟨_, rfl⟩
  have hgW2 := Nat.le_of_eq hgW
  have hgW3 := Nat.le_of_eq hgW.symm
  rw [hgW] at kW
  rw [hgW]
  clear hgW
  obtain ⟨c1, f1, l1⟩ := kW.rules
  go_upto_region 3 with fail
  clear c1 f1 l1
  replace ks1 := ks1.far (p := ⟨gW, 2, none⟩) (by dsimp only; omega) (.slice none 0 0)
  replace kg1 := kg1.far (p := ⟨gW, 2, none⟩) (by dsimp only; omega) (.slice none 0 0)
  replace ks2 := ks2.far (p := ⟨gW, 2, none⟩) (by dsimp only; omega) (.slice none 0 0)
  replace kg2 := kg2.far (p := ⟨gW, 2, none⟩) (by dsimp only; omega) (.slice none 0 0)
  replace ks3 := ks3.far (p := ⟨gW, 2, none⟩) (by dsimp only; omega) (.slice none 0 0)
  replace kg3 := kg3.far (p := ⟨gW, 2, none⟩) (by dsimp only; omega) (.slice none 0 0)
  replace ks4 := ks4.far (p := ⟨gW, 2, none⟩) (by dsimp only; omega) (.slice none 0 0)
  replace kg4 := kg4.far (p := ⟨gW, 2, none⟩) (by dsimp only; omega) (.slice none 0 0)
  replace kW := kW.set_ 2 (.slice none 0 0)
  simp only [List.setIfInBounds_toArray, List.set_cons_zero, List.set_cons_succ] at kW
  replace b := b.setCell (p := ⟨gW, 2, none⟩) (by dsimp only; omega) (.slice none 0 0)
  generalize wA.setCell ⟨gW, 2, none⟩ (.slice none 0 0) = wB0 at *
  obtain ⟨c1, f1, l1⟩ := kW.rules
  obtain ⟨c2, f2, l2⟩ := kg2.rules
  go_upto_region 4 with fail
  clear c1 f1 l1 c2 f2 l2
  replace ks1 := ks1.far (p := ⟨bG2, 0, none⟩) (by dsimp only; omega) (.int .i64 0)
  replace kg1 := kg1.far (p := ⟨bG2, 0, none⟩) (by dsimp only; omega) (.int .i64 0)
  replace ks2 := ks2.far (p := ⟨bG2, 0, none⟩) (by dsimp only; omega) (.int .i64 0)
  replace kg2 := kg2.set_ 0 (.int .i64 0)
  simp only [List.setIfInBounds_toArray, List.set_cons_zero, List.set_cons_succ] at kg2
  replace ks3 := ks3.far (p := ⟨bG2, 0, none⟩) (by dsimp only; omega) (.int .i64 0)
  replace kg3 := kg3.far (p := ⟨bG2, 0, none⟩) (by dsimp only; omega) (.int .i64 0)
  replace ks4 := ks4.far (p := ⟨bG2, 0, none⟩) (by dsimp only; omega) (.int .i64 0)
  replace kg4 := kg4.far (p := ⟨bG2, 0, none⟩) (by dsimp only; omega) (.int .i64 0)
  replace kW := kW.far (p := ⟨bG2, 0, none⟩) (by dsimp only; omega) (.int .i64 0)
  replace b := b.setCell (p := ⟨bG2, 0, none⟩) (by dsimp only; omega) (.int .i64 0)
  generalize wB0.setCell ⟨bG2, 0, none⟩ (.int .i64 0) = wB1 at *
  obtain ⟨c1, f1, l1⟩ := kW.rules
  obtain ⟨c2, f2, l2⟩ := kg3.rules
  go_upto_region 5 with fail
  clear c1 f1 l1 c2 f2 l2
  replace ks1 := ks1.far (p := ⟨bG3, 5, none⟩) (by dsimp only; omega) (.int .i64 17)
  replace kg1 := kg1.far (p := ⟨bG3, 5, none⟩) (by dsimp only; omega) (.int .i64 17)
  replace ks2 := ks2.far (p := ⟨bG3, 5, none⟩) (by dsimp only; omega) (.int .i64 17)
  replace kg2 := kg2.far (p := ⟨bG3, 5, none⟩) (by dsimp only; omega) (.int .i64 17)
  replace ks3 := ks3.far (p := ⟨bG3, 5, none⟩) (by dsimp only; omega) (.int .i64 17)
  replace kg3 := kg3.set_ 5 (.int .i64 17)
  simp only [List.setIfInBounds_toArray, List.set_cons_zero, List.set_cons_succ] at kg3
  replace ks4 := ks4.far (p := ⟨bG3, 5, none⟩) (by dsimp only; omega) (.int .i64 17)
  replace kg4 := kg4.far (p := ⟨bG3, 5, none⟩) (by dsimp only; omega) (.int .i64 17)
  replace kW := kW.far (p := ⟨bG3, 5, none⟩) (by dsimp only; omega) (.int .i64 17)
  replace b := b.setCell (p := ⟨bG3, 5, none⟩) (by dsimp only; omega) (.int .i64 17)
  generalize wB1.setCell ⟨bG3, 5, none⟩ (.int .i64 17) = wB2 at *
  obtain ⟨c1, f1, l1⟩ := kW.rules
  obtain ⟨c2, f2, l2⟩ := kg4.rules
  go_upto_region 6 with fail
  clear c1 f1 l1 c2 f2 l2
  replace ks1 := ks1.far (p := ⟨bG4, 2, none⟩) (by dsimp only; omega) (.int .i64 2)
  replace kg1 := kg1.far (p := ⟨bG4, 2, none⟩) (by dsimp only; omega) (.int .i64 2)
  replace ks2 := ks2.far (p := ⟨bG4, 2, none⟩) (by dsimp only; omega) (.int .i64 2)
  replace kg2 := kg2.far (p := ⟨bG4, 2, none⟩) (by dsimp only; omega) (.int .i64 2)
  replace ks3 := ks3.far (p := ⟨bG4, 2, none⟩) (by dsimp only; omega) (.int .i64 2)
  replace kg3 := kg3.far (p := ⟨bG4, 2, none⟩) (by dsimp only; omega) (.int .i64 2)
  replace ks4 := ks4.far (p := ⟨bG4, 2, none⟩) (by dsimp only; omega) (.int .i64 2)
  replace kg4 := kg4.set_ 2 (.int .i64 2)
  simp only [List.setIfInBounds_toArray, List.set_cons_zero, List.set_cons_succ] at kg4
  replace kW := kW.far (p := ⟨bG4, 2, none⟩) (by dsimp only; omega) (.int .i64 2)
  replace b := b.setCell (p := ⟨bG4, 2, none⟩) (by dsimp only; omega) (.int .i64 2)
  generalize wB2.setCell ⟨bG4, 2, none⟩ (.int .i64 2) = wB3 at *
  have hix : ∀ k : Nat, k < 5 → ∃ S ns cs G ng cg x, wB3.cell? ⟨gW, k * 2, none⟩ = some (.slice S ns cs) ∧ wB3.cell? ⟨gW, k * 2 + 1, none⟩ = some (.slice G ng cg) ∧ SlAt wB3 0 1 ivs S ns cs x.sh ∧ SlAt wB3 0 4 Gun.cells G ng cg x.gs ∧ chkArr x = 50 := by
    obtain ⟨c1, f1, l1⟩ := kW.rules
    intro k hk
    match k, hk with
    | 0, _ => exact ⟨_, _, _, _, _, _, arrX0, c1 0, c1 1, SlAt.nil _ _ _ _, SlAt.nil _ _ _ _, chkX0⟩
    | 1, _ => exact ⟨_, _, _, _, _, _, arrX1, c1 2, c1 3, SlAt.nil _ _ _ _, (SlAt.of_blk (enc := Gun.cells) (s := 4) kg1 (fun _ => rfl) arrX1.gs rfl (by decide)).mono (Nat.zero_le _), chkX1⟩
    | 2, _ => exact ⟨_, _, _, _, _, _, arrX2, c1 4, c1 5, (SlAt.of_blk (enc := ivs) (s := 1) ks2 (fun _ => rfl) arrX2.sh rfl (by decide)).mono (Nat.zero_le _), (SlAt.of_blk (enc := Gun.cells) (s := 4) kg2 (fun _ => rfl) arrX2.gs rfl (by decide)).mono (Nat.zero_le _), chkX2⟩
    | 3, _ => exact ⟨_, _, _, _, _, _, arrX3, c1 6, c1 7, (SlAt.of_blk (enc := ivs) (s := 1) ks3 (fun _ => rfl) arrX3.sh rfl (by decide)).mono (Nat.zero_le _), (SlAt.of_blk (enc := Gun.cells) (s := 4) kg3 (fun _ => rfl) arrX3.gs rfl (by decide)).mono (Nat.zero_le _), chkX3⟩
    | 4, _ => exact ⟨_, _, _, _, _, _, arrX4, c1 8, c1 9, (SlAt.of_blk (enc := ivs) (s := 1) ks4 (fun _ => rfl) arrX4.sh rfl (by decide)).mono (Nat.zero_le _), (SlAt.of_blk (enc := Gun.cells) (s := 4) kg4 (fun _ => rfl) arrX4.gs rfl (by decide)).mono (Nat.zero_le _), chkX4⟩
  have hgw := kW.lt
  have hkl := kW
  replace hix := Lib.hid hix
  clear ks1
  clear kg1
  clear ks2
  clear kg2
  clear ks3
  clear kg3
  clear ks4
  clear kg4
  clear kW
  clear hkl
  go_wp2_with fail
  go_loopw [2] (fun i wr => ∃ k : Nat, i = .int .i64 (k : Int) ∧ k ≤ 5 ∧ Below wB3.heap.size wB3 wr) (fun i wr => 5 - (intOf i).toNat)
  case atStart => exact ⟨0, rfl, Nat.zero_le _, Below.refl _ _⟩
  case round =>
    obtain ⟨k, rfl, hk, hb9⟩ := hrel
    by_cases hlt : k < 5
    · have hk0 : (0 : Int) ≤ (k : Int) := by omega
      have hk1 : (k : Int) < 5 := by omega
      obtain ⟨S, ns, cs, G, ng, cg, x, e0, e1, hs, hg, hch⟩ := hix.out k hlt
      replace e0 := (hb9.cell (p := ⟨gW, k * 2, none⟩) hgw).trans e0
      replace e1 := (hb9.cell (p := ⟨gW, k * 2 + 1, none⟩) hgw).trans e1
      have hC := sCheck_any x S G ns cs ng cg wr (hs.below hb9) (hg.below hb9)
      rw [hch] at hC
      replace hch := Lib.hid hch
      go_wp2_with fail
      refine hC.mono ?_
      rintro e W9 ⟨rfl, hb⟩
      go_wp2_with fail
      go_roundw
      case rel => exact ⟨k + 1, by go_num, by omega, hb9.trans (hb.mono hb9.size)⟩
      case measure => simp [intOf]; omega
    · have hk1 : ¬ (k : Int) < 5 := by omega
      replace b := b.trans (hb9.mono b.size)
      clear hb9 hix
      generalize wr = w4b at *
      go_wp2_with fail
      refine (gunsE_any _).mono ?_
      rintro e w5 ⟨S1, G1, rfl, hs1, hg1, hb⟩
      replace b := b.trans (hb.mono b.size)
      replace hs1 := hs1.mono (Nat.zero_le _)
      clear hb
      clear hg1
      obtain ⟨i0, hi0, hz0, hz1, hz2⟩ := info_parts Try.infoGunK
      have kx := Blk.new w5 25 #[.slice S1 2 2, .slice none 0 0]
      have hbx := (Below.refl w5.heap.size w5).alloc (Nat.le_refl _) (.cells #[.slice S1 2 2, .slice none 0 0] 25)
      go_wp2_with fail
      generalize w5.alloc (.cells #[.slice S1 2 2, .slice none 0 0] 25) = w6 at *
      go_loopw [4] (fun i wr => ∃ (k : Nat) (v : Value), i = .int .i64 (k : Int) ∧ k ≤ 3 ∧ Blk wr w5.heap.size 25 #[.slice S1 2 2, v] ∧ wr.ownsRow (w5.heap.size + 1) 74 4 v k ((List.replicate k gunW).flatMap Gun.cells) ∧ Below w5.heap.size w5 wr) (fun i wr => 3 - (intOf i).toNat)
      case atStart => exact ⟨0, _, rfl, Nat.zero_le _, kx, ⟨rfl, .inl ⟨rfl, rfl⟩⟩, hbx⟩
      case round =>
        clear kx hbx
        obtain ⟨k, v, rfl, hk, kx, hown, hb9⟩ := hrel
        by_cases hlt : k < 3
        · have hk0 : (0 : Int) ≤ (k : Int) := by omega
          have hk1 : (k : Int) < 3 := by omega
          have hkx := kx.lt
          have kxa := kx.alloc (.cells #[.int .i64 1, .int .i64 0, .int .i64 (-8), .int .i64 8] 74)
          have hownA := hown.alloc (.cells #[.int .i64 1, .int .i64 0, .int .i64 (-8), .int .i64 8] 74)
          have hbA := hb9.alloc hb9.size (.cells #[.int .i64 1, .int .i64 0, .int .i64 (-8), .int .i64 8] 74)
          have hnews : ∀ (j : Nat) (u : Value), ([.int .i64 1, .int .i64 0, .int .i64 (-8), .int .i64 8] : List Value)[j]? = some u → (wr.alloc (.cells #[.int .i64 1, .int .i64 0, .int .i64 (-8), .int .i64 8] 74)).cell? ((⟨wr.heap.size, 0, none⟩ : Addr).add j) = some u := World.news_of_block (cs := #[.int .i64 1, .int .i64 0, .int .i64 (-8), .int .i64 8]) (World.alloc_heap_new wr _)
          have hbig1 : Hid (k + 1 ≤ maxLen) := by show _ ≤ maxLen; unfold maxLen; omega
          have hbig2 : Hid ((k + 1) * 32 ≤ 140737488355328) := by show _ ≤ 140737488355328; omega
          have hbase : w5.heap.size + 1 ≤ (wr.alloc (.cells #[.int .i64 1, .int .i64 0, .int .i64 (-8), .int .i64 8] 74)).heap.size := by simp; omega
          have hrep : Hid ((List.replicate k gunW).flatMap Gun.cells ++ [.int .i64 1, .int .i64 0, .int .i64 (-8), .int .i64 8] = (List.replicate (k + 1) gunW).flatMap Gun.cells) := by show _ = _; rw [List.replicate_succ', List.flatMap_append]; rfl
          obtain ⟨c3, f3, l3⟩ := kx.rules
          go_wp2_with (at_builtin; refine wpList_append_lies _ rfl (.tmp 76) (.tmp 79) 23 rfl (w5.heap.size + 1) 74 i0 (.agg #[.int .i64 0, .int .i64 0, .int .i64 0, .int .i64 0]) 4 32 Try.underlying23 hi0 hz0 hz1 hz2 rfl (by decide) v k ((List.replicate k gunW).flatMap Gun.cells) rfl hownA ⟨wr.heap.size, 0, none⟩ 1 1 [.int .i64 1, .int .i64 0, .int .i64 (-8), .int .i64 8] rfl rfl hnews (by simp [Value.oneCell']) (by decide) hbig1.out hbig2.out hbase (wr.heap.size + 1) (by simp) ?_; intro g10 cap2 w7 hown7 hgrow hlies hlt7; clear c3 f3 l3; have kxg := kxa.grown hgrow (fun e => by have := (hownA.lt _ e.symm).1; omega); obtain ⟨c3, f3, l3⟩ := kxg.rules)
          have kxz := kxg.set_ 1 (.slice (some ⟨g10, 0, none⟩) (k + 1) cap2)
          simp only [List.setIfInBounds_toArray, List.set_cons_zero, List.set_cons_succ] at kxz
          have hownz := ownsRow_setCell hown7 (p := ⟨w5.heap.size, 1, none⟩) (fun e => by have := (hown7.lt _ e).1; dsimp only at this; omega) (.slice (some ⟨g10, 0, none⟩) (k + 1) cap2)
          have hbg : Below w5.heap.size _ w7 := ⟨hgrow.os, hgrow.tape, hgrow.output, hgrow.size, fun b hb2 => hgrow.block b (by simp; omega) (fun e => by have := (hownA.lt _ e.symm).1; omega)⟩
          have hbz := (hbA.trans hbg).setCell (p := ⟨w5.heap.size, 1, none⟩) (Nat.le_refl _) (.slice (some ⟨g10, 0, none⟩) (k + 1) cap2)
          go_roundw
          case rel => exact ⟨k + 1, _, by go_num, by omega, kxz, by rw [← hrep.out]; exact hownz, hbz⟩
          case measure => simp [intOf]; omega
        · have hk1 : ¬ (k : Int) < 3 := by omega
          have hk3 : k = 3 := by omega
          rw [hk3] at hown
          obtain ⟨G3, c3, rfl, hgw⟩ := SlAt.of_own (enc := Gun.cells) hown (by decide) (List.replicate 3 gunW) rfl (fun _ => rfl) rfl
          replace hgw := hgw.mono (Nat.zero_le _)
          replace hs1 := hs1.below hb9
          replace b := b.trans (hb9.mono b.size)
          clear hown hb9
          replace hk3 := Lib.hid hk3
          generalize w5.heap.size = gx at kx ⊢
          generalize wr = w7 at *
          obtain ⟨c_kx, f_kx, l_kx⟩ := kx.rules
          go_wp2_with fail
          refine (gunsE_any _).mono ?_
          rintro e w8 ⟨S6, G6, rfl, hs6, hg6, hb⟩
          clear c_kx f_kx l_kx
          replace hs1 := hs1.below hb
          replace hgw := hgw.below hb
          replace kx := kx.below hb
          replace b := b.trans (hb.mono b.size)
          replace hs6 := hs6.mono (Nat.zero_le _)
          replace hg6 := hg6.mono (Nat.zero_le _)
          clear hb
          replace hs1 := hs1.alloc (.cells #[.int .i64 1] 3)
          replace hgw := hgw.alloc (.cells #[.int .i64 1] 3)
          replace hs6 := hs6.alloc (.cells #[.int .i64 1] 3)
          replace hg6 := hg6.alloc (.cells #[.int .i64 1] 3)
          replace kx := kx.alloc (.cells #[.int .i64 1] 3)
          have i1 := (SlAt.of_blk (enc := ivs) (s := 1) (Blk.new w8 3 #[.int .i64 1]) (fun _ => rfl) [(1 : Int)] rfl (by decide)).mono (Nat.zero_le _)
          replace b := b.alloc b.size (.cells #[.int .i64 1] 3)
          have hC := Signature_any gunsA S6 G6 _ 2 2 2 2 1 1 [1] _ hs6 hg6 i1
          rw [sig2] at hC
          obtain ⟨c_kx, f_kx, l_kx⟩ := kx.rules
          go_wp2_with fail
          refine (hC).mono ?_
          rintro e w9 ⟨O_ra, n_ra, c_ra, rfl, ra, hb⟩
          clear c_kx f_kx l_kx
          replace hs1 := hs1.below hb
          replace hgw := hgw.below hb
          replace hs6 := hs6.below hb
          replace hg6 := hg6.below hb
          replace i1 := i1.below hb
          replace kx := kx.below hb
          replace b := b.trans (hb.mono b.size)
          replace ra := ra.mono (Nat.zero_le _)
          clear hb
          clear hC
          clear hs6
          clear hg6
          clear i1
          clear ra
          obtain ⟨c_kx, f_kx, l_kx⟩ := kx.rules
          go_wp2_with fail
          refine (gunsE_any _).mono ?_
          rintro e w10 ⟨S7, G7, rfl, hs7, hg7, hb⟩
          clear c_kx f_kx l_kx
          replace hs1 := hs1.below hb
          replace hgw := hgw.below hb
          replace kx := kx.below hb
          replace b := b.trans (hb.mono b.size)
          replace hs7 := hs7.mono (Nat.zero_le _)
          replace hg7 := hg7.mono (Nat.zero_le _)
          clear hb
          replace hs1 := hs1.alloc (.cells #[.int .i64 17, .int .i64 0] 3)
          replace hgw := hgw.alloc (.cells #[.int .i64 17, .int .i64 0] 3)
          replace hs7 := hs7.alloc (.cells #[.int .i64 17, .int .i64 0] 3)
          replace hg7 := hg7.alloc (.cells #[.int .i64 17, .int .i64 0] 3)
          replace kx := kx.alloc (.cells #[.int .i64 17, .int .i64 0] 3)
          have i1 := (SlAt.of_blk (enc := ivs) (s := 1) (Blk.new w10 3 #[.int .i64 17, .int .i64 0]) (fun _ => rfl) [(17 : Int), (0 : Int)] rfl (by decide)).mono (Nat.zero_le _)
          replace b := b.alloc b.size (.cells #[.int .i64 17, .int .i64 0] 3)
          have hC := Misfit_any gunsA S7 G7 _ 2 2 2 2 2 2 [17, 0] _ hs7 hg7 i1
          rw [mis2] at hC
          obtain ⟨c_kx, f_kx, l_kx⟩ := kx.rules
          go_wp2_with fail
          refine (hC).mono ?_
          rintro e w11 ⟨rfl, hb⟩
          clear c_kx f_kx l_kx
          replace hs1 := hs1.below hb
          replace hgw := hgw.below hb
          replace hs7 := hs7.below hb
          replace hg7 := hg7.below hb
          replace i1 := i1.below hb
          replace kx := kx.below hb
          replace b := b.trans (hb.mono b.size)
          clear hb
          clear hC
          clear hs7
          clear hg7
          clear i1
          have hC := Worst_any arrW S1 G3 2 2 3 c3 _ hs1 hgw
          unfold RetWo at hC
          rw [worst2] at hC
          obtain ⟨c_kx, f_kx, l_kx⟩ := kx.rules
          go_wp2_with fail
          refine (hC).mono ?_
          rintro e w12 ⟨O_rw, n_rw, c_rw, rfl, -, hb⟩
          clear c_kx f_kx l_kx
          replace hs1 := hs1.below hb
          replace hgw := hgw.below hb
          replace kx := kx.below hb
          replace b := b.trans (hb.mono b.size)
          clear hb
          clear hC
          obtain ⟨c_kx, f_kx, l_kx⟩ := kx.rules
          go_wp2_with fail
          refine (gunsE_any _).mono ?_
          rintro e w13 ⟨S8, G8, rfl, hs8, hg8, hb⟩
          clear c_kx f_kx l_kx
          replace hs1 := hs1.below hb
          replace hgw := hgw.below hb
          replace kx := kx.below hb
          replace b := b.trans (hb.mono b.size)
          replace hs8 := hs8.mono (Nat.zero_le _)
          replace hg8 := hg8.mono (Nat.zero_le _)
          clear hb
          have hC := Losses_any gunsA (-1) 1 S8 G8 2 2 2 2 _ hs8 hg8
          rw [loss2] at hC
          obtain ⟨c_kx, f_kx, l_kx⟩ := kx.rules
          go_wp2_with fail
          refine (hC).mono ?_
          rintro e w14 ⟨O_l2, n_l2, c_l2, rfl, -, hb⟩
          clear c_kx f_kx l_kx
          replace hs1 := hs1.below hb
          replace hgw := hgw.below hb
          replace hs8 := hs8.below hb
          replace hg8 := hg8.below hb
          replace kx := kx.below hb
          replace b := b.trans (hb.mono b.size)
          clear hb
          clear hC
          clear hs8
          clear hg8
          obtain ⟨c_kx, f_kx, l_kx⟩ := kx.rules
          go_wp2_with fail
          refine (gunsE_any _).mono ?_
          rintro e w15 ⟨S9, G9, rfl, hs9, hg9, hb⟩
          clear c_kx f_kx l_kx
          replace hs1 := hs1.below hb
          replace hgw := hgw.below hb
          replace kx := kx.below hb
          replace b := b.trans (hb.mono b.size)
          replace hs9 := hs9.mono (Nat.zero_le _)
          replace hg9 := hg9.mono (Nat.zero_le _)
          clear hb
          have hC := Losses_any gunsA 5 4 S9 G9 2 2 2 2 _ hs9 hg9
          rw [loss3] at hC
          obtain ⟨c_kx, f_kx, l_kx⟩ := kx.rules
          go_wp2_with fail
          refine (hC).mono ?_
          rintro e w16 ⟨O_l3, n_l3, c_l3, rfl, -, hb⟩
          clear c_kx f_kx l_kx
          replace hs1 := hs1.below hb
          replace hgw := hgw.below hb
          replace hs9 := hs9.below hb
          replace hg9 := hg9.below hb
          replace kx := kx.below hb
          replace b := b.trans (hb.mono b.size)
          clear hb
          clear hC
          clear hs9
          clear hg9
          have hC := Losses_any arrW 7 3 S1 G3 2 2 3 c3 _ hs1 hgw
          rw [loss4] at hC
          obtain ⟨c_kx, f_kx, l_kx⟩ := kx.rules
          go_wp2_with fail
          refine (hC).mono ?_
          rintro e w17 ⟨O_rl, n_rl, c_rl, rfl, rl, hb⟩
          clear c_kx f_kx l_kx
          replace hs1 := hs1.below hb
          replace hgw := hgw.below hb
          replace kx := kx.below hb
          replace b := b.trans (hb.mono b.size)
          replace rl := rl.mono (Nat.zero_le _)
          clear hb
          clear hC
          clear hs1
          clear hgw
          clear kx
          replace rl := rl.below ((Below.refl _ _).alloc (Nat.le_refl _) (.cells #[.int .i64 0, .int .i64 1] 3))
          have i1 := (SlAt.of_blk (enc := ivs) (s := 1) (Blk.new w17 3 #[.int .i64 0, .int .i64 1]) (fun _ => rfl) [(0 : Int), (1 : Int)] rfl (by decide)).mono (Nat.zero_le _)
          replace b := b.alloc b.size (.cells #[.int .i64 0, .int .i64 1] 3)
          replace i1 := i1.alloc (.cells #[.int .i64 0, .int .i64 2] 3)
          replace rl := rl.below ((Below.refl _ _).alloc (Nat.le_refl _) (.cells #[.int .i64 0, .int .i64 2] 3))
          have i2 := (SlAt.of_blk (enc := ivs) (s := 1) (Blk.new (w17.alloc (.cells #[.int .i64 0, .int .i64 1] 3)) 3 #[.int .i64 0, .int .i64 2]) (fun _ => rfl) [(0 : Int), (2 : Int)] rfl (by decide)).mono (Nat.zero_le _)
          simp only [World.size_alloc] at i2
          replace b := b.alloc b.size (.cells #[.int .i64 0, .int .i64 2] 3)
          replace i1 := i1.alloc (.cells #[.int .i64 1, .int .i64 2] 3)
          replace i2 := i2.alloc (.cells #[.int .i64 1, .int .i64 2] 3)
          replace rl := rl.below ((Below.refl _ _).alloc (Nat.le_refl _) (.cells #[.int .i64 1, .int .i64 2] 3))
          have i3 := (SlAt.of_blk (enc := ivs) (s := 1) (Blk.new ((w17.alloc (.cells #[.int .i64 0, .int .i64 1] 3)).alloc (.cells #[.int .i64 0, .int .i64 2] 3)) 3 #[.int .i64 1, .int .i64 2]) (fun _ => rfl) [(1 : Int), (2 : Int)] rfl (by decide)).mono (Nat.zero_le _)
          simp only [World.size_alloc] at i3
          replace b := b.alloc b.size (.cells #[.int .i64 1, .int .i64 2] 3)
          replace i1 := i1.alloc (.cells #[.slice (some ⟨w17.heap.size, 0, none⟩) 2 2, .slice (some ⟨w17.heap.size + 1, 0, none⟩) 2 2, .slice (some ⟨w17.heap.size + 1 + 1, 0, none⟩) 2 2] 22)
          replace i2 := i2.alloc (.cells #[.slice (some ⟨w17.heap.size, 0, none⟩) 2 2, .slice (some ⟨w17.heap.size + 1, 0, none⟩) 2 2, .slice (some ⟨w17.heap.size + 1 + 1, 0, none⟩) 2 2] 22)
          replace i3 := i3.alloc (.cells #[.slice (some ⟨w17.heap.size, 0, none⟩) 2 2, .slice (some ⟨w17.heap.size + 1, 0, none⟩) 2 2, .slice (some ⟨w17.heap.size + 1 + 1, 0, none⟩) 2 2] 22)
          replace rl := rl.below ((Below.refl _ _).alloc (Nat.le_refl _) (.cells #[.slice (some ⟨w17.heap.size, 0, none⟩) 2 2, .slice (some ⟨w17.heap.size + 1, 0, none⟩) 2 2, .slice (some ⟨w17.heap.size + 1 + 1, 0, none⟩) 2 2] 22))
          have kl := Blk.new (((w17.alloc (.cells #[.int .i64 0, .int .i64 1] 3)).alloc (.cells #[.int .i64 0, .int .i64 2] 3)).alloc (.cells #[.int .i64 1, .int .i64 2] 3)) 22 #[.slice (some ⟨w17.heap.size, 0, none⟩) 2 2, .slice (some ⟨w17.heap.size + 1, 0, none⟩) 2 2, .slice (some ⟨w17.heap.size + 1 + 1, 0, none⟩) 2 2]
          simp only [World.size_alloc] at kl
          replace b := b.alloc b.size (.cells #[.slice (some ⟨w17.heap.size, 0, none⟩) 2 2, .slice (some ⟨w17.heap.size + 1, 0, none⟩) 2 2, .slice (some ⟨w17.heap.size + 1 + 1, 0, none⟩) 2 2] 22)
          have hL : LLs ((((w17.alloc (.cells #[.int .i64 0, .int .i64 1] 3)).alloc (.cells #[.int .i64 0, .int .i64 2] 3)).alloc (.cells #[.int .i64 1, .int .i64 2] 3)).alloc (.cells #[.slice (some ⟨w17.heap.size, 0, none⟩) 2 2, .slice (some ⟨w17.heap.size + 1, 0, none⟩) 2 2, .slice (some ⟨w17.heap.size + 1 + 1, 0, none⟩) 2 2] 22)) 0 (some ⟨w17.heap.size + 1 + 1 + 1, 0, none⟩) 3 3 [[0, 1], [0, 2], [1, 2]] := lls3 kl i1 i2 i3
          clear kl
          have hC := AlikeLists_any O_rl _ n_rl c_rl 3 3 0 0 _ [[0, 1], [0, 2], [1, 2]] _ rl hL
          rw [decide_eq_true rfl] at hC
          go_wp2_with fail
          refine (hC).mono ?_
          rintro e w18 ⟨rfl, hb⟩
          replace i1 := i1.below hb
          replace i2 := i2.below hb
          replace i3 := i3.below hb
          replace rl := rl.below hb
          replace hL := hL.below hb
          replace b := b.trans (hb.mono b.size)
          clear hb
          clear hC
          clear rl
          clear i1
          clear i2
          clear i3
          clear hL
          go_wp2_with fail
          refine (firing_any _).mono ?_
          rintro e w19 ⟨rfl, hb⟩
          replace b := b.trans (hb.mono b.size)
          clear hb
          have hC := Fire_any fir0 [] none 0 0 0 w19 (SlAt.nil _ _ _ _)
          rw [fire2] at hC
          go_wp2_with fail
          refine (hC).mono ?_
          rintro e w20 ⟨O_rs, n_rs, c_rs, rfl, rs, hb⟩
          replace b := b.trans (hb.mono b.size)
          replace rs := rs.mono (Nat.zero_le _)
          clear hb
          clear hC
          clear rs
          go_wp2_with fail
          refine (firing_any _).mono ?_
          rintro e w21 ⟨rfl, hb⟩
          replace b := b.trans (hb.mono b.size)
          clear hb
          have i1 := (SlAt.of_blk (enc := ivs) (s := 1) (Blk.new w21 3 #[.int .i64 2, .int .i64 1]) (fun _ => rfl) [(2 : Int), (1 : Int)] rfl (by decide)).mono (Nat.zero_le _)
          replace b := b.alloc b.size (.cells #[.int .i64 2, .int .i64 1] 3)
          have hC := Fire_any fir0 [2, 1] _ 2 2 0 _ i1
          rw [fire3] at hC
          go_wp2_with fail
          refine (hC).mono ?_
          rintro e w22 ⟨O_rs, n_rs, c_rs, rfl, rs, hb⟩
          replace i1 := i1.below hb
          replace b := b.trans (hb.mono b.size)
          replace rs := rs.mono (Nat.zero_le _)
          clear hb
          clear hC
          clear rs
          clear i1
          go_wp2_with fail
          refine (firing_any _).mono ?_
          rintro e w23 ⟨rfl, hb⟩
          replace b := b.trans (hb.mono b.size)
          clear hb
          have i1 := (SlAt.of_blk (enc := Bnd.cells) (s := 2) (Blk.new w23 62 #[.int .i64 2, .int .i64 3, .int .i64 0, .int .i64 1]) (fun _ => rfl) [⟨2, 3⟩, ⟨0, 1⟩] rfl (by decide)).mono (Nat.zero_le _)
          replace b := b.alloc b.size (.cells #[.int .i64 2, .int .i64 3, .int .i64 0, .int .i64 1] 62)
          have hC := Times_any fir0 [⟨2, 3⟩, ⟨0, 1⟩] _ 2 2 0 _ i1
          rw [time2] at hC
          go_wp2_with fail
          refine (hC).mono ?_
          rintro e w24 ⟨O_rs, n_rs, c_rs, rfl, rs, hb⟩
          replace i1 := i1.below hb
          replace b := b.trans (hb.mono b.size)
          replace rs := rs.mono (Nat.zero_le _)
          clear hb
          clear hC
          clear rs
          clear i1
          go_wp2_with fail
          refine (firing_any _).mono ?_
          rintro e w25 ⟨rfl, hb⟩
          replace b := b.trans (hb.mono b.size)
          clear hb
          have i1 := (SlAt.of_blk (enc := Bnd.cells) (s := 2) (Blk.new w25 62 #[.int .i64 2, .int .i64 1]) (fun _ => rfl) [⟨2, 1⟩] rfl (by decide)).mono (Nat.zero_le _)
          replace b := b.alloc b.size (.cells #[.int .i64 2, .int .i64 1] 62)
          have hC := Times_any fir0 [⟨2, 1⟩] _ 1 1 0 _ i1
          rw [time3] at hC
          go_wp2_with fail
          refine (hC).mono ?_
          rintro e w26 ⟨O_rs, n_rs, c_rs, rfl, rs, hb⟩
          replace i1 := i1.below hb
          replace b := b.trans (hb.mono b.size)
          replace rs := rs.mono (Nat.zero_le _)
          clear hb
          clear hC
          clear rs
          clear i1
          go_wp2_with fail
          refine (firing_any _).mono ?_
          rintro e w27 ⟨rfl, hb⟩
          replace b := b.trans (hb.mono b.size)
          clear hb
          have kf := Blk.new w27 38 #[.int .i64 10, .int .i64 1, .int .i64 2, .int .i64 4, .int .i64 1000]
          replace b := b.alloc b.size (.cells #[.int .i64 10, .int .i64 1, .int .i64 2, .int .i64 4, .int .i64 1000] 38)
          have hC := fun W => Pace_any firS W
          rw [pace2] at hC
          obtain ⟨c_kf, f_kf, l_kf⟩ := kf.rules
          go_wp2_with fail
          refine (hC _).mono ?_
          rintro e w28 ⟨rfl, hb⟩
          clear c_kf f_kf l_kf
          replace kf := kf.below hb
          replace b := b.trans (hb.mono b.size)
          clear hb
          clear hC
          clear kf
          go_wp2_with fail
          refine (firing_any _).mono ?_
          rintro e w29 ⟨rfl, hb⟩
          replace b := b.trans (hb.mono b.size)
          clear hb
          have kf := Blk.new w29 38 #[.int .i64 10, .int .i64 5, .int .i64 2, .int .i64 1, .int .i64 4]
          replace b := b.alloc b.size (.cells #[.int .i64 10, .int .i64 5, .int .i64 2, .int .i64 1, .int .i64 4] 38)
          have hC := fun W => Pace_any firO W
          rw [pace3] at hC
          obtain ⟨c_kf, f_kf, l_kf⟩ := kf.rules
          go_wp2_with fail
          refine (hC _).mono ?_
          rintro e w30 ⟨rfl, hb⟩
          clear c_kf f_kf l_kf
          replace kf := kf.below hb
          replace b := b.trans (hb.mono b.size)
          clear hb
          clear hC
          clear kf
          have hC := fun W => sCheckFiring_any ⟨0, 0, 0, 0, 0⟩ W
          rw [chkF0] at hC
          go_wp2_with fail
          refine (hC _).mono ?_
          rintro e w31 ⟨rfl, hb⟩
          replace b := b.trans (hb.mono b.size)
          clear hb
          clear hC
          have hC := fun W => sCheckRules_any ⟨0, 0, 0, 0⟩ W
          rw [chkR0] at hC
          go_wp2_with fail
          refine (hC _).mono ?_
          rintro e w32 ⟨rfl, hb⟩
          replace b := b.trans (hb.mono b.size)
          clear hb
          clear hC
          go_wp2_with fail
          refine (rules_any _).mono ?_
          rintro e w33 ⟨rfl, hb⟩
          replace b := b.trans (hb.mono b.size)
          clear hb
          have i1 := (SlAt.of_blk (enc := ivs) (s := 1) (Blk.new w33 3 #[.int .i64 0, .int .i64 1, .int .i64 1, .int .i64 0, .int .i64 0, .int .i64 0]) (fun _ => rfl) [(0 : Int), (1 : Int), (1 : Int), (0 : Int), (0 : Int), (0 : Int)] rfl (by decide)).mono (Nat.zero_le _)
          replace b := b.alloc b.size (.cells #[.int .i64 0, .int .i64 1, .int .i64 1, .int .i64 0, .int .i64 0, .int .i64 0] 3)
          have hC := Judge_any rul0 [0, 1, 1, 0, 0, 0] _ 6 6 0 _ i1
          rw [judge2] at hC
          go_wp2_with fail
          refine (hC).mono ?_
          rintro e w34 ⟨rfl, hb⟩
          replace i1 := i1.below hb
          replace b := b.trans (hb.mono b.size)
          clear hb
          clear hC
          clear i1
          go_wp2_with fail
          refine (rules_any _).mono ?_
          rintro e w35 ⟨rfl, hb⟩
          replace b := b.trans (hb.mono b.size)
          clear hb
          have i1 := (SlAt.of_blk (enc := ivs) (s := 1) (Blk.new w35 3 #[.int .i64 1, .int .i64 1, .int .i64 1]) (fun _ => rfl) [(1 : Int), (1 : Int), (1 : Int)] rfl (by decide)).mono (Nat.zero_le _)
          replace b := b.alloc b.size (.cells #[.int .i64 1, .int .i64 1, .int .i64 1] 3)
          have hC := Judge_any rul0 [1, 1, 1] _ 3 3 0 _ i1
          rw [judge3] at hC
          go_wp2_with fail
          refine (hC).mono ?_
          rintro e w36 ⟨rfl, hb⟩
          replace i1 := i1.below hb
          replace b := b.trans (hb.mono b.size)
          clear hb
          clear hC
          clear i1
          go_wp2_with fail
          refine (rules_any _).mono ?_
          rintro e w37 ⟨rfl, hb⟩
          replace b := b.trans (hb.mono b.size)
          clear hb
          have i1 := (SlAt.of_blk (enc := ivs) (s := 1) (Blk.new w37 3 #[.int .i64 2]) (fun _ => rfl) [(2 : Int)] rfl (by decide)).mono (Nat.zero_le _)
          replace b := b.alloc b.size (.cells #[.int .i64 2] 3)
          have hC := Judge_any rul0 [2] _ 1 1 0 _ i1
          rw [judge4] at hC
          go_wp2_with fail
          refine (hC).mono ?_
          rintro e w38 ⟨rfl, hb⟩
          replace i1 := i1.below hb
          replace b := b.trans (hb.mono b.size)
          clear hb
          clear hC
          clear i1
          go_wp2_with fail
          refine (rules_any _).mono ?_
          rintro e w39 ⟨rfl, hb⟩
          replace b := b.trans (hb.mono b.size)
          clear hb
          have i1 := (SlAt.of_blk (enc := ivs) (s := 1) (Blk.new w39 3 #[.int .i64 3]) (fun _ => rfl) [(3 : Int)] rfl (by decide)).mono (Nat.zero_le _)
          replace b := b.alloc b.size (.cells #[.int .i64 3] 3)
          have hC := Foresee_any rul0 [3] _ 1 1 0 _ i1
          rw [fore2] at hC
          go_wp2_with fail
          refine (hC).mono ?_
          rintro e w40 ⟨rfl, hb⟩
          replace i1 := i1.below hb
          replace b := b.trans (hb.mono b.size)
          clear hb
          clear hC
          clear i1
          go_wp2_with fail
          refine (rules_any _).mono ?_
          rintro e w41 ⟨rfl, hb⟩
          replace b := b.trans (hb.mono b.size)
          clear hb
          have i1 := (SlAt.of_blk (enc := ivs) (s := 1) (Blk.new w41 3 #[.int .i64 1, .int .i64 1, .int .i64 1]) (fun _ => rfl) [(1 : Int), (1 : Int), (1 : Int)] rfl (by decide)).mono (Nat.zero_le _)
          replace b := b.alloc b.size (.cells #[.int .i64 1, .int .i64 1, .int .i64 1] 3)
          have hC := Allow_any rul0 [1, 1, 1] 1 _ 3 3 0 _ i1
          rw [allow2] at hC
          go_wp2_with fail
          refine (hC).mono ?_
          rintro e w42 ⟨rfl, hb⟩
          replace i1 := i1.below hb
          replace b := b.trans (hb.mono b.size)
          clear hb
          clear hC
          clear i1
          go_wp2_with fail
          refine (rules_any _).mono ?_
          rintro e w43 ⟨rfl, hb⟩
          replace b := b.trans (hb.mono b.size)
          clear hb
          have hC := Allow_any rul0 [] 65 none 0 0 0 w43 (SlAt.nil _ _ _ _)
          rw [allow3] at hC
          go_wp2_with fail
          refine (hC).mono ?_
          rintro e w44 ⟨rfl, hb⟩
          replace b := b.trans (hb.mono b.size)
          clear hb
          clear hC
          have ib := (SlAt.of_blk (enc := ivs) (s := 1) (Blk.new w44 3 #[.int .i64 1, .int .i64 1, .int .i64 1, .int .i64 1, .int .i64 0, .int .i64 1]) (fun _ => rfl) [(1 : Int), (1 : Int), (1 : Int), (1 : Int), (0 : Int), (1 : Int)] rfl (by decide)).mono (Nat.zero_le _)
          replace b := b.alloc b.size (.cells #[.int .i64 1, .int .i64 1, .int .i64 1, .int .i64 1, .int .i64 0, .int .i64 1] 3)
          go_wp2_with fail
          refine (rules_any _).mono ?_
          rintro e w45 ⟨rfl, hb⟩
          replace ib := ib.below hb
          replace b := b.trans (hb.mono b.size)
          clear hb
          replace ib := ib.alloc (.cells #[.int .i64 2, .int .i64 0, .int .i64 2, .int .i64 1] 99)
          have i2 := (SlAt.of_blk (enc := Clm.cells) (s := 2) (Blk.new w45 99 #[.int .i64 2, .int .i64 0, .int .i64 2, .int .i64 1]) (fun _ => rfl) [⟨2, 0⟩, ⟨2, 1⟩] rfl (by decide)).mono (Nat.zero_le _)
          replace b := b.alloc b.size (.cells #[.int .i64 2, .int .i64 0, .int .i64 2, .int .i64 1] 99)
          have hC := Bound_any rul0 [1, 1, 1, 1, 0, 1] [⟨2, 0⟩, ⟨2, 1⟩] _ _ 6 6 2 2 0 _ ib i2
          rw [bound1] at hC
          go_wp2_with fail
          refine (hC).mono ?_
          rintro e w46 ⟨rfl, hb⟩
          replace ib := ib.below hb
          replace i2 := i2.below hb
          replace b := b.trans (hb.mono b.size)
          clear hb
          clear hC
          clear i2
          go_wp2_with fail
          refine (rules_any _).mono ?_
          rintro e w47 ⟨rfl, hb⟩
          replace ib := ib.below hb
          replace b := b.trans (hb.mono b.size)
          clear hb
          replace ib := ib.alloc (.cells #[.int .i64 2, .int .i64 2] 99)
          have i2 := (SlAt.of_blk (enc := Clm.cells) (s := 2) (Blk.new w47 99 #[.int .i64 2, .int .i64 2]) (fun _ => rfl) [⟨2, 2⟩] rfl (by decide)).mono (Nat.zero_le _)
          replace b := b.alloc b.size (.cells #[.int .i64 2, .int .i64 2] 99)
          have hC := Bound_any rul0 [1, 1, 1, 1, 0, 1] [⟨2, 2⟩] _ _ 6 6 1 1 0 _ ib i2
          rw [bound2] at hC
          go_wp2_with fail
          refine (hC).mono ?_
          rintro e w48 ⟨rfl, hb⟩
          replace ib := ib.below hb
          replace i2 := i2.below hb
          replace b := b.trans (hb.mono b.size)
          clear hb
          clear hC
          clear i2
          go_wp2_with fail
          refine (rules_any _).mono ?_
          rintro e w49 ⟨rfl, hb⟩
          replace ib := ib.below hb
          replace b := b.trans (hb.mono b.size)
          clear hb
          replace ib := ib.alloc (.cells #[.int .i64 3, .int .i64 1] 99)
          have i2 := (SlAt.of_blk (enc := Clm.cells) (s := 2) (Blk.new w49 99 #[.int .i64 3, .int .i64 1]) (fun _ => rfl) [⟨3, 1⟩] rfl (by decide)).mono (Nat.zero_le _)
          replace b := b.alloc b.size (.cells #[.int .i64 3, .int .i64 1] 99)
          have hC := Bound_any rul0 [1, 1, 1, 1, 0, 1] [⟨3, 1⟩] _ _ 6 6 1 1 0 _ ib i2
          rw [bound3] at hC
          go_wp2_with fail
          refine (hC).mono ?_
          rintro e w50 ⟨rfl, hb⟩
          replace ib := ib.below hb
          replace i2 := i2.below hb
          replace b := b.trans (hb.mono b.size)
          clear hb
          clear hC
          clear i2
          go_wp2_with fail
          refine (rules_any _).mono ?_
          rintro e w51 ⟨rfl, hb⟩
          replace ib := ib.below hb
          replace b := b.trans (hb.mono b.size)
          clear hb
          replace ib := ib.alloc (.cells #[.int .i64 4, .int .i64 0] 99)
          have i2 := (SlAt.of_blk (enc := Clm.cells) (s := 2) (Blk.new w51 99 #[.int .i64 4, .int .i64 0]) (fun _ => rfl) [⟨4, 0⟩] rfl (by decide)).mono (Nat.zero_le _)
          replace b := b.alloc b.size (.cells #[.int .i64 4, .int .i64 0] 99)
          have hC := Bound_any rul0 [1, 1, 1, 1, 0, 1] [⟨4, 0⟩] _ _ 6 6 1 1 0 _ ib i2
          rw [bound4] at hC
          go_wp2_with fail
          refine (hC).mono ?_
          rintro e w52 ⟨rfl, hb⟩
          replace ib := ib.below hb
          replace i2 := i2.below hb
          replace b := b.trans (hb.mono b.size)
          clear hb
          clear hC
          clear i2
          clear ib
          go_wp2_with fail
          refine (rules_any _).mono ?_
          rintro e w53 ⟨rfl, hb⟩
          replace b := b.trans (hb.mono b.size)
          clear hb
          have i1 := (SlAt.of_blk (enc := ivs) (s := 1) (Blk.new w53 3 #[.int .i64 1, .int .i64 1]) (fun _ => rfl) [(1 : Int), (1 : Int)] rfl (by decide)).mono (Nat.zero_le _)
          replace b := b.alloc b.size (.cells #[.int .i64 1, .int .i64 1] 3)
          replace i1 := i1.alloc (.cells #[.int .i64 2, .int .i64 0] 99)
          have i2 := (SlAt.of_blk (enc := Clm.cells) (s := 2) (Blk.new (w53.alloc (.cells #[.int .i64 1, .int .i64 1] 3)) 99 #[.int .i64 2, .int .i64 0]) (fun _ => rfl) [⟨2, 0⟩] rfl (by decide)).mono (Nat.zero_le _)
          simp only [World.size_alloc] at i2
          replace b := b.alloc b.size (.cells #[.int .i64 2, .int .i64 0] 99)
          have hC := Bound_any rul0 [1, 1] [⟨2, 0⟩] _ _ 2 2 1 1 0 _ i1 i2
          rw [bound5] at hC
          go_wp2_with fail
          refine (hC).mono ?_
          rintro e w54 ⟨rfl, hb⟩
          replace i1 := i1.below hb
          replace i2 := i2.below hb
          replace b := b.trans (hb.mono b.size)
          clear hb
          clear hC
          clear i1
          clear i2
          go_wp2_with fail
          refine (rules_any _).mono ?_
          rintro e w55 ⟨rfl, hb⟩
          replace b := b.trans (hb.mono b.size)
          clear hb
          have hC := Repeat_any rul0 [] none 0 0 0 w55 (SlAt.nil _ _ _ _)
          rw [rep2] at hC
          go_wp2_with fail
          refine (hC).mono ?_
          rintro e w56 ⟨O_rr, n_rr, c_rr, rfl, rr, hb⟩
          replace b := b.trans (hb.mono b.size)
          replace rr := rr.mono (Nat.zero_le _)
          clear hb
          clear hC
          obtain rfl : n_rr = 0 := rr.len.symm
          clear rr
          go_wp2_with fail
          refine (works_any _).mono ?_
          rintro e w57 ⟨rfl, hb⟩
          replace b := b.trans (hb.mono b.size)
          clear hb
          go_wp2_with fail
          go_ret
          exact ⟨rfl, b⟩
end Go.Proofs.Ytfengddpfeneiaa
