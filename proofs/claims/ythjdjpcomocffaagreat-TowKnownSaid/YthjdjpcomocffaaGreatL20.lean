/-
  The law TowKnown: what is said of single streamers, waters and headings.
-/
import Derived.Test.YthjdjpcomocffaaGreatL21
import Derived.Deep.Cut
import Derived.Deep.DeepCutAuto
namespace Go.Proofs.YthjdjpcomocffaaGreat
open Go.RowKit Go.Shelf
set_option linter.unusedSimpArgs false
set_option linter.unusedVariables false

theorem SlAt.takeK {α : Type} {w : World} {B s : Nat} {enc : α → List Value} {A : Option Addr} {n c : Nat} {xs : List α} (h : SlAt w B s enc A n c xs) {N : Nat} (hN : N ≤ n) : SlAt w B s enc A N c (xs.take N) := by
  refine ⟨by rw [List.length_take, h.1]; omega, Nat.le_trans hN h.2.1, Nat.le_trans hN h.2.2.1, fun h0 => ?_⟩
  obtain ⟨b, off, hA, hB, hb, hc⟩ := h.2.2.2 (by omega)
  refine ⟨b, off, hA, hB, hb, fun k x hk => hc k x ?_⟩
  have hl := (List.getElem?_eq_some_iff.1 hk).1
  rw [List.length_take] at hl
  rwa [List.getElem?_take_of_lt (by omega)] at hk
theorem SlAt.setFarK {α : Type} {w : World} {B s : Nat} {enc : α → List Value} {b off n c : Nat} {xs : List α} (h : SlAt w B s enc (some ⟨b, off, none⟩) n c xs) {p : Addr} (hp : b ≠ p.block) (u : Value) : SlAt (w.setCell p u) B s enc (some ⟨b, off, none⟩) n c xs := by
  refine ⟨h.1, h.2.1, h.2.2.1, fun hn => ?_⟩
  obtain ⟨b', off', hA, hB, hb, hc⟩ := h.2.2.2 hn
  simp only [Option.some.injEq, Addr.mk.injEq, and_true] at hA
  obtain ⟨rfl, rfl⟩ := hA
  refine ⟨b, off, rfl, hB, by simpa [World.setCell] using hb, fun k x hx j v hv => ?_⟩
  rw [World.cell?_of_block (w := w) (Below.heap_setCell w p u b hp)]
  exact hc k x hx j v hv
theorem Tryz.infoSecK : (Tryz.prog.info? 30).map (fun i => (i.zero, i.size, i.bytes)) = some (some (.agg #[.int .i64 0, .int .i64 0, .int .i64 0, .int .i64 0, .int .i64 0]), 5, 40) := by kernel_rfl
set_option maxRecDepth 100000 in
theorem cableB_any (w : World) : Calls Tryz.prog 4 #[] w fun e w' => ∃ g, e = .returned (.agg #[.int .i64 0, .slice (some ⟨g, 0, none⟩) 2 2, .int .i64 (-20), .int .i64 20, .int .i64 30]) ∧ Blk w' g 30 #[Value.int .i64 100, .int .i64 32, .int .i64 0, .int .i64 2, .int .i64 5000, .int .i64 100, .int .i64 16, .int .i64 5, .int .i64 3, .int .i64 3000] ∧ w.heap.size ≤ g ∧ Below w.heap.size w w' := by
  obtain ⟨wz, hwz⟩ : ∃ x, x = (w.alloc (.cells #[Value.int .i64 0, .slice (some ⟨w.heap.size + 1, 0, none⟩) 2 2, .int .i64 (-20), .int .i64 20, .int .i64 30] 26)).alloc (.cells #[Value.int .i64 100, .int .i64 32, .int .i64 0, .int .i64 2, .int .i64 5000, .int .i64 100, .int .i64 16, .int .i64 5, .int .i64 3, .int .i64 3000] 30) := ⟨_, rfl⟩
  have k0 : Blk wz w.heap.size 26 #[Value.int .i64 0, .slice (some ⟨w.heap.size + 1, 0, none⟩) 2 2, .int .i64 (-20), .int .i64 20, .int .i64 30] := by rw [hwz]; exact (Blk.new w _ _).alloc _
  have k1 : Blk wz (w.heap.size + 1) 30 #[Value.int .i64 100, .int .i64 32, .int .i64 0, .int .i64 2, .int .i64 5000, .int .i64 100, .int .i64 16, .int .i64 5, .int .i64 3, .int .i64 3000] := by
    rw [hwz]; have := Blk.new (w.alloc (.cells #[Value.int .i64 0, .slice (some ⟨w.heap.size + 1, 0, none⟩) 2 2, .int .i64 (-20), .int .i64 20, .int .i64 30] 26)) 30 #[Value.int .i64 100, .int .i64 32, .int .i64 0, .int .i64 2, .int .i64 5000, .int .i64 100, .int .i64 16, .int .i64 5, .int .i64 3, .int .i64 3000]; rwa [World.size_alloc] at this
  have b1 : Below w.heap.size w wz := by rw [hwz]; exact ((Below.refl _ _).alloc (Nat.le_refl _) _).alloc (by simp) _
  go_enter Tryz.func4, Tryz.ntmps4
  go_wp2
  rw [← hwz]
  clear hwz
  obtain ⟨c0, f0, l0⟩ := k0.rules
  exact bodyPost_ret (v := .agg #[Value.int .i64 0, .slice (some ⟨w.heap.size + 1, 0, none⟩) 2 2, .int .i64 (-20), .int .i64 20, .int .i64 30]) (by simp [results, Tryz.results4, go_sem, c0]) rfl
    ⟨_, rfl, k1, by omega, b1⟩
set_option maxRecDepth 100000 in
set_option maxHeartbeats 16000000 in
theorem TowKnown_any (w : World) : Calls Tryz.prog 3 #[] w fun e w' => e = .returned (.bool true) ∧ Below w.heap.size w w' := by
  have b := Below.refl w.heap.size w
  go_enter Tryz.func3, Tryz.ntmps3
  go_wp2_with fail
  refine (cableB_any _).mono ?_
  rintro e w1 ⟨b1, rfl, k1, z1, hb⟩
  replace b := b.trans (hb.mono b.size)
  clear hb
  have zl1 := k1.lt
  obtain ⟨c_k1, f_k1, l_k1⟩ := k1.rules
  go_wp2_with fail
  refine (cableB_any _).mono ?_
  rintro e w2 ⟨b2, rfl, k2, z2, hb⟩
  clear c_k1 f_k1 l_k1
  replace k1 := k1.below hb
  replace b := b.trans (hb.mono b.size)
  clear hb
  have zl2 := k2.lt
  obtain ⟨c_k1, f_k1, l_k1⟩ := k1.rules
  obtain ⟨c_k2, f_k2, l_k2⟩ := k2.rules
  go_wp2_with fail
  refine (cableB_any _).mono ?_
  rintro e w3 ⟨b3, rfl, k3, z3, hb⟩
  clear c_k1 f_k1 l_k1
  clear c_k2 f_k2 l_k2
  replace k1 := k1.below hb
  replace k2 := k2.below hb
  replace b := b.trans (hb.mono b.size)
  clear hb
  have zl3 := k3.lt
  obtain ⟨c_k1, f_k1, l_k1⟩ := k1.rules
  obtain ⟨c_k2, f_k2, l_k2⟩ := k2.rules
  obtain ⟨c_k3, f_k3, l_k3⟩ := k3.rules
  go_wp2_with fail
  refine (cableB_any _).mono ?_
  rintro e w4 ⟨b4, rfl, k4, z4, hb⟩
  clear c_k1 f_k1 l_k1
  clear c_k2 f_k2 l_k2
  clear c_k3 f_k3 l_k3
  replace k1 := k1.below hb
  replace k2 := k2.below hb
  replace k3 := k3.below hb
  replace b := b.trans (hb.mono b.size)
  clear hb
  have zl4 := k4.lt
  obtain ⟨c_k1, f_k1, l_k1⟩ := k1.rules
  obtain ⟨c_k2, f_k2, l_k2⟩ := k2.rules
  obtain ⟨c_k3, f_k3, l_k3⟩ := k3.rules
  obtain ⟨c_k4, f_k4, l_k4⟩ := k4.rules
  go_wp2_with fail
  refine (cableB_any _).mono ?_
  rintro e w5 ⟨b5, rfl, k5, z5, hb⟩
  clear c_k1 f_k1 l_k1
  clear c_k2 f_k2 l_k2
  clear c_k3 f_k3 l_k3
  clear c_k4 f_k4 l_k4
  replace k1 := k1.below hb
  replace k2 := k2.below hb
  replace k3 := k3.below hb
  replace k4 := k4.below hb
  replace b := b.trans (hb.mono b.size)
  clear hb
  have zl5 := k5.lt
  replace k1 := k1.alloc (.cells #[.int .i64 0, .slice none 0 0, .int .i64 0, .int .i64 0, .int .i64 0, .int .i64 0, .slice (some ⟨b1, 0, none⟩) 2 2, .int .i64 (-20), .int .i64 20, .int .i64 30, .int .i64 0, .slice (some ⟨b2, 0, none⟩) 2 2, .int .i64 (-20), .int .i64 20, .int .i64 30, .int .i64 0, .slice (some ⟨b3, 0, none⟩) 2 2, .int .i64 (-20), .int .i64 20, .int .i64 30, .int .i64 0, .slice (some ⟨b4, 0, none⟩) 2 2, .int .i64 (-20), .int .i64 20, .int .i64 30, .int .i64 0, .slice (some ⟨b5, 0, none⟩) 2 2, .int .i64 (-20), .int .i64 20, .int .i64 30] 26)
  replace k2 := k2.alloc (.cells #[.int .i64 0, .slice none 0 0, .int .i64 0, .int .i64 0, .int .i64 0, .int .i64 0, .slice (some ⟨b1, 0, none⟩) 2 2, .int .i64 (-20), .int .i64 20, .int .i64 30, .int .i64 0, .slice (some ⟨b2, 0, none⟩) 2 2, .int .i64 (-20), .int .i64 20, .int .i64 30, .int .i64 0, .slice (some ⟨b3, 0, none⟩) 2 2, .int .i64 (-20), .int .i64 20, .int .i64 30, .int .i64 0, .slice (some ⟨b4, 0, none⟩) 2 2, .int .i64 (-20), .int .i64 20, .int .i64 30, .int .i64 0, .slice (some ⟨b5, 0, none⟩) 2 2, .int .i64 (-20), .int .i64 20, .int .i64 30] 26)
  replace k3 := k3.alloc (.cells #[.int .i64 0, .slice none 0 0, .int .i64 0, .int .i64 0, .int .i64 0, .int .i64 0, .slice (some ⟨b1, 0, none⟩) 2 2, .int .i64 (-20), .int .i64 20, .int .i64 30, .int .i64 0, .slice (some ⟨b2, 0, none⟩) 2 2, .int .i64 (-20), .int .i64 20, .int .i64 30, .int .i64 0, .slice (some ⟨b3, 0, none⟩) 2 2, .int .i64 (-20), .int .i64 20, .int .i64 30, .int .i64 0, .slice (some ⟨b4, 0, none⟩) 2 2, .int .i64 (-20), .int .i64 20, .int .i64 30, .int .i64 0, .slice (some ⟨b5, 0, none⟩) 2 2, .int .i64 (-20), .int .i64 20, .int .i64 30] 26)
  replace k4 := k4.alloc (.cells #[.int .i64 0, .slice none 0 0, .int .i64 0, .int .i64 0, .int .i64 0, .int .i64 0, .slice (some ⟨b1, 0, none⟩) 2 2, .int .i64 (-20), .int .i64 20, .int .i64 30, .int .i64 0, .slice (some ⟨b2, 0, none⟩) 2 2, .int .i64 (-20), .int .i64 20, .int .i64 30, .int .i64 0, .slice (some ⟨b3, 0, none⟩) 2 2, .int .i64 (-20), .int .i64 20, .int .i64 30, .int .i64 0, .slice (some ⟨b4, 0, none⟩) 2 2, .int .i64 (-20), .int .i64 20, .int .i64 30, .int .i64 0, .slice (some ⟨b5, 0, none⟩) 2 2, .int .i64 (-20), .int .i64 20, .int .i64 30] 26)
  replace k5 := k5.alloc (.cells #[.int .i64 0, .slice none 0 0, .int .i64 0, .int .i64 0, .int .i64 0, .int .i64 0, .slice (some ⟨b1, 0, none⟩) 2 2, .int .i64 (-20), .int .i64 20, .int .i64 30, .int .i64 0, .slice (some ⟨b2, 0, none⟩) 2 2, .int .i64 (-20), .int .i64 20, .int .i64 30, .int .i64 0, .slice (some ⟨b3, 0, none⟩) 2 2, .int .i64 (-20), .int .i64 20, .int .i64 30, .int .i64 0, .slice (some ⟨b4, 0, none⟩) 2 2, .int .i64 (-20), .int .i64 20, .int .i64 30, .int .i64 0, .slice (some ⟨b5, 0, none⟩) 2 2, .int .i64 (-20), .int .i64 20, .int .i64 30] 26)
  have kW := Blk.new w5 26 #[.int .i64 0, .slice none 0 0, .int .i64 0, .int .i64 0, .int .i64 0, .int .i64 0, .slice (some ⟨b1, 0, none⟩) 2 2, .int .i64 (-20), .int .i64 20, .int .i64 30, .int .i64 0, .slice (some ⟨b2, 0, none⟩) 2 2, .int .i64 (-20), .int .i64 20, .int .i64 30, .int .i64 0, .slice (some ⟨b3, 0, none⟩) 2 2, .int .i64 (-20), .int .i64 20, .int .i64 30, .int .i64 0, .slice (some ⟨b4, 0, none⟩) 2 2, .int .i64 (-20), .int .i64 20, .int .i64 30, .int .i64 0, .slice (some ⟨b5, 0, none⟩) 2 2, .int .i64 (-20), .int .i64 20, .int .i64 30]
  replace b := b.alloc b.size (.cells #[.int .i64 0, .slice none 0 0, .int .i64 0, .int .i64 0, .int .i64 0, .int .i64 0, .slice (some ⟨b1, 0, none⟩) 2 2, .int .i64 (-20), .int .i64 20, .int .i64 30, .int .i64 0, .slice (some ⟨b2, 0, none⟩) 2 2, .int .i64 (-20), .int .i64 20, .int .i64 30, .int .i64 0, .slice (some ⟨b3, 0, none⟩) 2 2, .int .i64 (-20), .int .i64 20, .int .i64 30, .int .i64 0, .slice (some ⟨b4, 0, none⟩) 2 2, .int .i64 (-20), .int .i64 20, .int .i64 30, .int .i64 0, .slice (some ⟨b5, 0, none⟩) 2 2, .int .i64 (-20), .int .i64 20, .int .i64 30] 26)
  go_upto_region 2 with fail
  have hw4 := b.size
  simp only [World.size_alloc] at hw4
  generalize (w5.alloc (.cells #[.int .i64 0, .slice none 0 0, .int .i64 0, .int .i64 0, .int .i64 0, .int .i64 0, .slice (some ⟨b1, 0, none⟩) 2 2, .int .i64 (-20), .int .i64 20, .int .i64 30, .int .i64 0, .slice (some ⟨b2, 0, none⟩) 2 2, .int .i64 (-20), .int .i64 20, .int .i64 30, .int .i64 0, .slice (some ⟨b3, 0, none⟩) 2 2, .int .i64 (-20), .int .i64 20, .int .i64 30, .int .i64 0, .slice (some ⟨b4, 0, none⟩) 2 2, .int .i64 (-20), .int .i64 20, .int .i64 30, .int .i64 0, .slice (some ⟨b5, 0, none⟩) 2 2, .int .i64 (-20), .int .i64 20, .int .i64 30] 26)) = wA at *
  obtain ⟨gW, hgW⟩ : ∃ g, w5.heap.size = g := ⟨_, rfl⟩
  have hgW2 := Nat.le_of_eq hgW
  have hgW3 := Nat.le_of_eq hgW.symm
  rw [hgW] at kW
  rw [hgW]
  clear hgW
  obtain ⟨c1, f1, l1⟩ := kW.rules
  go_upto_region 3 with fail
  clear c1 f1 l1
  replace k1 := k1.far (p := ⟨gW, 5, none⟩) (by dsimp only; omega) (.int .i64 2001)
  replace k2 := k2.far (p := ⟨gW, 5, none⟩) (by dsimp only; omega) (.int .i64 2001)
  replace k3 := k3.far (p := ⟨gW, 5, none⟩) (by dsimp only; omega) (.int .i64 2001)
  replace k4 := k4.far (p := ⟨gW, 5, none⟩) (by dsimp only; omega) (.int .i64 2001)
  replace k5 := k5.far (p := ⟨gW, 5, none⟩) (by dsimp only; omega) (.int .i64 2001)
  replace kW := kW.set_ 5 (.int .i64 2001)
  simp only [List.setIfInBounds_toArray, List.set_cons_zero, List.set_cons_succ] at kW
  replace b := b.setCell (p := ⟨gW, 5, none⟩) (by dsimp only; omega) (.int .i64 2001)
  generalize wA.setCell ⟨gW, 5, none⟩ (.int .i64 2001) = wB0 at *
  obtain ⟨c1, f1, l1⟩ := kW.rules
  go_upto_region 4 with fail
  clear c1 f1 l1
  replace k1 := k1.far (p := ⟨gW, 12, none⟩) (by dsimp only; omega) (.int .i64 21)
  replace k2 := k2.far (p := ⟨gW, 12, none⟩) (by dsimp only; omega) (.int .i64 21)
  replace k3 := k3.far (p := ⟨gW, 12, none⟩) (by dsimp only; omega) (.int .i64 21)
  replace k4 := k4.far (p := ⟨gW, 12, none⟩) (by dsimp only; omega) (.int .i64 21)
  replace k5 := k5.far (p := ⟨gW, 12, none⟩) (by dsimp only; omega) (.int .i64 21)
  replace kW := kW.set_ 12 (.int .i64 21)
  simp only [List.setIfInBounds_toArray, List.set_cons_zero, List.set_cons_succ] at kW
  replace b := b.setCell (p := ⟨gW, 12, none⟩) (by dsimp only; omega) (.int .i64 21)
  generalize wB0.setCell ⟨gW, 12, none⟩ (.int .i64 21) = wB1 at *
  obtain ⟨c1, f1, l1⟩ := kW.rules
  go_upto_region 5 with fail
  clear c1 f1 l1
  replace k1 := k1.far (p := ⟨gW, 19, none⟩) (by dsimp only; omega) (.int .i64 (-1))
  replace k2 := k2.far (p := ⟨gW, 19, none⟩) (by dsimp only; omega) (.int .i64 (-1))
  replace k3 := k3.far (p := ⟨gW, 19, none⟩) (by dsimp only; omega) (.int .i64 (-1))
  replace k4 := k4.far (p := ⟨gW, 19, none⟩) (by dsimp only; omega) (.int .i64 (-1))
  replace k5 := k5.far (p := ⟨gW, 19, none⟩) (by dsimp only; omega) (.int .i64 (-1))
  replace kW := kW.set_ 19 (.int .i64 (-1))
  simp only [List.setIfInBounds_toArray, List.set_cons_zero, List.set_cons_succ] at kW
  replace b := b.setCell (p := ⟨gW, 19, none⟩) (by dsimp only; omega) (.int .i64 (-1))
  generalize wB1.setCell ⟨gW, 19, none⟩ (.int .i64 (-1)) = wB2 at *
  obtain ⟨i0, hi0, hz0, hz1, hz2⟩ := info_parts Tryz.infoSecK
  have k1a := k1.alloc (.cells #[Value.int .i64 0, .int .i64 0, .int .i64 0, .int .i64 0, .int .i64 0] 30)
  have k2a := k2.alloc (.cells #[Value.int .i64 0, .int .i64 0, .int .i64 0, .int .i64 0, .int .i64 0] 30)
  have k3a := k3.alloc (.cells #[Value.int .i64 0, .int .i64 0, .int .i64 0, .int .i64 0, .int .i64 0] 30)
  have k4a := k4.alloc (.cells #[Value.int .i64 0, .int .i64 0, .int .i64 0, .int .i64 0, .int .i64 0] 30)
  have k5a := k5.alloc (.cells #[Value.int .i64 0, .int .i64 0, .int .i64 0, .int .i64 0, .int .i64 0] 30)
  have kWa := kW.alloc (.cells #[Value.int .i64 0, .int .i64 0, .int .i64 0, .int .i64 0, .int .i64 0] 30)
  have hba := b.alloc b.size (.cells #[Value.int .i64 0, .int .i64 0, .int .i64 0, .int .i64 0, .int .i64 0] 30)
  have hnews : ∀ (j : Nat) (u : Value), ([Value.int .i64 0, .int .i64 0, .int .i64 0, .int .i64 0, .int .i64 0] : List Value)[j]? = some u → (wB2.alloc (.cells #[Value.int .i64 0, .int .i64 0, .int .i64 0, .int .i64 0, .int .i64 0] 30)).cell? ((⟨wB2.heap.size, 0, none⟩ : Addr).add j) = some u := World.news_of_block (cs := #[Value.int .i64 0, .int .i64 0, .int .i64 0, .int .i64 0, .int .i64 0]) (World.alloc_heap_new wB2 _)
  have hown : (wB2.alloc (.cells #[Value.int .i64 0, .int .i64 0, .int .i64 0, .int .i64 0, .int .i64 0] 30)).ownsRow w.heap.size 30 5 (.slice (some ⟨b4, 0, none⟩) 2 2) 2 [Value.int .i64 100, .int .i64 32, .int .i64 0, .int .i64 2, .int .i64 5000, .int .i64 100, .int .i64 16, .int .i64 5, .int .i64 3, .int .i64 3000] := ⟨rfl, .inr ⟨b4, 2, _, rfl, by omega, k4a, by decide, by decide, rfl, rfl⟩⟩
  have hbase : w.heap.size ≤ (wB2.alloc (.cells #[Value.int .i64 0, .int .i64 0, .int .i64 0, .int .i64 0, .int .i64 0] 30)).heap.size := hba.size
  have hgl := kW.lt
  obtain ⟨c1, f1, l1⟩ := kW.rules
  go_upto_region 6 with (at_builtin; refine wpList_append_lies _ rfl (.tmp 56) (.tmp 58) 22 rfl w.heap.size 30 i0 (.agg #[Value.int .i64 0, .int .i64 0, .int .i64 0, .int .i64 0, .int .i64 0]) 5 40 Tryz.underlying22 hi0 hz0 hz1 hz2 rfl (by decide) (.slice (some ⟨b4, 0, none⟩) 2 2) 2 [Value.int .i64 100, .int .i64 32, .int .i64 0, .int .i64 2, .int .i64 5000, .int .i64 100, .int .i64 16, .int .i64 5, .int .i64 3, .int .i64 3000] rfl hown ⟨wB2.heap.size, 0, none⟩ 1 1 [Value.int .i64 0, .int .i64 0, .int .i64 0, .int .i64 0, .int .i64 0] rfl rfl hnews (by simp [Value.oneCell']) (by decide) (by decide) (by decide) hbase (wB2.heap.size + 1) (by simp) ?_; intro g10 cap2 w7 hown7 hgrow hlies hlt7; clear c1 f1 l1; have kWg := kWa.grown hgrow (fun e => by simp only [Value.ownBlock, Option.some.injEq] at e; omega); obtain ⟨c1, f1, l1⟩ := kWg.rules)
  clear c1 f1 l1
  replace k1 := (k1a.grown hgrow (fun e => by simp only [Value.ownBlock, Option.some.injEq] at e; omega)).far (p := ⟨gW, 21, none⟩) (by dsimp only; omega) (.slice (some ⟨g10, 0, none⟩) 3 cap2)
  replace k2 := (k2a.grown hgrow (fun e => by simp only [Value.ownBlock, Option.some.injEq] at e; omega)).far (p := ⟨gW, 21, none⟩) (by dsimp only; omega) (.slice (some ⟨g10, 0, none⟩) 3 cap2)
  replace k3 := (k3a.grown hgrow (fun e => by simp only [Value.ownBlock, Option.some.injEq] at e; omega)).far (p := ⟨gW, 21, none⟩) (by dsimp only; omega) (.slice (some ⟨g10, 0, none⟩) 3 cap2)
  replace k5 := (k5a.grown hgrow (fun e => by simp only [Value.ownBlock, Option.some.injEq] at e; omega)).far (p := ⟨gW, 21, none⟩) (by dsimp only; omega) (.slice (some ⟨g10, 0, none⟩) 3 cap2)
  replace kW := kWg.set_ 21 (.slice (some ⟨g10, 0, none⟩) 3 cap2)
  simp only [List.setIfInBounds_toArray, List.set_cons_zero, List.set_cons_succ] at kW
  have hown8 := ownsRow_setCell hown7 (p := ⟨gW, 21, none⟩) (fun e => by simp only [Value.ownBlock, Option.some.injEq] at e hlies; rcases hlies with h | h <;> omega) (.slice (some ⟨g10, 0, none⟩) 3 cap2)
  have hbg : Below w.heap.size _ w7 := ⟨hgrow.os, hgrow.tape, hgrow.output, hgrow.size, fun b hb2 => hgrow.block b (Nat.lt_of_lt_of_le hb2 hba.size) (fun e => by have := (hown.lt _ e.symm).1; omega)⟩
  replace b := (hba.trans hbg).setCell (p := ⟨gW, 21, none⟩) (by dsimp only; omega) (.slice (some ⟨g10, 0, none⟩) 3 cap2)
  generalize hwC : w7.setCell ⟨gW, 21, none⟩ (.slice (some ⟨g10, 0, none⟩) 3 cap2) = wC at *
  obtain ⟨G4, c4, hG4, s4⟩ := SlAt.of_own (enc := Sec.cells) hown8 (by decide) strK4.secs rfl (fun _ => rfl) rfl
  simp only [Value.slice.injEq, true_and] at hG4
  obtain ⟨rfl, rfl⟩ := hG4
  have hg10 : g10 ≠ b5 := fun e => by simp only [Value.ownBlock, Option.some.injEq] at hlies; rcases hlies with h | h <;> omega
  clear hown hown7 hown8 hgrow hnews hlies hbg hba hbase hwC kWa k1a k2a k3a k4a k5a kWg k4
  obtain ⟨c1, f1, l1⟩ := kW.rules
  obtain ⟨c2, f2, l2⟩ := k5.rules
  go_upto_region 7 with fail
  clear c1 f1 l1 c2 f2 l2
  replace k1 := k1.far (p := ⟨b5, 1, none⟩) (by dsimp only; omega) (.int .i64 65)
  replace k2 := k2.far (p := ⟨b5, 1, none⟩) (by dsimp only; omega) (.int .i64 65)
  replace k3 := k3.far (p := ⟨b5, 1, none⟩) (by dsimp only; omega) (.int .i64 65)
  replace k5 := k5.set_ 1 (.int .i64 65)
  simp only [List.setIfInBounds_toArray, List.set_cons_zero, List.set_cons_succ] at k5
  replace kW := kW.far (p := ⟨b5, 1, none⟩) (by dsimp only; omega) (.int .i64 65)
  replace b := b.setCell (p := ⟨b5, 1, none⟩) (by dsimp only; omega) (.int .i64 65)
  have s4z := SlAt.setFarK s4 (p := ⟨b5, 1, none⟩) hg10 (.int .i64 65)
  generalize wC.setCell ⟨b5, 1, none⟩ (.int .i64 65) = wD at *
  clear s4
  have hix : ∀ k : Nat, k < 6 → ∃ (x : Strm) (S : Option Addr) (ns cs : Nat), wD.cell? ⟨gW, k * 5, none⟩ = some (.int .i64 x.head) ∧ wD.cell? ⟨gW, k * 5 + 1, none⟩ = some (.slice S ns cs) ∧ wD.cell? ⟨gW, k * 5 + 2, none⟩ = some (.int .i64 x.lane.lo) ∧ wD.cell? ⟨gW, k * 5 + 3, none⟩ = some (.int .i64 x.lane.hi) ∧ wD.cell? ⟨gW, k * 5 + 4, none⟩ = some (.int .i64 x.bend) ∧ SlAt wD 0 5 Sec.cells S ns cs x.secs ∧ chkStrm x = 30 := by
    obtain ⟨c1, f1, l1⟩ := kW.rules
    intro k hk
    match k, hk with
    | 0, _ => exact ⟨strK0, _, _, _, c1 0, c1 1, c1 2, c1 3, c1 4, SlAt.nil _ _ _ _, chkK0⟩
    | 1, _ => exact ⟨strK1, _, _, _, c1 5, c1 6, c1 7, c1 8, c1 9, (SlAt.of_blk (enc := Sec.cells) (s := 5) k1 (fun _ => rfl) strK1.secs rfl (by decide)).mono (Nat.zero_le _), chkK1⟩
    | 2, _ => exact ⟨strK2, _, _, _, c1 10, c1 11, c1 12, c1 13, c1 14, (SlAt.of_blk (enc := Sec.cells) (s := 5) k2 (fun _ => rfl) strK2.secs rfl (by decide)).mono (Nat.zero_le _), chkK2⟩
    | 3, _ => exact ⟨strK3, _, _, _, c1 15, c1 16, c1 17, c1 18, c1 19, (SlAt.of_blk (enc := Sec.cells) (s := 5) k3 (fun _ => rfl) strK3.secs rfl (by decide)).mono (Nat.zero_le _), chkK3⟩
    | 4, _ => exact ⟨strK4, _, _, _, c1 20, c1 21, c1 22, c1 23, c1 24, s4z.mono (Nat.zero_le _), chkK4⟩
    | 5, _ => exact ⟨strK5, _, _, _, c1 25, c1 26, c1 27, c1 28, c1 29, (SlAt.of_blk (enc := Sec.cells) (s := 5) k5 (fun _ => rfl) strK5.secs rfl (by decide)).mono (Nat.zero_le _), chkK5⟩
  have hgw := kW.lt
  replace hix := Lib.hid hix
  clear k1
  clear k2
  clear k3
  clear k5
  clear kW
  clear s4z hg10
  go_wp2_with fail
  go_loopw [2] (fun i wr => ∃ k : Nat, i = .int .i64 (k : Int) ∧ k ≤ 6 ∧ Below wD.heap.size wD wr) (fun i wr => 6 - (intOf i).toNat)
  case atStart => exact ⟨0, rfl, Nat.zero_le _, Below.refl _ _⟩
  case round =>
    obtain ⟨k, rfl, hk, hb9⟩ := hrel
    by_cases hlt : k < 6
    · have hk0 : (0 : Int) ≤ (k : Int) := by omega
      have hk1 : (k : Int) < 6 := by omega
      obtain ⟨x, S, ns, cs, e0, e1, e2, e3, e4, hs, hch⟩ := hix.out k hlt
      replace e0 := (hb9.cell (p := ⟨gW, k * 5, none⟩) hgw).trans e0
      replace e1 := (hb9.cell (p := ⟨gW, k * 5 + 1, none⟩) hgw).trans e1
      replace e2 := (hb9.cell (p := ⟨gW, k * 5 + 2, none⟩) hgw).trans e2
      replace e3 := (hb9.cell (p := ⟨gW, k * 5 + 3, none⟩) hgw).trans e3
      replace e4 := (hb9.cell (p := ⟨gW, k * 5 + 4, none⟩) hgw).trans e4
      have hC := check_any x S ns cs 0 wr (hs.below hb9)
      rw [hch] at hC
      replace hch := Lib.hid hch
      go_wp2_with fail
      refine hC.mono ?_
      rintro e W9 ⟨rfl, hb⟩
      go_wp2_with fail
      go_roundw
      case rel => exact ⟨k + 1, by go_num, by omega, hb9.trans (hb.mono hb9.size)⟩
      case measure => simp [intOf]; omega
    · have hk1 : ¬ (k : Int) < 6 := by omega
      replace b := b.trans (hb9.mono b.size)
      clear hb9 hix
      generalize wr = w5b at *
      go_wp2_with fail
      refine (cable_any _).mono ?_
      rintro e w6 ⟨A1, rfl, hc1, hb⟩
      replace b := b.trans (hb.mono b.size)
      replace hc1 := hc1.mono (Nat.zero_le _)
      clear hb
      replace hc1 := hc1.alloc (.cells #[.int .i64 1] 3)
      have i1 := (SlAt.of_blk (enc := ivs) (s := 1) (Blk.new w6 3 #[.int .i64 1]) (fun _ => rfl) [(1 : Int)] rfl (by decide)).mono (Nat.zero_le _)
      replace b := b.alloc b.size (.cells #[.int .i64 1] 3)
      replace hc1 := hc1.alloc (.cells #[.int .i64 0, .int .i64 0] 3)
      replace i1 := i1.alloc (.cells #[.int .i64 0, .int .i64 0] 3)
      have i2 := (SlAt.of_blk (enc := ivs) (s := 1) (Blk.new (w6.alloc (.cells #[.int .i64 1] 3)) 3 #[.int .i64 0, .int .i64 0]) (fun _ => rfl) [(0 : Int), (0 : Int)] rfl (by decide)).mono (Nat.zero_le _)
      simp only [World.size_alloc] at i2
      replace b := b.alloc b.size (.cells #[.int .i64 0, .int .i64 0] 3)
      have hC := Step_any cable0 A1 _ _ 2 2 1 1 2 2 0 0 0 [1] [0, 0] _ hc1 i1 i2
      rw [stepK1] at hC
      go_wp2_with fail
      refine (hC).mono ?_
      rintro e w7 ⟨O_ra, n_ra, c_ra, rfl, ra, hb⟩
      replace hc1 := hc1.below hb
      replace i1 := i1.below hb
      replace i2 := i2.below hb
      replace b := b.trans (hb.mono b.size)
      replace ra := ra.mono (Nat.zero_le _)
      clear hb
      clear hC
      clear hc1
      clear i1
      clear i2
      clear ra
      go_wp2_with fail
      refine (cable_any _).mono ?_
      rintro e w8 ⟨A2, rfl, hc2, hb⟩
      replace b := b.trans (hb.mono b.size)
      replace hc2 := hc2.mono (Nat.zero_le _)
      clear hb
      replace hc2 := hc2.alloc (.cells #[.int .i64 1, .int .i64 16385] 3)
      have i1 := (SlAt.of_blk (enc := ivs) (s := 1) (Blk.new w8 3 #[.int .i64 1, .int .i64 16385]) (fun _ => rfl) [(1 : Int), (16385 : Int)] rfl (by decide)).mono (Nat.zero_le _)
      replace b := b.alloc b.size (.cells #[.int .i64 1, .int .i64 16385] 3)
      replace hc2 := hc2.alloc (.cells #[.int .i64 0, .int .i64 0] 3)
      replace i1 := i1.alloc (.cells #[.int .i64 0, .int .i64 0] 3)
      have i2 := (SlAt.of_blk (enc := ivs) (s := 1) (Blk.new (w8.alloc (.cells #[.int .i64 1, .int .i64 16385] 3)) 3 #[.int .i64 0, .int .i64 0]) (fun _ => rfl) [(0 : Int), (0 : Int)] rfl (by decide)).mono (Nat.zero_le _)
      simp only [World.size_alloc] at i2
      replace b := b.alloc b.size (.cells #[.int .i64 0, .int .i64 0] 3)
      have hC := Step_any cable0 A2 _ _ 2 2 2 2 2 2 0 0 0 [1, 16385] [0, 0] _ hc2 i1 i2
      rw [stepK2] at hC
      go_wp2_with fail
      refine (hC).mono ?_
      rintro e w9 ⟨O_ra, n_ra, c_ra, rfl, ra, hb⟩
      replace hc2 := hc2.below hb
      replace i1 := i1.below hb
      replace i2 := i2.below hb
      replace b := b.trans (hb.mono b.size)
      replace ra := ra.mono (Nat.zero_le _)
      clear hb
      clear hC
      clear hc2
      clear i1
      clear i2
      clear ra
      go_wp2_with fail
      refine (cable_any _).mono ?_
      rintro e w10 ⟨A3, rfl, hc3, hb⟩
      replace b := b.trans (hb.mono b.size)
      replace hc3 := hc3.mono (Nat.zero_le _)
      clear hb
      replace hc3 := hc3.alloc (.cells #[.int .i64 1, .int .i64 2] 3)
      have i1 := (SlAt.of_blk (enc := ivs) (s := 1) (Blk.new w10 3 #[.int .i64 1, .int .i64 2]) (fun _ => rfl) [(1 : Int), (2 : Int)] rfl (by decide)).mono (Nat.zero_le _)
      replace b := b.alloc b.size (.cells #[.int .i64 1, .int .i64 2] 3)
      replace hc3 := hc3.alloc (.cells #[.int .i64 0, .int .i64 101] 3)
      replace i1 := i1.alloc (.cells #[.int .i64 0, .int .i64 101] 3)
      have i2 := (SlAt.of_blk (enc := ivs) (s := 1) (Blk.new (w10.alloc (.cells #[.int .i64 1, .int .i64 2] 3)) 3 #[.int .i64 0, .int .i64 101]) (fun _ => rfl) [(0 : Int), (101 : Int)] rfl (by decide)).mono (Nat.zero_le _)
      simp only [World.size_alloc] at i2
      replace b := b.alloc b.size (.cells #[.int .i64 0, .int .i64 101] 3)
      have hC := Step_any cable0 A3 _ _ 2 2 2 2 2 2 0 0 0 [1, 2] [0, 101] _ hc3 i1 i2
      rw [stepK3] at hC
      go_wp2_with fail
      refine (hC).mono ?_
      rintro e w11 ⟨O_ra, n_ra, c_ra, rfl, ra, hb⟩
      replace hc3 := hc3.below hb
      replace i1 := i1.below hb
      replace i2 := i2.below hb
      replace b := b.trans (hb.mono b.size)
      replace ra := ra.mono (Nat.zero_le _)
      clear hb
      clear hC
      clear hc3
      clear i1
      clear i2
      clear ra
      go_wp2_with fail
      refine (cable_any _).mono ?_
      rintro e w12 ⟨A4, rfl, hc4, hb⟩
      replace b := b.trans (hb.mono b.size)
      replace hc4 := hc4.mono (Nat.zero_le _)
      clear hb
      replace hc4 := hc4.alloc (.cells #[.int .i64 1, .int .i64 0, .int .i64 0, .int .i64 0] 24)
      have i1 := (SlAt.of_blk (enc := Bnd.cells) (s := 2) (Blk.new w12 24 #[.int .i64 1, .int .i64 0, .int .i64 0, .int .i64 0]) (fun _ => rfl) [⟨1, 0⟩, ⟨0, 0⟩] rfl (by decide)).mono (Nat.zero_le _)
      replace b := b.alloc b.size (.cells #[.int .i64 1, .int .i64 0, .int .i64 0, .int .i64 0] 24)
      have hC := Enclose_any cable0 A4 _ 2 2 2 2 0 0 [⟨1, 0⟩, ⟨0, 0⟩] ⟨0, 0⟩ _ hc4 i1
      rw [encK] at hC
      go_wp2_with fail
      refine (hC).mono ?_
      rintro e w13 ⟨O_ra, n_ra, c_ra, rfl, ra, hb⟩
      replace hc4 := hc4.below hb
      replace i1 := i1.below hb
      replace b := b.trans (hb.mono b.size)
      replace ra := ra.mono (Nat.zero_le _)
      clear hb
      clear hC
      clear hc4
      clear i1
      clear ra
      go_wp2_with fail
      refine (cable_any _).mono ?_
      rintro e w14 ⟨A5, rfl, hc5, hb⟩
      replace b := b.trans (hb.mono b.size)
      replace hc5 := hc5.mono (Nat.zero_le _)
      clear hb
      go_wp2_with fail
      refine (after_any _).mono ?_
      rintro e w15 ⟨F1, rfl, hf1, hb⟩
      replace hc5 := hc5.below hb
      replace b := b.trans (hb.mono b.size)
      replace hf1 := hf1.mono (Nat.zero_le _)
      clear hb
      have hC := Pulls_any cable0 A5 F1 2 2 2 2 0 0 [⟨4, 7⟩, ⟨16, 20⟩] 101 ⟨0, 0⟩ _ hc5 hf1
      rw [pullK1] at hC
      go_wp2_with fail
      refine (hC).mono ?_
      rintro e w16 ⟨O_ra, n_ra, c_ra, rfl, ra, hb⟩
      replace hc5 := hc5.below hb
      replace hf1 := hf1.below hb
      replace b := b.trans (hb.mono b.size)
      replace ra := ra.mono (Nat.zero_le _)
      clear hb
      clear hC
      clear hc5
      clear hf1
      clear ra
      go_wp2_with fail
      refine (cable_any _).mono ?_
      rintro e w17 ⟨A6, rfl, hc6, hb⟩
      replace b := b.trans (hb.mono b.size)
      replace hc6 := hc6.mono (Nat.zero_le _)
      clear hb
      go_wp2_with fail
      refine (after_any _).mono ?_
      rintro e w18 ⟨F2, rfl, hf2, hb⟩
      replace hc6 := hc6.below hb
      replace b := b.trans (hb.mono b.size)
      replace hf2 := hf2.mono (Nat.zero_le _)
      clear hb
      have hC := Pulls_any cable0 A6 F2 2 2 2 2 0 0 [⟨4, 7⟩, ⟨16, 20⟩] 100 ⟨-51, 0⟩ _ hc6 hf2
      rw [pullK2] at hC
      go_wp2_with fail
      refine (hC).mono ?_
      rintro e w19 ⟨O_ra, n_ra, c_ra, rfl, ra, hb⟩
      replace hc6 := hc6.below hb
      replace hf2 := hf2.below hb
      replace b := b.trans (hb.mono b.size)
      replace ra := ra.mono (Nat.zero_le _)
      clear hb
      clear hC
      clear hc6
      clear hf2
      clear ra
      go_wp2_with fail
      refine (cable_any _).mono ?_
      rintro e w20 ⟨A7, rfl, hc7, hb⟩
      replace b := b.trans (hb.mono b.size)
      replace hc7 := hc7.mono (Nat.zero_le _)
      clear hb
      go_wp2_with fail
      refine (first_any _).mono ?_
      rintro e w21 ⟨F3, rfl, hf3, hb⟩
      replace hc7 := hc7.below hb
      replace b := b.trans (hb.mono b.size)
      replace hf3 := hf3.mono (Nat.zero_le _)
      clear hb
      replace hc7 := hc7.alloc (.cells #[.int .i64 1] 3)
      replace hf3 := hf3.alloc (.cells #[.int .i64 1] 3)
      have i1 := (SlAt.of_blk (enc := ivs) (s := 1) (Blk.new w21 3 #[.int .i64 1]) (fun _ => rfl) [(1 : Int)] rfl (by decide)).mono (Nat.zero_le _)
      replace b := b.alloc b.size (.cells #[.int .i64 1] 3)
      have hC := Watch_any cable0 A7 F3 none _ 2 2 2 2 0 0 1 1 [⟨10, 10⟩, ⟨20, 24⟩] [] [1] _ hc7 hf3 (SlAt.nil _ _ _ _) i1
      rw [watchK1] at hC
      go_wp2_with fail
      refine (hC).mono ?_
      rintro e w22 ⟨rfl, hb⟩
      replace hc7 := hc7.below hb
      replace hf3 := hf3.below hb
      replace i1 := i1.below hb
      replace b := b.trans (hb.mono b.size)
      clear hb
      clear hC
      clear hc7
      clear hf3
      clear i1
      replace b := b.alloc b.size (.cells #[.int .i64 0, .int .i64 0] 42)
      go_wp2_with fail
      refine (cable_any _).mono ?_
      rintro e w23 ⟨A8, rfl, hc8, hb⟩
      replace b := b.trans (hb.mono b.size)
      replace hc8 := hc8.mono (Nat.zero_le _)
      clear hb
      go_wp2_with fail
      refine (first_any _).mono ?_
      rintro e w24 ⟨F4, rfl, hf4, hb⟩
      replace hc8 := hc8.below hb
      replace b := b.trans (hb.mono b.size)
      replace hf4 := hf4.mono (Nat.zero_le _)
      clear hb
      have hC := Watch_any cable0 A8 F4 none none 2 2 2 2 0 0 0 0 [⟨10, 10⟩, ⟨20, 24⟩] [] [] _ hc8 hf4 (SlAt.nil _ _ _ _) (SlAt.nil _ _ _ _)
      rw [watchK2] at hC
      go_wp2_with fail
      refine (hC).mono ?_
      rintro e w25 ⟨rfl, hb⟩
      replace hc8 := hc8.below hb
      replace hf4 := hf4.below hb
      replace b := b.trans (hb.mono b.size)
      clear hb
      clear hC
      clear hc8
      clear hf4
      have kw := Blk.new w25 42 #[.int .i64 (-1), .int .i64 (-1)]
      replace b := b.alloc b.size (.cells #[.int .i64 (-1), .int .i64 (-1)] 42)
      replace kw := kw.alloc (.cells #[.int .i64 (-1), .int .i64 2, .int .i64 0, .int .i64 0] 46)
      have ws := (SlAt.of_blk (enc := Wat.cells) (s := 4) (Blk.new (w25.alloc (.cells #[.int .i64 (-1), .int .i64 (-1)] 42)) 46 #[.int .i64 (-1), .int .i64 2, .int .i64 0, .int .i64 0]) (fun _ => rfl) softK rfl (by decide)).mono (Nat.zero_le _)
      simp only [World.size_alloc] at ws
      replace b := b.alloc b.size (.cells #[.int .i64 (-1), .int .i64 2, .int .i64 0, .int .i64 0] 46)
      obtain ⟨c_kw, f_kw, l_kw⟩ := kw.rules
      go_wp2_with fail
      refine (cable_any _).mono ?_
      rintro e w26 ⟨A9, rfl, hc9, hb⟩
      clear c_kw f_kw l_kw
      replace ws := ws.below hb
      replace kw := kw.below hb
      replace b := b.trans (hb.mono b.size)
      replace hc9 := hc9.mono (Nat.zero_le _)
      clear hb
      clear kw
      go_wp2_with fail
      refine (first_any _).mono ?_
      rintro e w27 ⟨F5, rfl, hf5, hb⟩
      replace ws := ws.below hb
      replace hc9 := hc9.below hb
      replace b := b.trans (hb.mono b.size)
      replace hf5 := hf5.mono (Nat.zero_le _)
      clear hb
      replace ws := ws.alloc (.cells #[.int .i64 1] 3)
      replace hc9 := hc9.alloc (.cells #[.int .i64 1] 3)
      replace hf5 := hf5.alloc (.cells #[.int .i64 1] 3)
      have i1 := (SlAt.of_blk (enc := ivs) (s := 1) (Blk.new w27 3 #[.int .i64 1]) (fun _ => rfl) [(1 : Int)] rfl (by decide)).mono (Nat.zero_le _)
      replace b := b.alloc b.size (.cells #[.int .i64 1] 3)
      have hC := Fastest_any cable0 A9 F5 none _ 2 2 2 2 0 0 1 1 [⟨10, 10⟩, ⟨20, 24⟩] [] [1] _ hc9 hf5 (SlAt.nil _ _ _ _) i1
      rw [fastK1] at hC
      go_wp2_with fail
      refine (hC).mono ?_
      rintro e w28 ⟨O_rf, n_rf, c_rf, rfl, -, hb⟩
      replace ws := ws.below hb
      replace hc9 := hc9.below hb
      replace hf5 := hf5.below hb
      replace i1 := i1.below hb
      replace b := b.trans (hb.mono b.size)
      clear hb
      clear hC
      clear hc9
      clear hf5
      clear i1
      go_wp2_with fail
      refine (cable_any _).mono ?_
      rintro e w29 ⟨A10, rfl, hc10, hb⟩
      replace ws := ws.below hb
      replace b := b.trans (hb.mono b.size)
      replace hc10 := hc10.mono (Nat.zero_le _)
      clear hb
      go_wp2_with fail
      refine (first_any _).mono ?_
      rintro e w30 ⟨F6, rfl, hf6, hb⟩
      replace ws := ws.below hb
      replace hc10 := hc10.below hb
      replace b := b.trans (hb.mono b.size)
      replace hf6 := hf6.mono (Nat.zero_le _)
      clear hb
      have hC := Fastest_any cable0 A10 F6 _ none 2 2 2 2 1 1 0 0 [⟨10, 10⟩, ⟨20, 24⟩] softK [] _ hc10 hf6 ws (SlAt.nil _ _ _ _)
      rw [fastK2] at hC
      go_wp2_with fail
      refine (hC).mono ?_
      rintro e w31 ⟨O_rf, n_rf, c_rf, rfl, -, hb⟩
      replace ws := ws.below hb
      replace hc10 := hc10.below hb
      replace hf6 := hf6.below hb
      replace b := b.trans (hb.mono b.size)
      clear hb
      clear hC
      clear hc10
      clear hf6
      go_wp2_with fail
      refine (cable_any _).mono ?_
      rintro e w32 ⟨A11, rfl, hc11, hb⟩
      replace ws := ws.below hb
      replace b := b.trans (hb.mono b.size)
      replace hc11 := hc11.mono (Nat.zero_le _)
      clear hb
      go_wp2_with fail
      refine (first_any _).mono ?_
      rintro e w33 ⟨F7, rfl, hf7, hb⟩
      replace ws := ws.below hb
      replace hc11 := hc11.below hb
      replace b := b.trans (hb.mono b.size)
      replace hf7 := hf7.mono (Nat.zero_le _)
      clear hb
      replace ws := ws.alloc (.cells #[.int .i64 30, .int .i64 20, .int .i64 30] 3)
      replace hc11 := hc11.alloc (.cells #[.int .i64 30, .int .i64 20, .int .i64 30] 3)
      replace hf7 := hf7.alloc (.cells #[.int .i64 30, .int .i64 20, .int .i64 30] 3)
      have i1 := (SlAt.of_blk (enc := ivs) (s := 1) (Blk.new w33 3 #[.int .i64 30, .int .i64 20, .int .i64 30]) (fun _ => rfl) [(30 : Int), (20 : Int), (30 : Int)] rfl (by decide)).mono (Nat.zero_le _)
      replace b := b.alloc b.size (.cells #[.int .i64 30, .int .i64 20, .int .i64 30] 3)
      have hC := Fastest_any cable0 A11 F7 _ _ 2 2 2 2 1 1 3 3 [⟨10, 10⟩, ⟨20, 24⟩] softK [30, 20, 30] _ hc11 hf7 ws i1
      rw [fastK3] at hC
      go_wp2_with fail
      refine (hC).mono ?_
      rintro e w34 ⟨O_rf, n_rf, c_rf, rfl, rf, hb⟩
      replace ws := ws.below hb
      replace hc11 := hc11.below hb
      replace hf7 := hf7.below hb
      replace i1 := i1.below hb
      replace b := b.trans (hb.mono b.size)
      replace rf := rf.mono (Nat.zero_le _)
      clear hb
      clear hC
      clear hc11
      clear hf7
      clear i1
      obtain rfl : n_rf = 1 := rf.len.symm
      have rf2 := rf
      clear rf
      go_wp2_with fail
      refine (cable_any _).mono ?_
      rintro e w35 ⟨A12, rfl, hc12, hb⟩
      replace ws := ws.below hb
      replace rf2 := rf2.below hb
      replace b := b.trans (hb.mono b.size)
      replace hc12 := hc12.mono (Nat.zero_le _)
      clear hb
      go_wp2_with fail
      refine (first_any _).mono ?_
      rintro e w36 ⟨F8, rfl, hf8, hb⟩
      replace ws := ws.below hb
      replace rf2 := rf2.below hb
      replace hc12 := hc12.below hb
      replace b := b.trans (hb.mono b.size)
      replace hf8 := hf8.mono (Nat.zero_le _)
      clear hb
      replace ws := ws.alloc (.cells #[.int .i64 100] 3)
      replace rf2 := rf2.alloc (.cells #[.int .i64 100] 3)
      replace hc12 := hc12.alloc (.cells #[.int .i64 100] 3)
      replace hf8 := hf8.alloc (.cells #[.int .i64 100] 3)
      have i1 := (SlAt.of_blk (enc := ivs) (s := 1) (Blk.new w36 3 #[.int .i64 100]) (fun _ => rfl) [(100 : Int)] rfl (by decide)).mono (Nat.zero_le _)
      replace b := b.alloc b.size (.cells #[.int .i64 100] 3)
      have hC := Fastest_any cable0 A12 F8 _ _ 2 2 2 2 1 1 1 1 [⟨10, 10⟩, ⟨20, 24⟩] softK [100] _ hc12 hf8 ws i1
      rw [fastK4] at hC
      go_wp2_with fail
      refine (hC).mono ?_
      rintro e w37 ⟨O_rh, n_rh, c_rh, rfl, -, hb⟩
      replace ws := ws.below hb
      replace rf2 := rf2.below hb
      replace hc12 := hc12.below hb
      replace hf8 := hf8.below hb
      replace i1 := i1.below hb
      replace b := b.trans (hb.mono b.size)
      clear hb
      clear hC
      clear hc12
      clear hf8
      clear i1
      go_wp2_with fail
      refine (cable_any _).mono ?_
      rintro e w38 ⟨A13, rfl, hc13, hb⟩
      replace ws := ws.below hb
      replace rf2 := rf2.below hb
      replace b := b.trans (hb.mono b.size)
      replace hc13 := hc13.mono (Nat.zero_le _)
      clear hb
      go_wp2_with fail
      refine (first_any _).mono ?_
      rintro e w39 ⟨F9, rfl, hf9, hb⟩
      replace ws := ws.below hb
      replace rf2 := rf2.below hb
      replace hc13 := hc13.below hb
      replace b := b.trans (hb.mono b.size)
      replace hf9 := hf9.mono (Nat.zero_le _)
      clear hb
      replace ws := ws.alloc (.cells #[.int .i64 20] 3)
      replace rf2 := rf2.alloc (.cells #[.int .i64 20] 3)
      replace hc13 := hc13.alloc (.cells #[.int .i64 20] 3)
      replace hf9 := hf9.alloc (.cells #[.int .i64 20] 3)
      have i1 := (SlAt.of_blk (enc := ivs) (s := 1) (Blk.new w39 3 #[.int .i64 20]) (fun _ => rfl) [(20 : Int)] rfl (by decide)).mono (Nat.zero_le _)
      replace b := b.alloc b.size (.cells #[.int .i64 20] 3)
      have hC := Weakest_any cable0 A13 F9 _ _ 2 2 2 2 1 1 1 1 [⟨10, 10⟩, ⟨20, 24⟩] softK [20] _ hc13 hf9 ws i1
      rw [weakK] at hC
      go_wp2_with fail
      refine (hC).mono ?_
      rintro e w40 ⟨rfl, hb⟩
      replace ws := ws.below hb
      replace rf2 := rf2.below hb
      replace hc13 := hc13.below hb
      replace hf9 := hf9.below hb
      replace i1 := i1.below hb
      replace b := b.trans (hb.mono b.size)
      clear hb
      clear hC
      clear hc13
      clear hf9
      clear i1
      replace ws := ws.alloc (.cells #[.int .i64 0] 3)
      replace rf2 := rf2.alloc (.cells #[.int .i64 0] 3)
      have i1 := (SlAt.of_blk (enc := ivs) (s := 1) (Blk.new w40 3 #[.int .i64 0]) (fun _ => rfl) [(0 : Int)] rfl (by decide)).mono (Nat.zero_le _)
      replace b := b.alloc b.size (.cells #[.int .i64 0] 3)
      have hC := Alike_any _ _ 1 _ 1 1 0 0 _ [0] _ rf2 i1
      rw [decide_eq_true rfl] at hC
      go_wp2_with fail
      refine (hC).mono ?_
      rintro e w41 ⟨rfl, hb⟩
      replace ws := ws.below hb
      replace rf2 := rf2.below hb
      replace i1 := i1.below hb
      replace b := b.trans (hb.mono b.size)
      clear hb
      clear hC
      clear rf2
      clear i1
      replace ws := ws.alloc (.cells #[.int .i64 0, .int .i64 0, .int .i64 0, .int .i64 1, .int .i64 1, .int .i64 1, .int .i64 3, .int .i64 4, .int .i64 (-5), .int .i64 1001, .int .i64 0, .int .i64 1001] 54)
      have kh := Blk.new w41 54 #[.int .i64 0, .int .i64 0, .int .i64 0, .int .i64 1, .int .i64 1, .int .i64 1, .int .i64 3, .int .i64 4, .int .i64 (-5), .int .i64 1001, .int .i64 0, .int .i64 1001]
      replace b := b.alloc b.size (.cells #[.int .i64 0, .int .i64 0, .int .i64 0, .int .i64 1, .int .i64 1, .int .i64 1, .int .i64 3, .int .i64 4, .int .i64 (-5), .int .i64 1001, .int .i64 0, .int .i64 1001] 54)
      go_upto_region 31 with fail
      generalize (w41.alloc (.cells #[.int .i64 0, .int .i64 0, .int .i64 0, .int .i64 1, .int .i64 1, .int .i64 1, .int .i64 3, .int .i64 4, .int .i64 (-5), .int .i64 1001, .int .i64 0, .int .i64 1001] 54)) = wH at *
      obtain ⟨gH, hgH⟩ : ∃ g, w41.heap.size = g := ⟨_, rfl⟩
      rw [hgH] at kh ⊢
      clear hgH
      have hix : ∀ k : Nat, k < 4 → ∃ (x : Hdg), wH.cell? ⟨gH, k * 3, none⟩ = some (.int .i64 x.p) ∧ wH.cell? ⟨gH, k * 3 + 1, none⟩ = some (.int .i64 x.q) ∧ wH.cell? ⟨gH, k * 3 + 2, none⟩ = some (.int .i64 x.c) ∧ chkHdg x = 35 := by
        obtain ⟨c1, f1, l1⟩ := kh.rules
        intro k hk
        match k, hk with
        | 0, _ => exact ⟨⟨0, 0, 0⟩, c1 0, c1 1, c1 2, hdgK0⟩
        | 1, _ => exact ⟨⟨1, 1, 1⟩, c1 3, c1 4, c1 5, hdgK1⟩
        | 2, _ => exact ⟨⟨3, 4, -5⟩, c1 6, c1 7, c1 8, hdgK2⟩
        | 3, _ => exact ⟨⟨1001, 0, 1001⟩, c1 9, c1 10, c1 11, hdgK3⟩
      have hgw2 := kh.lt
      replace hix := Lib.hid hix
      clear kh
      go_wp2_with fail
      go_loopw [24] (fun i wr => ∃ k : Nat, i = .int .i64 (k : Int) ∧ k ≤ 4 ∧ Below wH.heap.size wH wr) (fun i wr => 4 - (intOf i).toNat)
      case atStart => exact ⟨0, rfl, Nat.zero_le _, Below.refl _ _⟩
      case round =>
        obtain ⟨k, rfl, hk, hb9⟩ := hrel
        by_cases hlt : k < 4
        · have hk0 : (0 : Int) ≤ (k : Int) := by omega
          have hk1 : (k : Int) < 4 := by omega
          obtain ⟨x, e0, e1, e2, hch⟩ := hix.out k hlt
          replace e0 := (hb9.cell (p := ⟨gH, k * 3, none⟩) hgw2).trans e0
          replace e1 := (hb9.cell (p := ⟨gH, k * 3 + 1, none⟩) hgw2).trans e1
          replace e2 := (hb9.cell (p := ⟨gH, k * 3 + 2, none⟩) hgw2).trans e2
          have hC := CheckHeading_any x wr
          rw [hch] at hC
          replace hch := Lib.hid hch
          go_wp2_with fail
          refine hC.mono ?_
          rintro e W9 ⟨rfl, hb⟩
          go_wp2_with fail
          go_roundw
          case rel => exact ⟨k + 1, by go_num, by omega, hb9.trans (hb.mono hb9.size)⟩
          case measure => simp [intOf]; omega
        · have hk1 : ¬ (k : Int) < 4 := by omega
          replace ws := ws.below hb9
          replace b := b.trans (hb9.mono b.size)
          clear hb9 hix
          generalize wr = w5c at *
          have hC := fun W => Turned_any ⟨⟨2, 3⟩, ⟨5, 5⟩, ⟨7, 8⟩, ⟨-3, -2⟩⟩ ⟨0, 1, 1⟩ W
          rw [turnK0] at hC
          simp only [regA] at hC
          go_wp2_with fail
          refine (hC _).mono ?_
          rintro e w42 ⟨rfl, hb⟩
          replace ws := ws.below hb
          replace b := b.trans (hb.mono b.size)
          clear hb
          clear hC
          replace ws := ws.alloc (.cells #[.int .i64 (-5), .int .i64 (-5), .int .i64 2, .int .i64 3, .int .i64 (-3), .int .i64 (-2), .int .i64 (-8), .int .i64 (-7)] 58)
          have kt := Blk.new w42 58 #[.int .i64 (-5), .int .i64 (-5), .int .i64 2, .int .i64 3, .int .i64 (-3), .int .i64 (-2), .int .i64 (-8), .int .i64 (-7)]
          replace b := b.alloc b.size (.cells #[.int .i64 (-5), .int .i64 (-5), .int .i64 2, .int .i64 3, .int .i64 (-3), .int .i64 (-2), .int .i64 (-8), .int .i64 (-7)] 58)
          obtain ⟨c_kt, f_kt, l_kt⟩ := kt.rules
          go_wp2_with fail
          refine (cable_any _).mono ?_
          rintro e w43 ⟨A14, rfl, hc14, hb⟩
          clear c_kt f_kt l_kt
          replace ws := ws.below hb
          replace kt := kt.below hb
          replace b := b.trans (hb.mono b.size)
          replace hc14 := hc14.mono (Nat.zero_le _)
          clear hb
          obtain ⟨c_kt, f_kt, l_kt⟩ := kt.rules
          go_wp2_with fail
          refine (after_any _).mono ?_
          rintro e w44 ⟨F10, rfl, hf10, hb⟩
          clear c_kt f_kt l_kt
          replace ws := ws.below hb
          replace hc14 := hc14.below hb
          replace kt := kt.below hb
          replace b := b.trans (hb.mono b.size)
          replace hf10 := hf10.mono (Nat.zero_le _)
          clear hb
          have hC := Where_any cable0 A14 F10 2 2 2 2 [⟨4, 7⟩, ⟨16, 20⟩] ⟨1000, -50⟩ ⟨1, 0, 1⟩ _ hc14 hf10
          unfold RetSl at hC
          rw [whereK1] at hC
          obtain ⟨c_kt, f_kt, l_kt⟩ := kt.rules
          go_wp2_with fail
          refine (hC).mono ?_
          rintro e w45 ⟨O_rn, n_rn, c_rn, rfl, rn, hb⟩
          clear c_kt f_kt l_kt
          replace ws := ws.below hb
          replace hc14 := hc14.below hb
          replace hf10 := hf10.below hb
          replace kt := kt.below hb
          replace b := b.trans (hb.mono b.size)
          replace rn := rn.mono (Nat.zero_le _)
          clear hb
          clear hC
          clear hc14
          clear hf10
          obtain rfl : n_rn = 2 := rn.len.symm
          obtain ⟨c_kt, f_kt, l_kt⟩ := kt.rules
          go_wp2_with fail
          refine (cable_any _).mono ?_
          rintro e w46 ⟨A15, rfl, hc15, hb⟩
          clear c_kt f_kt l_kt
          replace ws := ws.below hb
          replace rn := rn.below hb
          replace kt := kt.below hb
          replace b := b.trans (hb.mono b.size)
          replace hc15 := hc15.mono (Nat.zero_le _)
          clear hb
          obtain ⟨c_kt, f_kt, l_kt⟩ := kt.rules
          go_wp2_with fail
          refine (after_any _).mono ?_
          rintro e w47 ⟨F11, rfl, hf11, hb⟩
          clear c_kt f_kt l_kt
          replace ws := ws.below hb
          replace rn := rn.below hb
          replace hc15 := hc15.below hb
          replace kt := kt.below hb
          replace b := b.trans (hb.mono b.size)
          replace hf11 := hf11.mono (Nat.zero_le _)
          clear hb
          have hC := Where_any cable0 A15 F11 2 2 2 2 [⟨4, 7⟩, ⟨16, 20⟩] ⟨-32768, 0⟩ ⟨1, 0, 1⟩ _ hc15 hf11
          unfold RetSl at hC
          rw [whereK2] at hC
          obtain ⟨c_kt, f_kt, l_kt⟩ := kt.rules
          go_wp2_with fail
          refine (hC).mono ?_
          rintro e w48 ⟨O_ro, n_ro, c_ro, rfl, -, hb⟩
          clear c_kt f_kt l_kt
          replace ws := ws.below hb
          replace rn := rn.below hb
          replace hc15 := hc15.below hb
          replace hf11 := hf11.below hb
          replace kt := kt.below hb
          replace b := b.trans (hb.mono b.size)
          clear hb
          clear hC
          clear hc15
          clear hf11
          obtain ⟨bn, on, hA, -, -, x0, x1, -⟩ := rn.reg (k := 0) rfl
          obtain ⟨bn2, on2, hA2, -, -, y0, y1, y2, y3, -⟩ := rn.reg (k := 1) rfl
          subst hA
          cases hA2
          simp only [Nat.zero_mul, Nat.one_mul, Nat.add_zero] at x0 x1 y0 y1 y2 y3
          obtain ⟨c_kt, f_kt, l_kt⟩ := kt.rules
          go_wp2_with fail
          refine (cable_any _).mono ?_
          rintro e w49 ⟨A16, rfl, hc16, hb⟩
          clear c_kt f_kt l_kt
          replace ws := ws.below hb
          replace rn := rn.below hb
          replace kt := kt.below hb
          replace b := b.trans (hb.mono b.size)
          replace hc16 := hc16.mono (Nat.zero_le _)
          clear hb
          clear x0 x1 y0 y1 y2 y3
          clear rn
          clear kt
          have kd0 := Blk.new w49 26 #[Value.int .i64 0, .slice A16 2 2, .int .i64 (-20), .int .i64 20, .int .i64 30]
          obtain ⟨c1, f1, l1⟩ := kd0.rules
          go_upto_region 43 with fail
          clear c1 f1 l1 kd0
          have kd := Blk.new w49 26 #[Value.int .i64 40, .slice A16 2 2, .int .i64 (-20), .int .i64 20, .int .i64 30]
          have hb := (Below.refl w49.heap.size w49).alloc (Nat.le_refl _) (.cells #[Value.int .i64 40, .slice A16 2 2, .int .i64 (-20), .int .i64 20, .int .i64 30] 26)
          replace ws := ws.below hb
          replace hc16 := hc16.below hb
          replace b := b.trans (hb.mono b.size)
          clear hb
          generalize w49.alloc (.cells #[Value.int .i64 40, .slice A16 2 2, .int .i64 (-20), .int .i64 20, .int .i64 30] 26) = wE at *
          generalize w49.heap.size = gD at *
          replace ws := ws.alloc (.cells #[.int .i64 40, .int .i64 44, .int .i64 40, .int .i64 40] 24)
          replace hc16 := hc16.alloc (.cells #[.int .i64 40, .int .i64 44, .int .i64 40, .int .i64 40] 24)
          replace kd := kd.alloc (.cells #[.int .i64 40, .int .i64 44, .int .i64 40, .int .i64 40] 24)
          have hf := (SlAt.of_blk (enc := Bnd.cells) (s := 2) (Blk.new wE 24 #[.int .i64 40, .int .i64 44, .int .i64 40, .int .i64 40]) (fun _ => rfl) [⟨40, 44⟩, ⟨40, 40⟩] rfl (by decide)).mono (Nat.zero_le _)
          replace b := b.alloc b.size (.cells #[.int .i64 40, .int .i64 44, .int .i64 40, .int .i64 40] 24)
          go_upto_region 44 with fail
          generalize hwF : (wE.alloc (.cells #[.int .i64 40, .int .i64 44, .int .i64 40, .int .i64 40] 24)) = wF at *
          generalize wE.heap.size = gF at *
          clear hwF
          go_wp2_with fail
          refine wp_held_np (fun w' : World => ∀ i, w'.cell? ⟨gD, i, none⟩ = #[Value.int .i64 40, .slice A16 2 2, .int .i64 (-20), .int .i64 20, .int .i64 30][i]?) (by kernel_rfl) ?_
          have hSb : Hid (∀ W', Below wF.heap.size wF W' → (fun w' : World => ∀ i, w'.cell? ⟨gD, i, none⟩ = #[Value.int .i64 40, .slice A16 2 2, .int .i64 (-20), .int .i64 20, .int .i64 30][i]?) W') := by
            show ∀ _, _
            intro W' hbb
            exact (kd.below hbb).cell
          have hb9 : Below wF.heap.size wF wF.drew := (Below.refl _ _).drew
          have hS := hSb.out _ hb9
          generalize wF.drew = wd at *
          refine held_take (i := 1) (v := ?_) 338 rfl rfl (by kernel_rfl) (by kernel_rfl) (by kernel_rfl) (fun _ _ _ h => h) (Or.inl ⟨by rfl, ?_⟩) hS ?_
          rotate_left 1
          · intro w' hSw
            try dsimp only at hSw
            obtain h9 := hSw
            go_simp
            all_goals with_reducible rfl
          try simp only [Act.put, List.setIfInBounds_toArray, List.set_cons_zero, List.set_cons_succ]
          refine held_take (i := 4) (v := ?_) 341 rfl rfl (by kernel_rfl) (by kernel_rfl) (by kernel_rfl) (fun _ _ _ h => h) (Or.inl ⟨by rfl, ?_⟩) hS ?_
          rotate_left 1
          · intro w' hSw
            try dsimp only at hSw
            obtain h9 := hSw
            go_simp
            all_goals with_reducible rfl
          try simp only [Act.put, List.setIfInBounds_toArray, List.set_cons_zero, List.set_cons_succ]
          clear hS
          refine wpAnyH_fin (f := fun a (q : Option Addr × Option Addr × Nat × Nat) => (((((a.put (some 337) (.agg #[.int .i64 0, .slice q.1 2 2, .int .i64 (-20), .int .i64 20, .int .i64 30])).put (some 339) (.slice (some ⟨q.2.2.1, 0, none⟩) 2 2)).put (some 340) (.slice q.2.1 2 2)).put (some 342) (.slice (some ⟨q.2.2.2, 0, none⟩) 2 2)).put (some 29) (.slice (some ⟨q.2.2.1, 0, none⟩) 2 2)).put (some 30) (.slice (some ⟨q.2.2.2, 0, none⟩) 2 2)) (B := fun q W' => SlAt W' 0 5 Sec.cells q.1 2 2 cable0.secs ∧ SlAt W' 0 2 Bnd.cells q.2.1 2 2 [⟨4, 7⟩, ⟨16, 20⟩] ∧ Blk W' q.2.2.1 26 #[Value.int .i64 0, .slice q.1 2 2, .int .i64 (-20), .int .i64 20, .int .i64 30, .int .i64 40, .slice A16 2 2, .int .i64 (-20), .int .i64 20, .int .i64 30] ∧ Blk W' q.2.2.2 36 #[Value.slice q.2.1 2 2, .slice (some ⟨gF, 0, none⟩) 2 2] ∧ Below wF.heap.size wF W') ?_ (fun hrest => ?_)
          rotate_left 1
          · try simp only [Act.put, List.setIfInBounds_toArray, List.set_cons_zero, List.set_cons_succ] at hrest
            refine held_one (i := 0) (by kernel_rfl) rfl rfl (fun K hK => ?_)
            go_simp
            refine (cable_any _).mono ?_
            rintro e X1 ⟨A9, rfl, s9, hbel⟩
            replace hb9 := hb9.trans (hbel.mono hb9.size)
            replace s9 := s9.mono (Nat.zero_le _)
            clear hbel
            refine hK _ _ (hSb.out _ hb9) ?_
            clear hK K
            try simp only [Act.put, List.setIfInBounds_toArray, List.set_cons_zero, List.set_cons_succ]
            refine held_two (i := 2) (j := 3) (by kernel_rfl) rfl rfl rfl rfl (fun K hK => ?_) (fun K hK => ?_)
            · skip
              go_simp
              have kA := Blk.new X1 26 #[Value.int .i64 0, .slice A9 2 2, .int .i64 (-20), .int .i64 20, .int .i64 30, .int .i64 40, .slice A16 2 2, .int .i64 (-20), .int .i64 20, .int .i64 30]
              replace hb9 := hb9.alloc hb9.size (.cells #[Value.int .i64 0, .slice A9 2 2, .int .i64 (-20), .int .i64 20, .int .i64 30, .int .i64 40, .slice A16 2 2, .int .i64 (-20), .int .i64 20, .int .i64 30] 26)
              replace s9 := s9.alloc (.cells #[Value.int .i64 0, .slice A9 2 2, .int .i64 (-20), .int .i64 20, .int .i64 30, .int .i64 40, .slice A16 2 2, .int .i64 (-20), .int .i64 20, .int .i64 30] 26)
              try replace r9 := r9.alloc (.cells #[Value.int .i64 0, .slice A9 2 2, .int .i64 (-20), .int .i64 20, .int .i64 30, .int .i64 40, .slice A16 2 2, .int .i64 (-20), .int .i64 20, .int .i64 30] 26)
              try replace kB := kB.alloc (.cells #[Value.int .i64 0, .slice A9 2 2, .int .i64 (-20), .int .i64 20, .int .i64 30, .int .i64 40, .slice A16 2 2, .int .i64 (-20), .int .i64 20, .int .i64 30] 26)
              refine hK _ _ (hSb.out _ hb9) ?_
              clear hK K
              try simp only [Act.put, List.setIfInBounds_toArray, List.set_cons_zero, List.set_cons_succ]
              generalize X1.heap.size = gA at *
              generalize X1.alloc (.cells #[Value.int .i64 0, .slice A9 2 2, .int .i64 (-20), .int .i64 20, .int .i64 30, .int .i64 40, .slice A16 2 2, .int .i64 (-20), .int .i64 20, .int .i64 30] 26) = X2 at *
              refine held_one (i := 3) (by kernel_rfl) rfl rfl (fun K hK => ?_)
              go_simp
              refine (after_any _).mono ?_
              rintro e X3 ⟨F9, rfl, r9, hbel⟩
              replace s9 := s9.below hbel
              try replace kA := kA.below hbel
              replace r9 := r9.mono (Nat.zero_le _)
              replace hb9 := hb9.trans (hbel.mono hb9.size)
              clear hbel
              refine hK _ _ (hSb.out _ hb9) ?_
              clear hK K
              try simp only [Act.put, List.setIfInBounds_toArray, List.set_cons_zero, List.set_cons_succ]
              refine held_two (i := 5) (j := 6) (by kernel_rfl) rfl rfl rfl rfl (fun K hK => ?_) (fun K hK => ?_)
              · skip
                go_simp
                have kB := Blk.new X3 36 #[Value.slice F9 2 2, .slice (some ⟨gF, 0, none⟩) 2 2]
                replace hb9 := hb9.alloc hb9.size (.cells #[Value.slice F9 2 2, .slice (some ⟨gF, 0, none⟩) 2 2] 36)
                replace s9 := s9.alloc (.cells #[Value.slice F9 2 2, .slice (some ⟨gF, 0, none⟩) 2 2] 36)
                try replace r9 := r9.alloc (.cells #[Value.slice F9 2 2, .slice (some ⟨gF, 0, none⟩) 2 2] 36)
                try replace kA := kA.alloc (.cells #[Value.slice F9 2 2, .slice (some ⟨gF, 0, none⟩) 2 2] 36)
                refine hK _ _ (hSb.out _ hb9) ?_
                clear hK K
                try simp only [Act.put, List.setIfInBounds_toArray, List.set_cons_zero, List.set_cons_succ]
                generalize X3.heap.size = gB at *
                generalize X3.alloc (.cells #[Value.slice F9 2 2, .slice (some ⟨gF, 0, none⟩) 2 2] 36) = X4 at *
                refine held_one (i := 6) (by kernel_rfl) rfl rfl (fun K hK => ?_)
                go_simp
                refine hK _ _ (hSb.out _ hb9) ?_
                clear hK K
                try simp only [Act.put, List.setIfInBounds_toArray, List.set_cons_zero, List.set_cons_succ]
                obtain ⟨X5, hwz⟩ : ∃ x, x = X4 := ⟨_, rfl⟩
                subst hwz
                refine held_one (i := 7) (by kernel_rfl) rfl rfl (fun K hK => ?_)
                go_simp
                refine hK _ _ (hSb.out _ hb9) ?_
                clear hK K
                try simp only [Act.put, List.setIfInBounds_toArray, List.set_cons_zero, List.set_cons_succ]
                obtain ⟨X6, hwz⟩ : ∃ x, x = X5 := ⟨_, rfl⟩
                subst hwz
                refine wpAnyH_done (by kernel_rfl) (hrest (A9, F9, gA, gB) _ ⟨s9, r9, kA, kB, hb9⟩) _
              · skip
                go_simp
                refine hK _ _ (hSb.out _ hb9) ?_
                clear hK K
                try simp only [Act.put, List.setIfInBounds_toArray, List.set_cons_zero, List.set_cons_succ]
                obtain ⟨X7, hwz⟩ : ∃ x, x = X3 := ⟨_, rfl⟩
                subst hwz
                refine held_one (i := 5) (by kernel_rfl) rfl rfl (fun K hK => ?_)
                go_simp
                have kB := Blk.new X7 36 #[Value.slice F9 2 2, .slice (some ⟨gF, 0, none⟩) 2 2]
                replace hb9 := hb9.alloc hb9.size (.cells #[Value.slice F9 2 2, .slice (some ⟨gF, 0, none⟩) 2 2] 36)
                replace s9 := s9.alloc (.cells #[Value.slice F9 2 2, .slice (some ⟨gF, 0, none⟩) 2 2] 36)
                try replace r9 := r9.alloc (.cells #[Value.slice F9 2 2, .slice (some ⟨gF, 0, none⟩) 2 2] 36)
                try replace kA := kA.alloc (.cells #[Value.slice F9 2 2, .slice (some ⟨gF, 0, none⟩) 2 2] 36)
                refine hK _ _ (hSb.out _ hb9) ?_
                clear hK K
                try simp only [Act.put, List.setIfInBounds_toArray, List.set_cons_zero, List.set_cons_succ]
                generalize X7.heap.size = gB at *
                generalize X7.alloc (.cells #[Value.slice F9 2 2, .slice (some ⟨gF, 0, none⟩) 2 2] 36) = X8 at *
                refine held_one (i := 7) (by kernel_rfl) rfl rfl (fun K hK => ?_)
                go_simp
                refine hK _ _ (hSb.out _ hb9) ?_
                clear hK K
                try simp only [Act.put, List.setIfInBounds_toArray, List.set_cons_zero, List.set_cons_succ]
                obtain ⟨X9, hwz⟩ : ∃ x, x = X8 := ⟨_, rfl⟩
                subst hwz
                refine wpAnyH_done (by kernel_rfl) (hrest (A9, F9, gA, gB) _ ⟨s9, r9, kA, kB, hb9⟩) _
            · skip
              go_simp
              refine (after_any _).mono ?_
              rintro e X10 ⟨F9, rfl, r9, hbel⟩
              replace s9 := s9.below hbel
              try replace kA := kA.below hbel
              replace r9 := r9.mono (Nat.zero_le _)
              replace hb9 := hb9.trans (hbel.mono hb9.size)
              clear hbel
              refine hK _ _ (hSb.out _ hb9) ?_
              clear hK K
              try simp only [Act.put, List.setIfInBounds_toArray, List.set_cons_zero, List.set_cons_succ]
              refine held_two (i := 2) (j := 5) (by kernel_rfl) rfl rfl rfl rfl (fun K hK => ?_) (fun K hK => ?_)
              · skip
                go_simp
                have kA := Blk.new X10 26 #[Value.int .i64 0, .slice A9 2 2, .int .i64 (-20), .int .i64 20, .int .i64 30, .int .i64 40, .slice A16 2 2, .int .i64 (-20), .int .i64 20, .int .i64 30]
                replace hb9 := hb9.alloc hb9.size (.cells #[Value.int .i64 0, .slice A9 2 2, .int .i64 (-20), .int .i64 20, .int .i64 30, .int .i64 40, .slice A16 2 2, .int .i64 (-20), .int .i64 20, .int .i64 30] 26)
                replace s9 := s9.alloc (.cells #[Value.int .i64 0, .slice A9 2 2, .int .i64 (-20), .int .i64 20, .int .i64 30, .int .i64 40, .slice A16 2 2, .int .i64 (-20), .int .i64 20, .int .i64 30] 26)
                try replace r9 := r9.alloc (.cells #[Value.int .i64 0, .slice A9 2 2, .int .i64 (-20), .int .i64 20, .int .i64 30, .int .i64 40, .slice A16 2 2, .int .i64 (-20), .int .i64 20, .int .i64 30] 26)
                try replace kB := kB.alloc (.cells #[Value.int .i64 0, .slice A9 2 2, .int .i64 (-20), .int .i64 20, .int .i64 30, .int .i64 40, .slice A16 2 2, .int .i64 (-20), .int .i64 20, .int .i64 30] 26)
                refine hK _ _ (hSb.out _ hb9) ?_
                clear hK K
                try simp only [Act.put, List.setIfInBounds_toArray, List.set_cons_zero, List.set_cons_succ]
                generalize X10.heap.size = gA at *
                generalize X10.alloc (.cells #[Value.int .i64 0, .slice A9 2 2, .int .i64 (-20), .int .i64 20, .int .i64 30, .int .i64 40, .slice A16 2 2, .int .i64 (-20), .int .i64 20, .int .i64 30] 26) = X11 at *
                refine held_two (i := 5) (j := 6) (by kernel_rfl) rfl rfl rfl rfl (fun K hK => ?_) (fun K hK => ?_)
                · skip
                  go_simp
                  have kB := Blk.new X11 36 #[Value.slice F9 2 2, .slice (some ⟨gF, 0, none⟩) 2 2]
                  replace hb9 := hb9.alloc hb9.size (.cells #[Value.slice F9 2 2, .slice (some ⟨gF, 0, none⟩) 2 2] 36)
                  replace s9 := s9.alloc (.cells #[Value.slice F9 2 2, .slice (some ⟨gF, 0, none⟩) 2 2] 36)
                  try replace r9 := r9.alloc (.cells #[Value.slice F9 2 2, .slice (some ⟨gF, 0, none⟩) 2 2] 36)
                  try replace kA := kA.alloc (.cells #[Value.slice F9 2 2, .slice (some ⟨gF, 0, none⟩) 2 2] 36)
                  refine hK _ _ (hSb.out _ hb9) ?_
                  clear hK K
                  try simp only [Act.put, List.setIfInBounds_toArray, List.set_cons_zero, List.set_cons_succ]
                  generalize X11.heap.size = gB at *
                  generalize X11.alloc (.cells #[Value.slice F9 2 2, .slice (some ⟨gF, 0, none⟩) 2 2] 36) = X12 at *
                  refine held_one (i := 6) (by kernel_rfl) rfl rfl (fun K hK => ?_)
                  go_simp
                  refine hK _ _ (hSb.out _ hb9) ?_
                  clear hK K
                  try simp only [Act.put, List.setIfInBounds_toArray, List.set_cons_zero, List.set_cons_succ]
                  obtain ⟨X13, hwz⟩ : ∃ x, x = X12 := ⟨_, rfl⟩
                  subst hwz
                  refine held_one (i := 7) (by kernel_rfl) rfl rfl (fun K hK => ?_)
                  go_simp
                  refine hK _ _ (hSb.out _ hb9) ?_
                  clear hK K
                  try simp only [Act.put, List.setIfInBounds_toArray, List.set_cons_zero, List.set_cons_succ]
                  obtain ⟨X14, hwz⟩ : ∃ x, x = X13 := ⟨_, rfl⟩
                  subst hwz
                  refine wpAnyH_done (by kernel_rfl) (hrest (A9, F9, gA, gB) _ ⟨s9, r9, kA, kB, hb9⟩) _
                · skip
                  go_simp
                  refine hK _ _ (hSb.out _ hb9) ?_
                  clear hK K
                  try simp only [Act.put, List.setIfInBounds_toArray, List.set_cons_zero, List.set_cons_succ]
                  obtain ⟨X15, hwz⟩ : ∃ x, x = X11 := ⟨_, rfl⟩
                  subst hwz
                  refine held_one (i := 5) (by kernel_rfl) rfl rfl (fun K hK => ?_)
                  go_simp
                  have kB := Blk.new X15 36 #[Value.slice F9 2 2, .slice (some ⟨gF, 0, none⟩) 2 2]
                  replace hb9 := hb9.alloc hb9.size (.cells #[Value.slice F9 2 2, .slice (some ⟨gF, 0, none⟩) 2 2] 36)
                  replace s9 := s9.alloc (.cells #[Value.slice F9 2 2, .slice (some ⟨gF, 0, none⟩) 2 2] 36)
                  try replace r9 := r9.alloc (.cells #[Value.slice F9 2 2, .slice (some ⟨gF, 0, none⟩) 2 2] 36)
                  try replace kA := kA.alloc (.cells #[Value.slice F9 2 2, .slice (some ⟨gF, 0, none⟩) 2 2] 36)
                  refine hK _ _ (hSb.out _ hb9) ?_
                  clear hK K
                  try simp only [Act.put, List.setIfInBounds_toArray, List.set_cons_zero, List.set_cons_succ]
                  generalize X15.heap.size = gB at *
                  generalize X15.alloc (.cells #[Value.slice F9 2 2, .slice (some ⟨gF, 0, none⟩) 2 2] 36) = X16 at *
                  refine held_one (i := 7) (by kernel_rfl) rfl rfl (fun K hK => ?_)
                  go_simp
                  refine hK _ _ (hSb.out _ hb9) ?_
                  clear hK K
                  try simp only [Act.put, List.setIfInBounds_toArray, List.set_cons_zero, List.set_cons_succ]
                  obtain ⟨X17, hwz⟩ : ∃ x, x = X16 := ⟨_, rfl⟩
                  subst hwz
                  refine wpAnyH_done (by kernel_rfl) (hrest (A9, F9, gA, gB) _ ⟨s9, r9, kA, kB, hb9⟩) _
              · skip
                go_simp
                have kB := Blk.new X10 36 #[Value.slice F9 2 2, .slice (some ⟨gF, 0, none⟩) 2 2]
                replace hb9 := hb9.alloc hb9.size (.cells #[Value.slice F9 2 2, .slice (some ⟨gF, 0, none⟩) 2 2] 36)
                replace s9 := s9.alloc (.cells #[Value.slice F9 2 2, .slice (some ⟨gF, 0, none⟩) 2 2] 36)
                try replace r9 := r9.alloc (.cells #[Value.slice F9 2 2, .slice (some ⟨gF, 0, none⟩) 2 2] 36)
                try replace kA := kA.alloc (.cells #[Value.slice F9 2 2, .slice (some ⟨gF, 0, none⟩) 2 2] 36)
                refine hK _ _ (hSb.out _ hb9) ?_
                clear hK K
                try simp only [Act.put, List.setIfInBounds_toArray, List.set_cons_zero, List.set_cons_succ]
                generalize X10.heap.size = gB at *
                generalize X10.alloc (.cells #[Value.slice F9 2 2, .slice (some ⟨gF, 0, none⟩) 2 2] 36) = X18 at *
                refine held_one (i := 2) (by kernel_rfl) rfl rfl (fun K hK => ?_)
                go_simp
                have kA := Blk.new X18 26 #[Value.int .i64 0, .slice A9 2 2, .int .i64 (-20), .int .i64 20, .int .i64 30, .int .i64 40, .slice A16 2 2, .int .i64 (-20), .int .i64 20, .int .i64 30]
                replace hb9 := hb9.alloc hb9.size (.cells #[Value.int .i64 0, .slice A9 2 2, .int .i64 (-20), .int .i64 20, .int .i64 30, .int .i64 40, .slice A16 2 2, .int .i64 (-20), .int .i64 20, .int .i64 30] 26)
                replace s9 := s9.alloc (.cells #[Value.int .i64 0, .slice A9 2 2, .int .i64 (-20), .int .i64 20, .int .i64 30, .int .i64 40, .slice A16 2 2, .int .i64 (-20), .int .i64 20, .int .i64 30] 26)
                try replace r9 := r9.alloc (.cells #[Value.int .i64 0, .slice A9 2 2, .int .i64 (-20), .int .i64 20, .int .i64 30, .int .i64 40, .slice A16 2 2, .int .i64 (-20), .int .i64 20, .int .i64 30] 26)
                try replace kB := kB.alloc (.cells #[Value.int .i64 0, .slice A9 2 2, .int .i64 (-20), .int .i64 20, .int .i64 30, .int .i64 40, .slice A16 2 2, .int .i64 (-20), .int .i64 20, .int .i64 30] 26)
                refine hK _ _ (hSb.out _ hb9) ?_
                clear hK K
                try simp only [Act.put, List.setIfInBounds_toArray, List.set_cons_zero, List.set_cons_succ]
                generalize X18.heap.size = gA at *
                generalize X18.alloc (.cells #[Value.int .i64 0, .slice A9 2 2, .int .i64 (-20), .int .i64 20, .int .i64 30, .int .i64 40, .slice A16 2 2, .int .i64 (-20), .int .i64 20, .int .i64 30] 26) = X19 at *
                refine held_one (i := 6) (by kernel_rfl) rfl rfl (fun K hK => ?_)
                go_simp
                refine hK _ _ (hSb.out _ hb9) ?_
                clear hK K
                try simp only [Act.put, List.setIfInBounds_toArray, List.set_cons_zero, List.set_cons_succ]
                obtain ⟨X20, hwz⟩ : ∃ x, x = X19 := ⟨_, rfl⟩
                subst hwz
                refine held_one (i := 7) (by kernel_rfl) rfl rfl (fun K hK => ?_)
                go_simp
                refine hK _ _ (hSb.out _ hb9) ?_
                clear hK K
                try simp only [Act.put, List.setIfInBounds_toArray, List.set_cons_zero, List.set_cons_succ]
                obtain ⟨X21, hwz⟩ : ∃ x, x = X20 := ⟨_, rfl⟩
                subst hwz
                refine wpAnyH_done (by kernel_rfl) (hrest (A9, F9, gA, gB) _ ⟨s9, r9, kA, kB, hb9⟩) _
          · rintro ⟨A9, F9, gA, gB⟩ wG ⟨s9, r9, kA, kB, hb⟩
            try simp only [Act.put, List.setIfInBounds_toArray, List.set_cons_zero, List.set_cons_succ]
            refine noPanic_normal ?_
            clear hb9 hSb
            dsimp only at s9 r9 kA kB
            replace ws := ws.below hb
            replace hc16 := hc16.below hb
            replace hf := hf.below hb
            replace b := b.trans (hb.mono b.size)
            clear kd
            have hL : SpL wG (some ⟨gA, 0, none⟩) 2 2 (dsK A9 A16) := ⟨(SlAt.of_blk (enc := StD.cells) (s := 5) kA (fun _ => rfl) (dsK A9 A16) rfl (by simp [dsK])).mono (Nat.zero_le _), fun d hd => by simp only [dsK, List.mem_cons, List.not_mem_nil, or_false] at hd; rcases hd with rfl | rfl; exact s9; exact hc16⟩
            have hM : BpL wG (some ⟨gB, 0, none⟩) 2 2 (esK F9 _) := ⟨(SlAt.of_blk (enc := BdD.cells) (s := 1) kB (fun _ => rfl) (esK F9 (some ⟨gF, 0, none⟩)) rfl (by simp [esK])).mono (Nat.zero_le _), fun d hd => by simp only [esK, List.mem_cons, List.not_mem_nil, or_false] at hd; rcases hd with rfl | rfl; exact r9; exact hf⟩
            have hL2 : SpL wG (some ⟨gA, 0, none⟩) 1 2 (dsL A9) := ⟨SlAt.takeK hL.1 (N := 1) (by decide), fun d hd => hL.2 d (by simp only [dsL, dsK, List.mem_cons, List.not_mem_nil, or_false] at hd ⊢; exact .inl hd)⟩
            have hM2 : BpL wG (some ⟨gB, 0, none⟩) 1 2 (esL F9) := ⟨SlAt.takeK hM.1 (N := 1) (by decide), fun d hd => hM.2 d (by simp only [esL, esK, List.mem_cons, List.not_mem_nil, or_false] at hd ⊢; exact .inl hd)⟩
            clear hb kA kB s9 r9 hf hc16
            have hC := Approach_any (some ⟨gA, 0, none⟩) (some ⟨gB, 0, none⟩) 2 2 2 2 0 1 (dsK A9 A16) (esK F9 (some ⟨gF, 0, none⟩)) _ hL hM
            rw [apprK1] at hC
            go_wp2_with fail
            refine (hC).mono ?_
            rintro e w50 ⟨rfl, hb⟩
            replace ws := ws.below hb
            replace hL := hL.below hb
            replace hM := hM.below hb
            replace hL2 := hL2.below hb
            replace hM2 := hM2.below hb
            replace b := b.trans (hb.mono b.size)
            clear hb
            clear hC
            replace ws := ws.alloc (.cells #[.int .i64 400, .int .i64 585] 24)
            replace hL := hL.below ((Below.refl _ _).alloc (Nat.le_refl _) (.cells #[.int .i64 400, .int .i64 585] 24))
            replace hM := hM.below ((Below.refl _ _).alloc (Nat.le_refl _) (.cells #[.int .i64 400, .int .i64 585] 24))
            replace hL2 := hL2.below ((Below.refl _ _).alloc (Nat.le_refl _) (.cells #[.int .i64 400, .int .i64 585] 24))
            replace hM2 := hM2.below ((Below.refl _ _).alloc (Nat.le_refl _) (.cells #[.int .i64 400, .int .i64 585] 24))
            have kn := Blk.new w50 24 #[.int .i64 400, .int .i64 585]
            replace b := b.alloc b.size (.cells #[.int .i64 400, .int .i64 585] 24)
            have hC := Approach_any (some ⟨gA, 0, none⟩) (some ⟨gB, 0, none⟩) 2 2 2 2 1 1 (dsK A9 A16) (esK F9 (some ⟨gF, 0, none⟩)) _ hL hM
            rw [apprK2] at hC
            obtain ⟨c_kn, f_kn, l_kn⟩ := kn.rules
            go_wp2_with fail
            refine (hC).mono ?_
            rintro e w51 ⟨rfl, hb⟩
            clear c_kn f_kn l_kn
            replace ws := ws.below hb
            replace hL := hL.below hb
            replace hM := hM.below hb
            replace hL2 := hL2.below hb
            replace hM2 := hM2.below hb
            replace kn := kn.below hb
            replace b := b.trans (hb.mono b.size)
            clear hb
            clear hC
            have hC := Approach_any (some ⟨gA, 0, none⟩) (some ⟨gB, 0, none⟩) 1 2 2 2 0 1 (dsL A9) (esK F9 (some ⟨gF, 0, none⟩)) _ hL2 hM
            rw [apprK3] at hC
            obtain ⟨c_kn, f_kn, l_kn⟩ := kn.rules
            go_wp2_with fail
            refine (hC).mono ?_
            rintro e w52 ⟨rfl, hb⟩
            clear c_kn f_kn l_kn
            replace ws := ws.below hb
            replace hL := hL.below hb
            replace hM := hM.below hb
            replace hL2 := hL2.below hb
            replace hM2 := hM2.below hb
            replace kn := kn.below hb
            replace b := b.trans (hb.mono b.size)
            clear hb
            clear hC
            have hC := Tangle_any (some ⟨gA, 0, none⟩) (some ⟨gB, 0, none⟩) none 2 2 2 2 0 0 21 (dsK A9 A16) (esK F9 (some ⟨gF, 0, none⟩)) [] _ hL hM (SlAt.nil _ _ _ _)
            rw [tangK1] at hC
            obtain ⟨c_kn, f_kn, l_kn⟩ := kn.rules
            go_wp2_with fail
            refine (hC).mono ?_
            rintro e w53 ⟨rfl, hb⟩
            clear c_kn f_kn l_kn
            replace ws := ws.below hb
            replace hL := hL.below hb
            replace hM := hM.below hb
            replace hL2 := hL2.below hb
            replace hM2 := hM2.below hb
            replace kn := kn.below hb
            replace b := b.trans (hb.mono b.size)
            clear hb
            clear hC
            have hC := Tangle_any (some ⟨gA, 0, none⟩) (some ⟨gB, 0, none⟩) none 2 2 2 2 0 0 20 (dsK A9 A16) (esK F9 (some ⟨gF, 0, none⟩)) [] _ hL hM (SlAt.nil _ _ _ _)
            rw [tangK2] at hC
            obtain ⟨c_kn, f_kn, l_kn⟩ := kn.rules
            go_wp2_with fail
            refine (hC).mono ?_
            rintro e w54 ⟨rfl, hb⟩
            clear c_kn f_kn l_kn
            replace ws := ws.below hb
            replace hL := hL.below hb
            replace hM := hM.below hb
            replace hL2 := hL2.below hb
            replace hM2 := hM2.below hb
            replace kn := kn.below hb
            replace b := b.trans (hb.mono b.size)
            clear hb
            clear hC
            go_wp2_with fail
            refine wp_held_np (fun w' : World => True) (by kernel_rfl) ?_
            have hb : Below w54.heap.size w54 w54.drew := (Below.refl _ _).drew
            replace ws := ws.below hb
            replace hL := hL.below hb
            replace hM := hM.below hb
            replace hL2 := hL2.below hb
            replace hM2 := hM2.below hb
            replace kn := kn.below hb
            replace b := b.trans (hb.mono b.size)
            clear hb
            have hS : (fun w' : World => True) w54.drew := trivial
            generalize w54.drew = wv at *
            refine held_take (i := 0) (v := ?_) 375 rfl rfl (by kernel_rfl) (by kernel_rfl) (by kernel_rfl) (fun _ _ _ h => h) (Or.inl ⟨by rfl, ?_⟩) hS ?_
            rotate_left 1
            · intro w' hSw
              try dsimp only at hSw
              obtain h9 := hSw
              go_simp
              all_goals with_reducible rfl
            try simp only [Act.put, List.setIfInBounds_toArray, List.set_cons_zero, List.set_cons_succ]
            refine held_take (i := 1) (v := ?_) 376 rfl rfl (by kernel_rfl) (by kernel_rfl) (by kernel_rfl) (fun _ _ _ h => h) (Or.inl ⟨by rfl, ?_⟩) hS ?_
            rotate_left 1
            · intro w' hSw
              try dsimp only at hSw
              obtain h9 := hSw
              go_simp
              all_goals with_reducible rfl
            try simp only [Act.put, List.setIfInBounds_toArray, List.set_cons_zero, List.set_cons_succ]
            refine held_take (i := 2) (v := ?_) 377 rfl rfl (by kernel_rfl) (by kernel_rfl) (by kernel_rfl) (fun _ _ _ h => h) (Or.inl ⟨by rfl, ?_⟩) hS ?_
            rotate_left 1
            · intro w' hSw
              try dsimp only at hSw
              obtain h9 := hSw
              go_simp
              all_goals with_reducible rfl
            try simp only [Act.put, List.setIfInBounds_toArray, List.set_cons_zero, List.set_cons_succ]
            refine held_take (i := 3) (v := ?_) 378 rfl rfl (by kernel_rfl) (by kernel_rfl) (by kernel_rfl) (fun _ _ _ h => h) (Or.inl ⟨by rfl, ?_⟩) hS ?_
            rotate_left 1
            · intro w' hSw
              try dsimp only at hSw
              obtain h9 := hSw
              go_simp
              all_goals with_reducible rfl
            try simp only [Act.put, List.setIfInBounds_toArray, List.set_cons_zero, List.set_cons_succ]
            refine held_take (i := 4) (v := ?_) 379 rfl rfl (by kernel_rfl) (by kernel_rfl) (by kernel_rfl) (fun _ _ _ h => h) (Or.inl ⟨by rfl, ?_⟩) hS ?_
            rotate_left 1
            · intro w' hSw
              try dsimp only at hSw
              obtain h9 := hSw
              go_simp
              all_goals with_reducible rfl
            try simp only [Act.put, List.setIfInBounds_toArray, List.set_cons_zero, List.set_cons_succ]
            refine held_one (i := 5) (by kernel_rfl) rfl rfl (fun K hK => ?_)
            go_simp
            have hC := Tangle_any (some ⟨gA, 0, none⟩) (some ⟨gB, 0, none⟩) _ 1 2 1 2 1 1 32768 (dsL A9) (esL F9) softK _ hL2 hM2 ws
            rw [tangK3] at hC
            refine hC.mono ?_
            rintro e wx ⟨rfl, hb⟩
            clear hC hS
            replace ws := ws.below hb
            replace hL := hL.below hb
            replace hM := hM.below hb
            replace hL2 := hL2.below hb
            replace hM2 := hM2.below hb
            replace kn := kn.below hb
            replace b := b.trans (hb.mono b.size)
            clear hb
            have hS : (fun w' : World => True) wx := trivial
            refine hK _ _ hS ?_
            clear hK K
            try simp only [Act.put, List.setIfInBounds_toArray, List.set_cons_zero, List.set_cons_succ]
            refine held_take (i := 6) (v := ?_) 374 rfl rfl (by kernel_rfl) (by kernel_rfl) (by kernel_rfl) (fun _ _ _ h => h) (Or.inl ⟨by rfl, ?_⟩) hS ?_
            rotate_left 1
            · intro w' hSw
              try dsimp only at hSw
              obtain h9 := hSw
              go_simp
              all_goals with_reducible rfl
            try simp only [Act.put, List.setIfInBounds_toArray, List.set_cons_zero, List.set_cons_succ]
            refine held_take (i := 7) (v := ?_) 381 rfl rfl (by kernel_rfl) (by kernel_rfl) (by kernel_rfl) (fun _ _ _ h => h) (Or.inl ⟨by rfl, ?_⟩) hS ?_
            rotate_left 1
            · intro w' hSw
              try dsimp only at hSw
              obtain h9 := hSw
              go_simp
              all_goals with_reducible rfl
            try simp only [Act.put, List.setIfInBounds_toArray, List.set_cons_zero, List.set_cons_succ]
            refine held_take (i := 8) (v := ?_) 382 rfl rfl (by kernel_rfl) (by kernel_rfl) (by kernel_rfl) (fun _ _ _ h => h) (Or.inl ⟨by rfl, ?_⟩) hS ?_
            rotate_left 1
            · intro w' hSw
              try dsimp only at hSw
              obtain h9 := hSw
              go_simp
              all_goals with_reducible rfl
            try simp only [Act.put, List.setIfInBounds_toArray, List.set_cons_zero, List.set_cons_succ]
            refine held_take (i := 9) (v := ?_) 34 rfl rfl (by kernel_rfl) (by kernel_rfl) (by kernel_rfl) (fun _ _ _ h => h) (Or.inl ⟨by rfl, ?_⟩) hS ?_
            rotate_left 1
            · intro w' hSw
              try dsimp only at hSw
              obtain h9 := hSw
              go_simp
              all_goals with_reducible rfl
            try simp only [Act.put, List.setIfInBounds_toArray, List.set_cons_zero, List.set_cons_succ]
            refine held_take (i := 10) (v := ?_) 14 rfl rfl (by kernel_rfl) (by kernel_rfl) (by kernel_rfl) (fun _ _ _ h => h) (Or.inl ⟨by rfl, ?_⟩) hS ?_
            rotate_left 1
            · intro w' hSw
              try dsimp only at hSw
              obtain h9 := hSw
              go_simp
              all_goals with_reducible rfl
            try simp only [Act.put, List.setIfInBounds_toArray, List.set_cons_zero, List.set_cons_succ]
            refine wpAnyH_done (by kernel_rfl) (noPanic_normal ?_) _
            clear hS
            obtain ⟨c_kn, f_kn, l_kn⟩ := kn.rules
            go_wp2_with fail
            refine (works_any _).mono ?_
            rintro e w55 ⟨rfl, hb⟩
            clear c_kn f_kn l_kn
            replace ws := ws.below hb
            replace hL := hL.below hb
            replace hM := hM.below hb
            replace hL2 := hL2.below hb
            replace hM2 := hM2.below hb
            replace kn := kn.below hb
            replace b := b.trans (hb.mono b.size)
            clear hb
            go_wp2_with fail
            go_ret
            exact ⟨rfl, b⟩
end Go.Proofs.YthjdjpcomocffaaGreat
