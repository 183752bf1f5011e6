/-
  Courses, walks: the example's cruise is valid; its plan.
-/
import Derived.Test.YtcmbmmpihiekhaaGreatC19
set_option maxRecDepth 100000
set_option maxHeartbeats 16000000
set_option linter.unusedSimpArgs false
set_option linter.unusedVariables false
namespace Go.Proofs.YtcmbmmpihiekhaaGreat
open Go.RowKit Go.Shelf
attribute [local go_sem] Oper.semAt_some

theorem cruise_any (p : Pl) (w : World) (kL : Blk w p.bL 149 #[Value.int .i64 0, .int .i64 0, .int .i64 10, .int .i64 0]) (kO : Blk w p.bO 29 #[Value.slice (some ⟨p.bB, 0, none⟩) 1 1]) (kB : Blk w p.bB 26 #[Value.int .i64 7, .int .i64 100]) :
    Calls Tryz.prog 171 #[.agg #[.slice (some ⟨p.bL, 0, none⟩) 1 1, .slice none 0 0, .slice none 0 0, .int .i64 0, .int .i64 0, .int .i64 0, .int .i64 0, .int .i64 0, .int .i64 0, .int .i64 0, .int .i64 0, .int .i64 0, .int .i64 0, .int .i64 0, .int .i64 2, .int .i64 3, .slice (some ⟨p.bO, 0, none⟩) 1 1]] w fun e w' => e = .returned (.bool true) ∧ Below w.heap.size w w' := by
  have hcp1 := fun W => CheckPoint_any ⟨0, 0⟩ W
  rw [show chkPnt ⟨0, 0⟩ = 0 from by decide +kernel] at hcp1
  have hcp2 := fun W => CheckPoint_any ⟨10, 0⟩ W
  rw [show chkPnt ⟨10, 0⟩ = 0 from by decide +kernel] at hcp2
  have htg := fun W => Tight_any noReg W
  rw [show tightR noReg = (noReg, 0) from by decide +kernel] at htg
  simp only [regA, noReg] at htg
  have b := (Below.refl w.heap.size w).alloc (Nat.le_refl _) (.cells #[.slice (some ⟨p.bL, 0, none⟩) 1 1, .slice none 0 0, .slice none 0 0, .int .i64 0, .int .i64 0, .int .i64 0, .int .i64 0, .int .i64 0, .int .i64 0, .int .i64 0, .int .i64 0, .int .i64 0, .int .i64 0, .int .i64 0, .int .i64 2, .int .i64 3, .slice (some ⟨p.bO, 0, none⟩) 1 1] 155)
  have k1 := Blk.new w 155 #[.slice (some ⟨p.bL, 0, none⟩) 1 1, .slice none 0 0, .slice none 0 0, .int .i64 0, .int .i64 0, .int .i64 0, .int .i64 0, .int .i64 0, .int .i64 0, .int .i64 0, .int .i64 0, .int .i64 0, .int .i64 0, .int .i64 0, .int .i64 2, .int .i64 3, .slice (some ⟨p.bO, 0, none⟩) 1 1]
  replace kL := kL.below b
  replace kO := kO.below b
  replace kB := kB.below b
  go_enter Tryz.func171, Tryz.ntmps171
  go_upto_region 1 with fail
  generalize w.alloc (.cells #[.slice (some ⟨p.bL, 0, none⟩) 1 1, .slice none 0 0, .slice none 0 0, .int .i64 0, .int .i64 0, .int .i64 0, .int .i64 0, .int .i64 0, .int .i64 0, .int .i64 0, .int .i64 0, .int .i64 0, .int .i64 0, .int .i64 0, .int .i64 2, .int .i64 3, .slice (some ⟨p.bO, 0, none⟩) 1 1] 155) = W at *
  obtain ⟨c1, f1, l1⟩ := k1.rules
  go_wp2_with fail
  refine (cwithin_any _ _ _ _).mono ?_
  rintro e W0 ⟨rfl, rfl⟩
  go_wp2_with fail
  refine wp_loop_rounds 2 ?_
  rw [rounds_succ]
  obtain ⟨cL, fL, lL⟩ := kL.rules
  go_upto_region 6 with fail
  clear c1 f1 l1 cL fL lL
  have k4 := Blk.new W 149 #[Value.int .i64 0, .int .i64 0, .int .i64 10, .int .i64 0]
  have hb := (Below.refl W.heap.size W).alloc (Nat.le_refl _) (.cells #[Value.int .i64 0, .int .i64 0, .int .i64 10, .int .i64 0] 149)
  replace k1 := k1.below hb
  replace kO := kO.below hb
  replace kB := kB.below hb
  replace b := b.trans (hb.mono b.size)
  clear hb kL
  generalize W.alloc (.cells #[Value.int .i64 0, .int .i64 0, .int .i64 10, .int .i64 0] 149) = W4 at *
  generalize W.heap.size = g4 at *
  obtain ⟨c4, f4, l4⟩ := k4.rules
  go_wp2_with fail
  refine (hcp1 _).mono ?_
  rintro e W5 ⟨rfl, hb⟩
  clear c4 f4 l4
  replace k1 := k1.below hb
  replace kO := kO.below hb
  replace kB := kB.below hb
  replace k4 := k4.below hb
  replace b := b.trans (hb.mono b.size)
  clear hb
  obtain ⟨c4, f4, l4⟩ := k4.rules
  go_wp2_with fail
  refine (hcp2 _).mono ?_
  rintro e W6 ⟨rfl, hb⟩
  clear c4 f4 l4
  replace k1 := k1.below hb
  replace kO := kO.below hb
  replace kB := kB.below hb
  replace k4 := k4.below hb
  replace b := b.trans (hb.mono b.size)
  clear hb
  obtain ⟨c4, f4, l4⟩ := k4.rules
  obtain ⟨c1, f1, l1⟩ := k1.rules
  obtain ⟨cO, fO, lO⟩ := kO.rules
  go_wp2_with fail
  refine (windows_any p.bB _ kB).mono ?_
  rintro e W7 ⟨rfl, hb⟩
  clear c4 f4 l4 c1 f1 l1 cO fO lO
  replace k1 := k1.below hb
  replace b := b.trans (hb.mono b.size)
  clear hb kB kO k4
  obtain ⟨c1, f1, l1⟩ := k1.rules
  go_wp2_with fail
  rw [rounds_succ]
  go_wp2_with fail
  refine (noneA_any _ _).mono ?_
  rintro e W8 ⟨rfl, rfl⟩
  go_wp2_with fail
  refine (noneB_any _ _).mono ?_
  rintro e W8 ⟨rfl, rfl⟩
  go_wp2_with fail
  refine (htg _).mono ?_
  rintro e W8 ⟨rfl, hb⟩
  clear c1 f1 l1
  replace k1 := k1.below hb
  replace b := b.trans (hb.mono b.size)
  clear hb
  obtain ⟨c1, f1, l1⟩ := k1.rules
  have hb := (Below.refl W8.heap.size W8).alloc (Nat.le_refl _) (.cells #[.int .i64 0, .int .i64 0, .int .i64 0, .int .i64 0, .int .i64 0, .int .i64 0, .int .i64 0, .int .i64 0] 68)
  go_upto_region 12 with fail
  clear c1 f1 l1
  replace k1 := k1.below hb
  replace b := b.trans (hb.mono b.size)
  clear hb
  generalize W8.alloc (.cells #[.int .i64 0, .int .i64 0, .int .i64 0, .int .i64 0, .int .i64 0, .int .i64 0, .int .i64 0, .int .i64 0] 68) = W9 at *
  obtain ⟨c1, f1, l1⟩ := k1.rules
  go_wp2_with fail
  refine (validA_any _).mono ?_
  rintro e W10 ⟨rfl, hb⟩
  clear c1 f1 l1
  replace k1 := k1.below hb
  replace b := b.trans (hb.mono b.size)
  clear hb
  obtain ⟨c1, f1, l1⟩ := k1.rules
  go_wp2_with fail
  refine (cwithin_any _ _ _ _).mono ?_
  rintro e W11 ⟨rfl, rfl⟩
  go_wp2_with fail
  refine (cwithin_any _ _ _ _).mono ?_
  rintro e W11 ⟨rfl, rfl⟩
  go_wp2
  go_ret
  exact ⟨rfl, b⟩
theorem ccruise_any (p : Pl) (w : World) (kL : Blk w p.bL 149 #[Value.int .i64 0, .int .i64 0, .int .i64 10, .int .i64 0]) (kO : Blk w p.bO 29 #[Value.slice (some ⟨p.bB, 0, none⟩) 1 1]) (kB : Blk w p.bB 26 #[Value.int .i64 7, .int .i64 100]) :
    Calls Tryz.prog 155 #[.agg #[.slice (some ⟨p.bL, 0, none⟩) 1 1, .slice none 0 0, .slice none 0 0, .int .i64 0, .int .i64 0, .int .i64 0, .int .i64 0, .int .i64 0, .int .i64 0, .int .i64 0, .int .i64 0, .int .i64 0, .int .i64 0, .int .i64 0, .int .i64 2, .int .i64 3, .slice (some ⟨p.bO, 0, none⟩) 1 1]] w fun e w' => e = .returned (.int .i64 0) ∧ Below w.heap.size w w' := by
  have b := (Below.refl w.heap.size w).alloc (Nat.le_refl _) (.cells #[.slice (some ⟨p.bL, 0, none⟩) 1 1, .slice none 0 0, .slice none 0 0, .int .i64 0, .int .i64 0, .int .i64 0, .int .i64 0, .int .i64 0, .int .i64 0, .int .i64 0, .int .i64 0, .int .i64 0, .int .i64 0, .int .i64 0, .int .i64 2, .int .i64 3, .slice (some ⟨p.bO, 0, none⟩) 1 1] 155)
  have k1 := Blk.new w 155 #[.slice (some ⟨p.bL, 0, none⟩) 1 1, .slice none 0 0, .slice none 0 0, .int .i64 0, .int .i64 0, .int .i64 0, .int .i64 0, .int .i64 0, .int .i64 0, .int .i64 0, .int .i64 0, .int .i64 0, .int .i64 0, .int .i64 0, .int .i64 2, .int .i64 3, .slice (some ⟨p.bO, 0, none⟩) 1 1]
  replace kL := kL.below b
  replace kO := kO.below b
  replace kB := kB.below b
  go_enter Tryz.func155, Tryz.ntmps155
  go_upto_region 1 with fail
  generalize w.alloc (.cells #[.slice (some ⟨p.bL, 0, none⟩) 1 1, .slice none 0 0, .slice none 0 0, .int .i64 0, .int .i64 0, .int .i64 0, .int .i64 0, .int .i64 0, .int .i64 0, .int .i64 0, .int .i64 0, .int .i64 0, .int .i64 0, .int .i64 0, .int .i64 2, .int .i64 3, .slice (some ⟨p.bO, 0, none⟩) 1 1] 155) = W at *
  obtain ⟨c1, f1, l1⟩ := k1.rules
  go_wp2_with fail
  refine (cruise_any p _ kL kO kB).mono ?_
  rintro e W1 ⟨rfl, hb⟩
  go_wp2
  go_ret
  exact ⟨rfl, b.trans (hb.mono b.size)⟩
theorem chartOf_any (bL bO bB : Nat) (w : World) (kL : Blk w bL 149 #[Value.int .i64 0, .int .i64 0, .int .i64 10, .int .i64 0]) (kO : Blk w bO 29 #[Value.slice (some ⟨bB, 0, none⟩) 1 1]) (kB : Blk w bB 26 #[Value.int .i64 7, .int .i64 100]) :
    Calls Tryz.prog 138 #[.agg #[.slice (some ⟨bL, 0, none⟩) 1 1, .slice none 0 0, .slice none 0 0, .int .i64 0, .int .i64 0, .int .i64 0, .int .i64 0, .int .i64 0, .int .i64 0, .int .i64 0, .int .i64 0, .int .i64 0, .int .i64 0, .int .i64 0, .int .i64 2, .int .i64 3, .slice (some ⟨bO, 0, none⟩) 1 1]] w fun e w' => ∃ c m1, e = .returned (.tuple #[.pointer (some ⟨c, 0, none⟩), .int .i64 0]) ∧ Blk w' c 219 #[.slice (some ⟨bL, 0, none⟩) 1 1, .slice none 0 0, .slice none 0 0, .int .i64 0, .int .i64 0, .int .i64 0, .int .i64 0, .int .i64 0, .int .i64 0, .int .i64 0, .int .i64 0, .int .i64 0, .int .i64 0, .int .i64 0, .int .i64 2, .int .i64 3, .slice (some ⟨bO, 0, none⟩) 1 1, .map (some m1)] ∧ AtKn w' m1 (fun _ => false) ∧ m1 < w'.heap.size ∧ w.heap.size ≤ m1 ∧ Below w.heap.size w w' := by
  have hmk : ∀ (t : TypeId) (w : World), (Instr.makeMap t none).run Tryz.prog w = .ok (.map (some w.heap.size)) (w.alloc (.map #[] 0)) := fun t w => run_makeMap t w
  have b := (Below.refl w.heap.size w).alloc (Nat.le_refl _) (.cells #[.slice (some ⟨bL, 0, none⟩) 1 1, .slice none 0 0, .slice none 0 0, .int .i64 0, .int .i64 0, .int .i64 0, .int .i64 0, .int .i64 0, .int .i64 0, .int .i64 0, .int .i64 0, .int .i64 0, .int .i64 0, .int .i64 0, .int .i64 2, .int .i64 3, .slice (some ⟨bO, 0, none⟩) 1 1] 155)
  have k1 := Blk.new w 155 #[.slice (some ⟨bL, 0, none⟩) 1 1, .slice none 0 0, .slice none 0 0, .int .i64 0, .int .i64 0, .int .i64 0, .int .i64 0, .int .i64 0, .int .i64 0, .int .i64 0, .int .i64 0, .int .i64 0, .int .i64 0, .int .i64 0, .int .i64 2, .int .i64 3, .slice (some ⟨bO, 0, none⟩) 1 1]
  replace kL := kL.below b
  replace kO := kO.below b
  replace kB := kB.below b
  go_enter Tryz.func138, Tryz.ntmps138
  go_upto_region 1 with fail
  generalize w.alloc (.cells #[.slice (some ⟨bL, 0, none⟩) 1 1, .slice none 0 0, .slice none 0 0, .int .i64 0, .int .i64 0, .int .i64 0, .int .i64 0, .int .i64 0, .int .i64 0, .int .i64 0, .int .i64 0, .int .i64 0, .int .i64 0, .int .i64 0, .int .i64 2, .int .i64 3, .slice (some ⟨bO, 0, none⟩) 1 1] 155) = W at *
  obtain ⟨c1, f1, l1⟩ := k1.rules
  go_wp2_with fail
  refine (ccruise_any ⟨bL, bO, bB, 0, 0, 0⟩ _ kL kO kB).mono ?_
  rintro e W1 ⟨rfl, hb⟩
  clear c1 f1 l1
  replace k1 := k1.below hb
  replace b := b.trans (hb.mono b.size)
  clear hb
  obtain ⟨c1, f1, l1⟩ := k1.rules
  go_wp2
  have hz := b.size
  refine bodyPost_ret (v := .tuple #[.pointer (some ⟨W1.heap.size + 1, 0, none⟩), .int .i64 0]) (by simp [results, Tryz.results138, go_sem]) rfl ⟨W1.heap.size + 1, W1.heap.size, by simp, Blk.newAt (by simp), (AtKn.made W1).block ?_, by simp; omega, b.size, ?_⟩
  · exact Below.heap_alloc _ _ _ (by simp)
  · exact (b.alloc b.size _).alloc (by simp; omega) _
theorem planOf_any (bL bO bB : Nat) (w : World) (kL : Blk w bL 149 #[Value.int .i64 0, .int .i64 0, .int .i64 10, .int .i64 0]) (kO : Blk w bO 29 #[Value.slice (some ⟨bB, 0, none⟩) 1 1]) (kB : Blk w bB 26 #[Value.int .i64 7, .int .i64 100]) :
    Calls Tryz.prog 111 #[.agg #[.slice (some ⟨bL, 0, none⟩) 1 1, .slice none 0 0, .slice none 0 0, .int .i64 0, .int .i64 0, .int .i64 0, .int .i64 0, .int .i64 0, .int .i64 0, .int .i64 0, .int .i64 0, .int .i64 0, .int .i64 0, .int .i64 0, .int .i64 2, .int .i64 3, .slice (some ⟨bO, 0, none⟩) 1 1]] w fun e w' => ∃ p : Pl, e = .returned (.tuple #[.agg #[.pointer (some ⟨p.c, 0, none⟩), .map (some p.m2)], .int .i64 0]) ∧ InvC p w' ∧ p.bL = bL ∧ w.heap.size ≤ p.m1 ∧ w.heap.size ≤ p.m2 ∧ Below w.heap.size w w' := by
  have hl1 := kL.lt
  have hl2 := kO.lt
  have hl3 := kB.lt
  have hmk : ∀ (t : TypeId) (w : World), (Instr.makeMap t none).run Tryz.prog w = .ok (.map (some w.heap.size)) (w.alloc (.map #[] 0)) := fun t w => run_makeMap t w
  have b := ((Below.refl w.heap.size w).alloc (Nat.le_refl _) (.cells #[.slice (some ⟨bL, 0, none⟩) 1 1, .slice none 0 0, .slice none 0 0, .int .i64 0, .int .i64 0, .int .i64 0, .int .i64 0, .int .i64 0, .int .i64 0, .int .i64 0, .int .i64 0, .int .i64 0, .int .i64 0, .int .i64 0, .int .i64 2, .int .i64 3, .slice (some ⟨bO, 0, none⟩) 1 1] 155)).alloc (by simp) (.cells #[.pointer none, .map none] 214)
  have k1 := (Blk.new w 155 #[.slice (some ⟨bL, 0, none⟩) 1 1, .slice none 0 0, .slice none 0 0, .int .i64 0, .int .i64 0, .int .i64 0, .int .i64 0, .int .i64 0, .int .i64 0, .int .i64 0, .int .i64 0, .int .i64 0, .int .i64 0, .int .i64 0, .int .i64 2, .int .i64 3, .slice (some ⟨bO, 0, none⟩) 1 1]).alloc (.cells #[.pointer none, .map none] 214)
  have k2 : Blk ((w.alloc (.cells #[.slice (some ⟨bL, 0, none⟩) 1 1, .slice none 0 0, .slice none 0 0, .int .i64 0, .int .i64 0, .int .i64 0, .int .i64 0, .int .i64 0, .int .i64 0, .int .i64 0, .int .i64 0, .int .i64 0, .int .i64 0, .int .i64 0, .int .i64 2, .int .i64 3, .slice (some ⟨bO, 0, none⟩) 1 1] 155)).alloc (.cells #[.pointer none, .map none] 214)) (w.heap.size + 1) 214 #[.pointer none, .map none] := Blk.newAt (by simp)
  replace kL := kL.below b
  replace kO := kO.below b
  replace kB := kB.below b
  go_enter Tryz.func111, Tryz.ntmps111
  go_upto_region 1 with fail
  generalize (w.alloc (.cells #[.slice (some ⟨bL, 0, none⟩) 1 1, .slice none 0 0, .slice none 0 0, .int .i64 0, .int .i64 0, .int .i64 0, .int .i64 0, .int .i64 0, .int .i64 0, .int .i64 0, .int .i64 0, .int .i64 0, .int .i64 0, .int .i64 0, .int .i64 2, .int .i64 3, .slice (some ⟨bO, 0, none⟩) 1 1] 155)).alloc (.cells #[.pointer none, .map none] 214) = W at *
  obtain ⟨c1, f1, l1⟩ := k1.rules
  have k2l := k2.lt
  go_wp2_with fail
  refine (chartOf_any bL bO bB _ kL kO kB).mono ?_
  rintro e W1 ⟨c, m1, rfl, kc, hk, hm1, hm0, hb⟩
  clear c1 f1 l1
  replace k2 := k2.below hb
  replace kL := kL.below hb
  replace kO := kO.below hb
  replace kB := kB.below hb
  replace b := b.trans (hb.mono b.size)
  have hml : w.heap.size + 1 < m1 := by omega
  have hcl := kc.lt
  clear hb
  have k2l1 := k2.lt
  have k2n : w.heap.size + 1 ≠ c := blk_ne k2 kc (by decide)
  obtain ⟨c2, f2, l2⟩ := k2.rules
  obtain ⟨X, hX⟩ : ∃ X, X = (W1.setCell ⟨w.heap.size + 1, 0, none⟩ (.pointer (some ⟨c, 0, none⟩))).setCell ⟨w.heap.size + 1, 1, none⟩ (.map (some W1.heap.size)) := ⟨_, rfl⟩
  have hsz : X.heap.size = W1.heap.size := by rw [hX]; simp [World.setCell]
  have hx3 := (Below.refl X.heap.size X).alloc (Nat.le_refl _) (.map #[] 0)
  have kz := (((k2.set_ 0 (.pointer (some ⟨c, 0, none⟩))).set_ 1 (.map (some W1.heap.size))))
  simp only [sA, sZ, sS] at kz
  have bz := (b.setCell (p := ⟨w.heap.size + 1, 0, none⟩) (by dsimp only; omega) (.pointer (some ⟨c, 0, none⟩))).setCell (p := ⟨w.heap.size + 1, 1, none⟩) (by dsimp only; omega) (.map (some W1.heap.size))
  rw [← hX] at kz bz
  have hmd := AtCo.made X
  rw [hsz] at hmd
  replace kz := kz.below hx3
  replace bz := bz.trans (hx3.mono (by rw [hsz]; exact b.size))
  have q : ∀ {k : Nat} (hk : k < W1.heap.size) (hn : k ≠ w.heap.size + 1), (X.alloc (.map #[] 0)).heap[k]? = W1.heap[k]? := fun {k} hk hn => by
    refine (hx3.block k (by omega)).trans ?_
    rw [hX]
    exact (Below.heap_setCell _ _ _ _ (by dsimp only; omega)).trans (Below.heap_setCell _ _ _ _ (by dsimp only; omega))
  have hq1 := (q hcl (by omega)).trans kc
  have hq2 := (q kL.lt (by omega)).trans kL
  have hq3 := (q kO.lt (by omega)).trans kO
  have hq4 := (q kB.lt (by omega)).trans kB
  have hq5 := hk.block (q hm1 (by omega))
  clear hx3 q
  go_wp2
  rw [← hX] at *
  clear c2 f2 l2
  obtain ⟨c2, f2, l2⟩ := kz.rules
  exact bodyPost_ret (v := .tuple #[.agg #[.pointer (some ⟨c, 0, none⟩), .map (some W1.heap.size)], .int .i64 0]) (by simp [results, Tryz.results111, go_sem, c2]) rfl ⟨⟨bL, bO, bB, c, m1, W1.heap.size⟩, rfl, ⟨hq1, hq2, hq3, hq4, ⟨_, hq5⟩, ⟨_, hmd⟩, Nat.ne_of_lt hm1⟩, rfl, by dsimp only; omega, by have := b.size; dsimp only; omega, bz⟩
end Go.Proofs.YtcmbmmpihiekhaaGreat
