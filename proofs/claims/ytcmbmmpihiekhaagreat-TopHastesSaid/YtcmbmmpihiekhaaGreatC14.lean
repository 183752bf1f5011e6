/-
  Courses, walks: the best passage, and when a line is shot from a pose on: at the example.
-/
import Derived.Test.YtcmbmmpihiekhaaGreatC13
set_option maxRecDepth 100000
set_option maxHeartbeats 16000000
set_option linter.unusedSimpArgs false
set_option linter.unusedVariables false
namespace Go.Proofs.YtcmbmmpihiekhaaGreat
open Go.RowKit Go.Shelf

theorem validA_any (w : World) : Calls Tryz.prog 144 #[.agg #[.int .i64 0, .int .i64 0, .int .i64 0]] w fun e w' => e = .returned (.bool true) ∧ Below w.heap.size w w' := by
  have hcp := fun W => CheckPoint_any ⟨0, 0⟩ W
  rw [show chkPnt ⟨0, 0⟩ = 0 from by decide +kernel] at hcp
  have b := (Below.refl w.heap.size w).alloc (Nat.le_refl _) (.cells #[.int .i64 0, .int .i64 0, .int .i64 0] 227)
  have k1 := Blk.new w 227 #[.int .i64 0, .int .i64 0, .int .i64 0]
  go_enter Tryz.func144, Tryz.ntmps144
  go_upto_region 1 with fail
  generalize w.alloc (.cells #[.int .i64 0, .int .i64 0, .int .i64 0] 227) = W at *
  obtain ⟨c1, f1, l1⟩ := k1.rules
  go_wp2_with fail
  refine (hcp _).mono ?_
  rintro e W1 ⟨rfl, hb⟩
  clear c1 f1 l1
  replace k1 := k1.below hb
  obtain ⟨c1, f1, l1⟩ := k1.rules
  go_wp2_with fail
  refine (cwithin_any _ _ _ _).mono ?_
  rintro e W2 ⟨rfl, rfl⟩
  go_wp2
  go_ret
  exact ⟨rfl, b.trans (hb.mono b.size)⟩
theorem passagesA_any (p : Pl) (w : World) : Calls Tryz.prog 162 #[.pointer (some ⟨p.c, 0, none⟩), .agg #[.int .i64 0, .int .i64 0, .int .i64 0], .agg #[.int .i64 0, .int .i64 0, .int .i64 0]] w fun e w' => e = .returned (.func (.func 173) #[] #[.pointer (some ⟨w.heap.size, 0, none⟩), .pointer (some ⟨w.heap.size + 1, 0, none⟩), .pointer (some ⟨w.heap.size + 2, 0, none⟩)]) ∧ w' = ((w.alloc (.cells #[.pointer (some ⟨p.c, 0, none⟩)] 211)).alloc (.cells #[.int .i64 0, .int .i64 0, .int .i64 0] 227)).alloc (.cells #[.int .i64 0, .int .i64 0, .int .i64 0] 227) := by
  have hmf := @hmfT Tryz.prog
  go_enter Tryz.func162, Tryz.ntmps162
  go_wp2
  go_ret
  exact ⟨rfl, rfl⟩
theorem passagesC_any (p : Pl) (w : World) : Calls Tryz.prog 162 #[.pointer (some ⟨p.c, 0, none⟩), .agg #[.int .i64 0, .int .i64 0, .int .i64 0], .agg #[.int .i64 10, .int .i64 0, .int .i64 3]] w fun e w' => e = .returned (.func (.func 173) #[] #[.pointer (some ⟨w.heap.size, 0, none⟩), .pointer (some ⟨w.heap.size + 1, 0, none⟩), .pointer (some ⟨w.heap.size + 2, 0, none⟩)]) ∧ w' = ((w.alloc (.cells #[.pointer (some ⟨p.c, 0, none⟩)] 211)).alloc (.cells #[.int .i64 0, .int .i64 0, .int .i64 0] 227)).alloc (.cells #[.int .i64 10, .int .i64 0, .int .i64 3] 227) := by
  have hmf := @hmfT Tryz.prog
  go_enter Tryz.func162, Tryz.ntmps162
  go_wp2
  go_ret
  exact ⟨rfl, rfl⟩
theorem bestA_any (p : Pl) (w : World) (hI : InvC p w) :
    Calls Tryz.prog 145 #[.pointer (some ⟨p.c, 0, none⟩), .agg #[.int .i64 0, .int .i64 0, .int .i64 0], .agg #[.int .i64 0, .int .i64 0, .int .i64 0]] w fun e w' => ∃ B n c, e = .returned (.tuple #[.agg #[.slice B n c, .int .i64 0], .bool true]) ∧ InvC p w' ∧ BelowH (HM p) w.heap.size w w' := by
  obtain ⟨W, hW⟩ : ∃ W, W = ((w.alloc (.cells #[.int .i64 0, .int .i64 0, .int .i64 0] 227)).alloc (.cells #[.int .i64 0, .int .i64 0, .int .i64 0] 227)).alloc (.cells #[.slice none 0 0, .int .i64 0] 270) := ⟨_, rfl⟩
  have k4 : Blk W w.heap.size 227 #[.int .i64 0, .int .i64 0, .int .i64 0] := by rw [hW]; exact ((Blk.new _ _ _).alloc _).alloc _
  have k5 : Blk W (w.heap.size + 1) 227 #[.int .i64 0, .int .i64 0, .int .i64 0] := by rw [hW]; exact (Blk.newAt (by simp)).alloc _
  have k6 : Blk W (w.heap.size + 1 + 1) 270 #[.slice none 0 0, .int .i64 0] := by rw [hW]; exact Blk.newAt (by simp)
  have b : Below w.heap.size w W := by rw [hW]; exact (((Below.refl _ _).alloc (Nat.le_refl _) _).alloc (by simp) _).alloc (by simp; omega) _
  have hJ := hI.below b
  go_enter Tryz.func145, Tryz.ntmps145
  go_upto_region 1 with fail
  rw [← hW]
  clear hW
  obtain ⟨c4, f4, l4⟩ := k4.rules
  obtain ⟨c5, f5, l5⟩ := k5.rules
  go_wp2_with fail
  refine (passagesA_any p _).mono ?_
  rintro e W1 ⟨rfl, hW1⟩
  clear c4 f4 l4 c5 f5 l5
  have hb : Below W.heap.size W W1 := by rw [hW1]; exact (((Below.refl _ _).alloc (Nat.le_refl _) _).alloc (by simp) _).alloc (by simp; omega) _
  have hP : PasL p W.heap.size (W.heap.size + 1) (W.heap.size + 2) 0 0 W1 := ⟨hJ.below hb, by rw [hW1]; exact ((Blk.new _ _ _).alloc _).alloc _, by rw [hW1]; exact (Blk.newAt (by simp)).alloc _, by rw [hW1]; exact Blk.newAt (by simp)⟩
  clear hW1
  replace k6 := k6.below hb
  replace b := b.trans (hb.mono b.size)
  clear hb
  go_wp2_with fail
  refine (firstA_any p _ _ _ _ hP).mono ?_
  rintro e W2 ⟨B, n, c, rfl, hJ2, hb⟩
  have n6 := hP.inv.off k6
  replace k6 := hb.blk k6 k6.lt n6
  have bH := (belowH_of (H := HM p) b).trans (hb.mono b.size)
  clear hb b hP hJ
  obtain ⟨c6, f6, l6⟩ := k6.rules
  have kz := ((k6.set_ 0 (.slice B n c)).set_ 1 (.int .i64 0))
  simp only [sA, sZ, sS] at kz
  have bz := bH.trans (belowH_of ((((Below.refl w.heap.size W2).setCell (p := ⟨w.heap.size + 1 + 1, 0, none⟩) (by dsimp only; omega) (.slice B n c)).setCell (p := ⟨w.heap.size + 1 + 1, 1, none⟩) (by dsimp only; omega) (.int .i64 0))))
  have hJz : InvC p ((W2.setCell ⟨w.heap.size + 1 + 1, 0, none⟩ (.slice B n c)).setCell ⟨w.heap.size + 1 + 1, 1, none⟩ (.int .i64 0)) := (hJ2.set_ hI (by omega) _).set_ hI (by omega) _
  go_wp2
  clear c6 f6 l6
  obtain ⟨c6, f6, l6⟩ := kz.rules
  exact bodyPost_ret (v := .tuple #[.agg #[.slice B n c, .int .i64 0], .bool true]) (by simp [results, Tryz.results145, go_sem, c6]) rfl ⟨_, _, _, rfl, hJz, bz⟩
theorem bestC_any (p : Pl) (w : World) (hI : InvC p w) :
    Calls Tryz.prog 145 #[.pointer (some ⟨p.c, 0, none⟩), .agg #[.int .i64 0, .int .i64 0, .int .i64 0], .agg #[.int .i64 10, .int .i64 0, .int .i64 3]] w fun e w' => ∃ B n c, e = .returned (.tuple #[.agg #[.slice B n c, .int .i64 14], .bool true]) ∧ InvC p w' ∧ BelowH (HM p) w.heap.size w w' := by
  obtain ⟨W, hW⟩ : ∃ W, W = ((w.alloc (.cells #[.int .i64 0, .int .i64 0, .int .i64 0] 227)).alloc (.cells #[.int .i64 10, .int .i64 0, .int .i64 3] 227)).alloc (.cells #[.slice none 0 0, .int .i64 0] 270) := ⟨_, rfl⟩
  have k4 : Blk W w.heap.size 227 #[.int .i64 0, .int .i64 0, .int .i64 0] := by rw [hW]; exact ((Blk.new _ _ _).alloc _).alloc _
  have k5 : Blk W (w.heap.size + 1) 227 #[.int .i64 10, .int .i64 0, .int .i64 3] := by rw [hW]; exact (Blk.newAt (by simp)).alloc _
  have k6 : Blk W (w.heap.size + 1 + 1) 270 #[.slice none 0 0, .int .i64 0] := by rw [hW]; exact Blk.newAt (by simp)
  have b : Below w.heap.size w W := by rw [hW]; exact (((Below.refl _ _).alloc (Nat.le_refl _) _).alloc (by simp) _).alloc (by simp; omega) _
  have hJ := hI.below b
  go_enter Tryz.func145, Tryz.ntmps145
  go_upto_region 1 with fail
  rw [← hW]
  clear hW
  obtain ⟨c4, f4, l4⟩ := k4.rules
  obtain ⟨c5, f5, l5⟩ := k5.rules
  go_wp2_with fail
  refine (passagesC_any p _).mono ?_
  rintro e W1 ⟨rfl, hW1⟩
  clear c4 f4 l4 c5 f5 l5
  have hb : Below W.heap.size W W1 := by rw [hW1]; exact (((Below.refl _ _).alloc (Nat.le_refl _) _).alloc (by simp) _).alloc (by simp; omega) _
  have hP : PasL p W.heap.size (W.heap.size + 1) (W.heap.size + 2) 10 3 W1 := ⟨hJ.below hb, by rw [hW1]; exact ((Blk.new _ _ _).alloc _).alloc _, by rw [hW1]; exact (Blk.newAt (by simp)).alloc _, by rw [hW1]; exact Blk.newAt (by simp)⟩
  clear hW1
  replace k6 := k6.below hb
  replace b := b.trans (hb.mono b.size)
  clear hb
  go_wp2_with fail
  refine (firstC_any p _ _ _ _ hP).mono ?_
  rintro e W2 ⟨B, n, c, rfl, hJ2, hb⟩
  have n6 := hP.inv.off k6
  replace k6 := hb.blk k6 k6.lt n6
  have bH := (belowH_of (H := HM p) b).trans (hb.mono b.size)
  clear hb b hP hJ
  obtain ⟨c6, f6, l6⟩ := k6.rules
  have kz := ((k6.set_ 0 (.slice B n c)).set_ 1 (.int .i64 14))
  simp only [sA, sZ, sS] at kz
  have bz := bH.trans (belowH_of ((((Below.refl w.heap.size W2).setCell (p := ⟨w.heap.size + 1 + 1, 0, none⟩) (by dsimp only; omega) (.slice B n c)).setCell (p := ⟨w.heap.size + 1 + 1, 1, none⟩) (by dsimp only; omega) (.int .i64 14))))
  have hJz : InvC p ((W2.setCell ⟨w.heap.size + 1 + 1, 0, none⟩ (.slice B n c)).setCell ⟨w.heap.size + 1 + 1, 1, none⟩ (.int .i64 14)) := (hJ2.set_ hI (by omega) _).set_ hI (by omega) _
  go_wp2
  clear c6 f6 l6
  obtain ⟨c6, f6, l6⟩ := kz.rules
  exact bodyPost_ret (v := .tuple #[.agg #[.slice B n c, .int .i64 14], .bool true]) (by simp [results, Tryz.results145, go_sem, c6]) rfl ⟨_, _, _, rfl, hJz, bz⟩
theorem goesA_any (p : Pl) (w : World) (hI : InvC p w) :
    Calls Tryz.prog 116 #[.agg #[.pointer (some ⟨p.c, 0, none⟩), .map (some p.m2)], .agg #[.int .i64 0, .int .i64 0, .int .i64 0, .int .i64 0], .agg #[.int .i64 0, .int .i64 0]] w fun e w' => e = .returned (.tuple #[.agg #[.int .i64 7, .int .i64 12], .bool true]) ∧ InvC p w' ∧ BelowH (HM p) w.heap.size w w' := by
  obtain ⟨W, hW⟩ : ∃ W, W = (((w.alloc (.cells #[.pointer (some ⟨p.c, 0, none⟩), .map (some p.m2)] 214)).alloc (.cells #[.int .i64 0, .int .i64 0, .int .i64 0, .int .i64 0] 229)).alloc (.cells #[.int .i64 0, .int .i64 0] 224)).alloc (.cells #[.int .i64 0, .int .i64 0] 26) := ⟨_, rfl⟩
  have k3 : Blk W w.heap.size 214 #[.pointer (some ⟨p.c, 0, none⟩), .map (some p.m2)] := by rw [hW]; exact (((Blk.new _ _ _).alloc _).alloc _).alloc _
  have k4 : Blk W (w.heap.size + 1) 229 #[.int .i64 0, .int .i64 0, .int .i64 0, .int .i64 0] := by rw [hW]; exact ((Blk.newAt (by simp)).alloc _).alloc _
  have k5 : Blk W (w.heap.size + 1 + 1) 224 #[.int .i64 0, .int .i64 0] := by rw [hW]; exact (Blk.newAt (by simp)).alloc _
  have k6 : Blk W (w.heap.size + 1 + 1 + 1) 26 #[.int .i64 0, .int .i64 0] := by rw [hW]; exact Blk.newAt (by simp)
  have b : Below w.heap.size w W := by rw [hW]; exact ((((Below.refl _ _).alloc (Nat.le_refl _) _).alloc (by simp) _).alloc (by simp; omega) _).alloc (by simp; omega) _
  have hs : w.heap.size + 4 ≤ W.heap.size := by rw [hW]; simp
  have hJ := hI.below b
  go_enter Tryz.func116, Tryz.ntmps116
  go_upto_region 1 with fail
  rw [← hW]
  clear hW
  obtain ⟨c3, f3, l3⟩ := k3.rules
  obtain ⟨c5, f5, l5⟩ := k5.rules
  go_wp2_with fail
  refine (endsA_any p _ hJ).mono ?_
  rintro e W1 ⟨rfl, hb⟩
  clear c3 f3 l3 c5 f5 l5
  replace hs := Nat.le_trans hs hb.size
  replace k3 := k3.below hb
  replace k4 := k4.below hb
  replace k5 := k5.below hb
  replace k6 := k6.below hb
  replace hJ := hJ.below hb
  replace b := b.trans (hb.mono b.size)
  clear hb
  have hb := ((Below.refl W1.heap.size W1).alloc (Nat.le_refl _) (.cells #[.int .i64 0, .int .i64 0, .int .i64 0] 227)).alloc (by simp) (.cells #[.int .i64 10, .int .i64 0, .int .i64 0] 227)
  have k8 := (Blk.new W1 227 #[.int .i64 0, .int .i64 0, .int .i64 0]).alloc (.cells #[.int .i64 10, .int .i64 0, .int .i64 0] 227)
  go_upto_region 2 with fail
  replace k3 := k3.below hb
  replace k4 := k4.below hb
  replace k5 := k5.below hb
  replace k6 := k6.below hb
  replace hJ := hJ.below hb
  replace b := b.trans (hb.mono b.size)
  clear hb
  generalize (W1.alloc (.cells #[.int .i64 0, .int .i64 0, .int .i64 0] 227)).alloc (.cells #[.int .i64 10, .int .i64 0, .int .i64 0] 227) = W2 at *
  generalize W1.heap.size = g8 at *
  obtain ⟨c4, f4, l4⟩ := k4.rules
  obtain ⟨c8, f8, l8⟩ := k8.rules
  have hb := (Below.refl W2.heap.size W2).alloc (Nat.le_refl _) (.cells #[.int .i64 0, .int .i64 0, .int .i64 0, .int .i64 0, .int .i64 0, .int .i64 0] 268)
  have k10 := Blk.new W2 268 #[.int .i64 0, .int .i64 0, .int .i64 0, .int .i64 0, .int .i64 0, .int .i64 0]
  go_upto_region 3 with fail
  clear c4 f4 l4 c8 f8 l8
  replace k3 := k3.below hb
  replace k4 := k4.below hb
  replace k5 := k5.below hb
  replace k6 := k6.below hb
  replace k8 := k8.below hb
  replace hJ := hJ.below hb
  replace b := b.trans (hb.mono b.size)
  clear hb
  generalize W2.alloc (.cells #[.int .i64 0, .int .i64 0, .int .i64 0, .int .i64 0, .int .i64 0, .int .i64 0] 268) = W3 at *
  generalize W2.heap.size = g10 at *
  obtain ⟨f, hco⟩ := hJ.co
  have hlook := hco.look false
  simp only [kvCo] at hlook
  cases hf : f false with
  | true =>
    simp only [hf, cst, if_true, if_false, Bool.false_eq_true, reduceIte] at hlook
    obtain ⟨c3, f3, l3⟩ := k3.rules
    obtain ⟨c10, f10, l10⟩ := k10.rules
    have bH := belowH_of (H := HM p) b
    have hV := hJ
    obtain ⟨c4, f4, l4⟩ := k4.rules
    obtain ⟨c5, f5, l5⟩ := k5.rules
    go_wp2_with fail
    refine (shotA_any p _ hV).mono ?_
    rintro e W8 ⟨rfl, hJ8, hb⟩
    clear c3 f3 l3 c4 f4 l4 c5 f5 l5 c10 f10 l10 hlook
    replace k6 := hb.blk k6 k6.lt (hV.off k6)
    replace bH := bH.trans (hb.mono bH.size)
    clear hb hV
    obtain ⟨c6, f6, l6⟩ := k6.rules
    have kz := ((k6.set_ 0 (.int .i64 7)).set_ 1 (.int .i64 12))
    simp only [sA, sZ, sS] at kz
    have bz := bH.trans (belowH_of ((((Below.refl w.heap.size W8).setCell (p := ⟨w.heap.size + 1 + 1 + 1, 0, none⟩) (by dsimp only; omega) (.int .i64 7)).setCell (p := ⟨w.heap.size + 1 + 1 + 1, 1, none⟩) (by dsimp only; omega) (.int .i64 12))))
    have hJz : InvC p ((W8.setCell ⟨w.heap.size + 1 + 1 + 1, 0, none⟩ (.int .i64 7)).setCell ⟨w.heap.size + 1 + 1 + 1, 1, none⟩ (.int .i64 12)) := (hJ8.set_ hI (by omega) _).set_ hI (by omega) _
    go_wp2
    clear c6 f6 l6
    obtain ⟨c6, f6, l6⟩ := kz.rules
    exact bodyPost_ret (v := .tuple #[.agg #[.int .i64 7, .int .i64 12], .bool true]) (by simp [results, Tryz.results116, go_sem, c6]) rfl ⟨rfl, hJz, bz⟩
  | false =>
    simp only [hf, cst, if_true, if_false, Bool.false_eq_true, reduceIte] at hlook
    obtain ⟨c3, f3, l3⟩ := k3.rules
    obtain ⟨c10, f10, l10⟩ := k10.rules
    have bH := belowH_of (H := HM p) b
    obtain ⟨c4, f4, l4⟩ := k4.rules
    go_wp2_with fail
    refine (validA_any _).mono ?_
    rintro e W4 ⟨rfl, hb⟩
    clear c3 f3 l3 c10 f10 l10 c4 f4 l4 hlook
    replace bH := bH.trans (belowH_of (hb.mono bH.size))
    replace k3 := k3.below hb
    replace k4 := k4.below hb
    replace k5 := k5.below hb
    replace k6 := k6.below hb
    replace k8 := k8.below hb
    replace k10 := k10.below hb
    replace hJ := hJ.below hb
    replace b := b.trans (hb.mono b.size)
    clear hb
    obtain ⟨c3, f3, l3⟩ := k3.rules
    obtain ⟨c4, f4, l4⟩ := k4.rules
    obtain ⟨c8, f8, l8⟩ := k8.rules
    go_wp2_with fail
    refine (bestA_any p _ hJ).mono ?_
    rintro e W5 ⟨B, n, c, rfl, hJ5, hb⟩
    clear c3 f3 l3 c4 f4 l4 c8 f8 l8
    replace k3 := hb.blk k3 k3.lt (hJ.off k3)
    replace k4 := hb.blk k4 k4.lt (hJ.off k4)
    replace k5 := hb.blk k5 k5.lt (hJ.off k5)
    replace k6 := hb.blk k6 k6.lt (hJ.off k6)
    replace k10 := hb.blk k10 k10.lt (hJ.off k10)
    replace bH := bH.trans (hb.mono bH.size)
    clear hb hJ b hco k8
    have hJ := hJ5
    clear hJ5
    have hb := (Below.refl W5.heap.size W5).alloc (Nat.le_refl _) (.cells #[.slice B n c, .int .i64 0] 270)
    have k13 := Blk.new W5 270 #[.slice B n c, .int .i64 0]
    go_upto_region 8 with fail
    replace k3 := k3.below hb
    replace k4 := k4.below hb
    replace k5 := k5.below hb
    replace k6 := k6.below hb
    replace k10 := k10.below hb
    replace hJ := hJ.below hb
    replace bH := bH.trans (belowH_of (hb.mono bH.size))
    clear hb
    generalize W5.alloc (.cells #[.slice B n c, .int .i64 0] 270) = W6 at *
    generalize W5.heap.size = g13 at *
    obtain ⟨f2, hco2⟩ := hJ.co
    obtain ⟨W7, hrun, hco3, hgr⟩ := hco2.store false
    simp only [kvCo, cst] at hrun
    have hm2 : HM p p.m2 := .inr rfl
    have hV := hJ.putCo hgr hco3
    have k3n : some (w.heap.size) ≠ some p.m2 := fun e => hJ.off k3 (by rw [Option.some.inj e]; exact hm2)
    have k4n : some (w.heap.size + 1) ≠ some p.m2 := fun e => hJ.off k4 (by rw [Option.some.inj e]; exact hm2)
    have k5n : some (w.heap.size + 1 + 1) ≠ some p.m2 := fun e => hJ.off k5 (by rw [Option.some.inj e]; exact hm2)
    have k6n : some (w.heap.size + 1 + 1 + 1) ≠ some p.m2 := fun e => hJ.off k6 (by rw [Option.some.inj e]; exact hm2)
    obtain ⟨c3, f3, l3⟩ := k3.rules
    obtain ⟨c10, f10, l10⟩ := k10.rules
    obtain ⟨c13, f13, l13⟩ := k13.rules
    go_upto_region 11 with fail
    clear c3 f3 l3 c10 f10 l10 c13 f13 l13 k10 k13 hrun
    replace k3 := k3.grown hgr k3n
    replace k4 := k4.grown hgr k4n
    replace k5 := k5.grown hgr k5n
    replace k6 := k6.grown hgr k6n
    replace bH := bH.trans ((BelowH.grown hgr hm2 (Nat.le_refl _)).mono bH.size)
    clear hgr hJ hco2 hco3 k3n k4n k5n k6n
    obtain ⟨c3, f3, l3⟩ := k3.rules
    obtain ⟨c4, f4, l4⟩ := k4.rules
    obtain ⟨c5, f5, l5⟩ := k5.rules
    go_wp2_with fail
    refine (shotA_any p _ hV).mono ?_
    rintro e W8 ⟨rfl, hJ8, hb⟩
    clear c3 f3 l3 c4 f4 l4 c5 f5 l5
    replace k6 := hb.blk k6 k6.lt (hV.off k6)
    replace bH := bH.trans (hb.mono bH.size)
    clear hb hV
    obtain ⟨c6, f6, l6⟩ := k6.rules
    have kz := ((k6.set_ 0 (.int .i64 7)).set_ 1 (.int .i64 12))
    simp only [sA, sZ, sS] at kz
    have bz := bH.trans (belowH_of ((((Below.refl w.heap.size W8).setCell (p := ⟨w.heap.size + 1 + 1 + 1, 0, none⟩) (by dsimp only; omega) (.int .i64 7)).setCell (p := ⟨w.heap.size + 1 + 1 + 1, 1, none⟩) (by dsimp only; omega) (.int .i64 12))))
    have hJz : InvC p ((W8.setCell ⟨w.heap.size + 1 + 1 + 1, 0, none⟩ (.int .i64 7)).setCell ⟨w.heap.size + 1 + 1 + 1, 1, none⟩ (.int .i64 12)) := (hJ8.set_ hI (by omega) _).set_ hI (by omega) _
    go_wp2
    clear c6 f6 l6
    obtain ⟨c6, f6, l6⟩ := kz.rules
    exact bodyPost_ret (v := .tuple #[.agg #[.int .i64 7, .int .i64 12], .bool true]) (by simp [results, Tryz.results116, go_sem, c6]) rfl ⟨rfl, hJz, bz⟩
theorem goesB_any (p : Pl) (w : World) (hI : InvC p w) :
    Calls Tryz.prog 116 #[.agg #[.pointer (some ⟨p.c, 0, none⟩), .map (some p.m2)], .agg #[.int .i64 0, .int .i64 0, .int .i64 0, .int .i64 0], .agg #[.int .i64 0, .int .i64 1]] w fun e w' => e = .returned (.tuple #[.agg #[.int .i64 14, .int .i64 19], .bool true]) ∧ InvC p w' ∧ BelowH (HM p) w.heap.size w w' := by
  obtain ⟨W, hW⟩ : ∃ W, W = (((w.alloc (.cells #[.pointer (some ⟨p.c, 0, none⟩), .map (some p.m2)] 214)).alloc (.cells #[.int .i64 0, .int .i64 0, .int .i64 0, .int .i64 0] 229)).alloc (.cells #[.int .i64 0, .int .i64 1] 224)).alloc (.cells #[.int .i64 0, .int .i64 0] 26) := ⟨_, rfl⟩
  have k3 : Blk W w.heap.size 214 #[.pointer (some ⟨p.c, 0, none⟩), .map (some p.m2)] := by rw [hW]; exact (((Blk.new _ _ _).alloc _).alloc _).alloc _
  have k4 : Blk W (w.heap.size + 1) 229 #[.int .i64 0, .int .i64 0, .int .i64 0, .int .i64 0] := by rw [hW]; exact ((Blk.newAt (by simp)).alloc _).alloc _
  have k5 : Blk W (w.heap.size + 1 + 1) 224 #[.int .i64 0, .int .i64 1] := by rw [hW]; exact (Blk.newAt (by simp)).alloc _
  have k6 : Blk W (w.heap.size + 1 + 1 + 1) 26 #[.int .i64 0, .int .i64 0] := by rw [hW]; exact Blk.newAt (by simp)
  have b : Below w.heap.size w W := by rw [hW]; exact ((((Below.refl _ _).alloc (Nat.le_refl _) _).alloc (by simp) _).alloc (by simp; omega) _).alloc (by simp; omega) _
  have hs : w.heap.size + 4 ≤ W.heap.size := by rw [hW]; simp
  have hJ := hI.below b
  go_enter Tryz.func116, Tryz.ntmps116
  go_upto_region 1 with fail
  rw [← hW]
  clear hW
  obtain ⟨c3, f3, l3⟩ := k3.rules
  obtain ⟨c5, f5, l5⟩ := k5.rules
  go_wp2_with fail
  refine (endsB_any p _ hJ).mono ?_
  rintro e W1 ⟨rfl, hb⟩
  clear c3 f3 l3 c5 f5 l5
  replace hs := Nat.le_trans hs hb.size
  replace k3 := k3.below hb
  replace k4 := k4.below hb
  replace k5 := k5.below hb
  replace k6 := k6.below hb
  replace hJ := hJ.below hb
  replace b := b.trans (hb.mono b.size)
  clear hb
  have hb := ((Below.refl W1.heap.size W1).alloc (Nat.le_refl _) (.cells #[.int .i64 10, .int .i64 0, .int .i64 3] 227)).alloc (by simp) (.cells #[.int .i64 0, .int .i64 0, .int .i64 3] 227)
  have k8 := (Blk.new W1 227 #[.int .i64 10, .int .i64 0, .int .i64 3]).alloc (.cells #[.int .i64 0, .int .i64 0, .int .i64 3] 227)
  go_upto_region 2 with fail
  replace k3 := k3.below hb
  replace k4 := k4.below hb
  replace k5 := k5.below hb
  replace k6 := k6.below hb
  replace hJ := hJ.below hb
  replace b := b.trans (hb.mono b.size)
  clear hb
  generalize (W1.alloc (.cells #[.int .i64 10, .int .i64 0, .int .i64 3] 227)).alloc (.cells #[.int .i64 0, .int .i64 0, .int .i64 3] 227) = W2 at *
  generalize W1.heap.size = g8 at *
  obtain ⟨c4, f4, l4⟩ := k4.rules
  obtain ⟨c8, f8, l8⟩ := k8.rules
  have hb := (Below.refl W2.heap.size W2).alloc (Nat.le_refl _) (.cells #[.int .i64 0, .int .i64 0, .int .i64 0, .int .i64 10, .int .i64 0, .int .i64 3] 268)
  have k10 := Blk.new W2 268 #[.int .i64 0, .int .i64 0, .int .i64 0, .int .i64 10, .int .i64 0, .int .i64 3]
  go_upto_region 3 with fail
  clear c4 f4 l4 c8 f8 l8
  replace k3 := k3.below hb
  replace k4 := k4.below hb
  replace k5 := k5.below hb
  replace k6 := k6.below hb
  replace k8 := k8.below hb
  replace hJ := hJ.below hb
  replace b := b.trans (hb.mono b.size)
  clear hb
  generalize W2.alloc (.cells #[.int .i64 0, .int .i64 0, .int .i64 0, .int .i64 10, .int .i64 0, .int .i64 3] 268) = W3 at *
  generalize W2.heap.size = g10 at *
  obtain ⟨f, hco⟩ := hJ.co
  have hlook := hco.look true
  simp only [kvCo] at hlook
  cases hf : f true with
  | true =>
    simp only [hf, cst, if_true, if_false, Bool.false_eq_true, reduceIte] at hlook
    obtain ⟨c3, f3, l3⟩ := k3.rules
    obtain ⟨c10, f10, l10⟩ := k10.rules
    have bH := belowH_of (H := HM p) b
    have hV := hJ
    obtain ⟨c4, f4, l4⟩ := k4.rules
    obtain ⟨c5, f5, l5⟩ := k5.rules
    go_wp2_with fail
    refine (shotB_any p _ hV).mono ?_
    rintro e W8 ⟨rfl, hJ8, hb⟩
    clear c3 f3 l3 c4 f4 l4 c5 f5 l5 c10 f10 l10 hlook
    replace k6 := hb.blk k6 k6.lt (hV.off k6)
    replace bH := bH.trans (hb.mono bH.size)
    clear hb hV
    obtain ⟨c6, f6, l6⟩ := k6.rules
    have kz := ((k6.set_ 0 (.int .i64 14)).set_ 1 (.int .i64 19))
    simp only [sA, sZ, sS] at kz
    have bz := bH.trans (belowH_of ((((Below.refl w.heap.size W8).setCell (p := ⟨w.heap.size + 1 + 1 + 1, 0, none⟩) (by dsimp only; omega) (.int .i64 14)).setCell (p := ⟨w.heap.size + 1 + 1 + 1, 1, none⟩) (by dsimp only; omega) (.int .i64 19))))
    have hJz : InvC p ((W8.setCell ⟨w.heap.size + 1 + 1 + 1, 0, none⟩ (.int .i64 14)).setCell ⟨w.heap.size + 1 + 1 + 1, 1, none⟩ (.int .i64 19)) := (hJ8.set_ hI (by omega) _).set_ hI (by omega) _
    go_wp2
    clear c6 f6 l6
    obtain ⟨c6, f6, l6⟩ := kz.rules
    exact bodyPost_ret (v := .tuple #[.agg #[.int .i64 14, .int .i64 19], .bool true]) (by simp [results, Tryz.results116, go_sem, c6]) rfl ⟨rfl, hJz, bz⟩
  | false =>
    simp only [hf, cst, if_true, if_false, Bool.false_eq_true, reduceIte] at hlook
    obtain ⟨c3, f3, l3⟩ := k3.rules
    obtain ⟨c10, f10, l10⟩ := k10.rules
    have bH := belowH_of (H := HM p) b
    obtain ⟨c4, f4, l4⟩ := k4.rules
    go_wp2_with fail
    refine (validA_any _).mono ?_
    rintro e W4 ⟨rfl, hb⟩
    clear c3 f3 l3 c10 f10 l10 c4 f4 l4 hlook
    replace bH := bH.trans (belowH_of (hb.mono bH.size))
    replace k3 := k3.below hb
    replace k4 := k4.below hb
    replace k5 := k5.below hb
    replace k6 := k6.below hb
    replace k8 := k8.below hb
    replace k10 := k10.below hb
    replace hJ := hJ.below hb
    replace b := b.trans (hb.mono b.size)
    clear hb
    obtain ⟨c3, f3, l3⟩ := k3.rules
    obtain ⟨c4, f4, l4⟩ := k4.rules
    obtain ⟨c8, f8, l8⟩ := k8.rules
    go_wp2_with fail
    refine (bestC_any p _ hJ).mono ?_
    rintro e W5 ⟨B, n, c, rfl, hJ5, hb⟩
    clear c3 f3 l3 c4 f4 l4 c8 f8 l8
    replace k3 := hb.blk k3 k3.lt (hJ.off k3)
    replace k4 := hb.blk k4 k4.lt (hJ.off k4)
    replace k5 := hb.blk k5 k5.lt (hJ.off k5)
    replace k6 := hb.blk k6 k6.lt (hJ.off k6)
    replace k10 := hb.blk k10 k10.lt (hJ.off k10)
    replace bH := bH.trans (hb.mono bH.size)
    clear hb hJ b hco k8
    have hJ := hJ5
    clear hJ5
    have hb := (Below.refl W5.heap.size W5).alloc (Nat.le_refl _) (.cells #[.slice B n c, .int .i64 14] 270)
    have k13 := Blk.new W5 270 #[.slice B n c, .int .i64 14]
    go_upto_region 8 with fail
    replace k3 := k3.below hb
    replace k4 := k4.below hb
    replace k5 := k5.below hb
    replace k6 := k6.below hb
    replace k10 := k10.below hb
    replace hJ := hJ.below hb
    replace bH := bH.trans (belowH_of (hb.mono bH.size))
    clear hb
    generalize W5.alloc (.cells #[.slice B n c, .int .i64 14] 270) = W6 at *
    generalize W5.heap.size = g13 at *
    obtain ⟨f2, hco2⟩ := hJ.co
    obtain ⟨W7, hrun, hco3, hgr⟩ := hco2.store true
    simp only [kvCo, cst] at hrun
    have hm2 : HM p p.m2 := .inr rfl
    have hV := hJ.putCo hgr hco3
    have k3n : some (w.heap.size) ≠ some p.m2 := fun e => hJ.off k3 (by rw [Option.some.inj e]; exact hm2)
    have k4n : some (w.heap.size + 1) ≠ some p.m2 := fun e => hJ.off k4 (by rw [Option.some.inj e]; exact hm2)
    have k5n : some (w.heap.size + 1 + 1) ≠ some p.m2 := fun e => hJ.off k5 (by rw [Option.some.inj e]; exact hm2)
    have k6n : some (w.heap.size + 1 + 1 + 1) ≠ some p.m2 := fun e => hJ.off k6 (by rw [Option.some.inj e]; exact hm2)
    obtain ⟨c3, f3, l3⟩ := k3.rules
    obtain ⟨c10, f10, l10⟩ := k10.rules
    obtain ⟨c13, f13, l13⟩ := k13.rules
    go_upto_region 11 with fail
    clear c3 f3 l3 c10 f10 l10 c13 f13 l13 k10 k13 hrun
    replace k3 := k3.grown hgr k3n
    replace k4 := k4.grown hgr k4n
    replace k5 := k5.grown hgr k5n
    replace k6 := k6.grown hgr k6n
    replace bH := bH.trans ((BelowH.grown hgr hm2 (Nat.le_refl _)).mono bH.size)
    clear hgr hJ hco2 hco3 k3n k4n k5n k6n
    obtain ⟨c3, f3, l3⟩ := k3.rules
    obtain ⟨c4, f4, l4⟩ := k4.rules
    obtain ⟨c5, f5, l5⟩ := k5.rules
    go_wp2_with fail
    refine (shotB_any p _ hV).mono ?_
    rintro e W8 ⟨rfl, hJ8, hb⟩
    clear c3 f3 l3 c4 f4 l4 c5 f5 l5
    replace k6 := hb.blk k6 k6.lt (hV.off k6)
    replace bH := bH.trans (hb.mono bH.size)
    clear hb hV
    obtain ⟨c6, f6, l6⟩ := k6.rules
    have kz := ((k6.set_ 0 (.int .i64 14)).set_ 1 (.int .i64 19))
    simp only [sA, sZ, sS] at kz
    have bz := bH.trans (belowH_of ((((Below.refl w.heap.size W8).setCell (p := ⟨w.heap.size + 1 + 1 + 1, 0, none⟩) (by dsimp only; omega) (.int .i64 14)).setCell (p := ⟨w.heap.size + 1 + 1 + 1, 1, none⟩) (by dsimp only; omega) (.int .i64 19))))
    have hJz : InvC p ((W8.setCell ⟨w.heap.size + 1 + 1 + 1, 0, none⟩ (.int .i64 14)).setCell ⟨w.heap.size + 1 + 1 + 1, 1, none⟩ (.int .i64 19)) := (hJ8.set_ hI (by omega) _).set_ hI (by omega) _
    go_wp2
    clear c6 f6 l6
    obtain ⟨c6, f6, l6⟩ := kz.rules
    exact bodyPost_ret (v := .tuple #[.agg #[.int .i64 14, .int .i64 19], .bool true]) (by simp [results, Tryz.results116, go_sem, c6]) rfl ⟨rfl, hJz, bz⟩
end Go.Proofs.YtcmbmmpihiekhaaGreat
