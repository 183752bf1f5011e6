/-
  Shots, walks: the chapter's examples.
-/
import Derived.Test.YtfengddpfeneiaaGreatS27
namespace Go.Proofs.YtfengddpfeneiaaGreat
open Go.RowKit Go.Shelf
set_option linter.unusedSimpArgs false
set_option linter.unusedVariables false
set_option maxRecDepth 100000 in
set_option maxHeartbeats 8000000 in
theorem works_any (w : World) : Calls Tryz.prog 10 #[] w fun e w' => e = .returned (.bool true) ∧ Below w.heap.size w w' := by
  have b := Below.refl w.heap.size w
  go_enter Tryz.func10, Tryz.ntmps10
  go_wp2_with fail
  refine (gunsE_any _).mono ?_
  rintro e w1 ⟨S1, G1, rfl, hs1, hg1, hb⟩
  replace b := b.trans (hb.mono b.size)
  replace hs1 := hs1.mono (Nat.zero_le _)
  replace hg1 := hg1.mono (Nat.zero_le _)
  clear hb
  replace hs1 := hs1.alloc (.cells #[.int .i64 1, .int .i64 0] 3)
  replace hg1 := hg1.alloc (.cells #[.int .i64 1, .int .i64 0] 3)
  have i1 := (SlAt.of_blk (enc := ivs) (s := 1) (Blk.new w1 3 #[.int .i64 1, .int .i64 0]) (fun _ => rfl) [(1 : Int), (0 : Int)] rfl (by decide)).mono (Nat.zero_le _)
  replace b := b.alloc b.size (.cells #[.int .i64 1, .int .i64 0] 3)
  have hC := Signature_any gunsA S1 G1 _ 2 2 2 2 2 2 [1, 0] _ hs1 hg1 i1
  rw [sig1] at hC
  go_wp2_with fail
  refine (hC).mono ?_
  rintro e w2 ⟨O_ra, n_ra, c_ra, rfl, ra, hb⟩
  replace hs1 := hs1.below hb
  replace hg1 := hg1.below hb
  replace i1 := i1.below hb
  replace b := b.trans (hb.mono b.size)
  replace ra := ra.mono (Nat.zero_le _)
  clear hb
  clear hC
  clear hs1
  clear hg1
  clear i1
  go_wp2_with fail
  refine (gunsE_any _).mono ?_
  rintro e w3 ⟨S2, G2, rfl, hs2, hg2, hb⟩
  replace ra := ra.below hb
  replace b := b.trans (hb.mono b.size)
  replace hs2 := hs2.mono (Nat.zero_le _)
  replace hg2 := hg2.mono (Nat.zero_le _)
  clear hb
  have hC := sEnclose_any gunsA S2 G2 2 2 2 2 _ hs2 hg2
  rw [enc1] at hC
  go_wp2_with fail
  refine (hC).mono ?_
  rintro e w4 ⟨O_rb, n_rb, c_rb, rfl, rb, hb⟩
  replace ra := ra.below hb
  replace hs2 := hs2.below hb
  replace hg2 := hg2.below hb
  replace b := b.trans (hb.mono b.size)
  replace rb := rb.mono (Nat.zero_le _)
  clear hb
  clear hC
  clear hs2
  clear hg2
  go_wp2_with fail
  refine (gunsE_any _).mono ?_
  rintro e w5 ⟨S3, G3, rfl, hs3, hg3, hb⟩
  replace ra := ra.below hb
  replace rb := rb.below hb
  replace b := b.trans (hb.mono b.size)
  replace hs3 := hs3.mono (Nat.zero_le _)
  replace hg3 := hg3.mono (Nat.zero_le _)
  clear hb
  have hC := Worst_any gunsA S3 G3 2 2 2 2 _ hs3 hg3
  unfold RetWo at hC
  rw [worst0] at hC
  go_wp2_with fail
  refine (hC).mono ?_
  rintro e w6 ⟨O_rw, n_rw, c_rw, rfl, rw_, hb⟩
  replace ra := ra.below hb
  replace rb := rb.below hb
  replace hs3 := hs3.below hb
  replace hg3 := hg3.below hb
  replace b := b.trans (hb.mono b.size)
  replace rw_ := rw_.mono (Nat.zero_le _)
  clear hb
  clear hC
  clear hs3
  clear hg3
  go_wp2_with fail
  refine (gunsE_any _).mono ?_
  rintro e w7 ⟨S4, G4, rfl, hs4, hg4, hb⟩
  replace ra := ra.below hb
  replace rb := rb.below hb
  replace rw_ := rw_.below hb
  replace b := b.trans (hb.mono b.size)
  replace hs4 := hs4.mono (Nat.zero_le _)
  replace hg4 := hg4.mono (Nat.zero_le _)
  clear hb
  have hC := Losses_any gunsA 5 1 S4 G4 2 2 2 2 _ hs4 hg4
  rw [loss0] at hC
  go_wp2_with fail
  refine (hC).mono ?_
  rintro e w8 ⟨O_rl, n_rl, c_rl, rfl, rl, hb⟩
  replace ra := ra.below hb
  replace rb := rb.below hb
  replace rw_ := rw_.below hb
  replace hs4 := hs4.below hb
  replace hg4 := hg4.below hb
  replace b := b.trans (hb.mono b.size)
  replace rl := rl.mono (Nat.zero_le _)
  clear hb
  clear hC
  clear hs4
  clear hg4
  obtain rfl : n_ra = 50 := by have := ra.len; rw [sA_len] at this; exact this.symm
  obtain rfl : n_rb = 50 := by have := rb.len; rw [eA_len] at this; exact this.symm
  obtain ⟨ba, oa, rfl, -⟩ := ra.2.2.2 (by decide)
  obtain ⟨bb, ob, rfl, -⟩ := rb.2.2.2 (by decide)
  have ca := ra.lec
  have cb := rb.lec
  have qa := ra.subL 16 5 (by decide)
  have qb := rb.subL 16 4 (by decide)
  rw [sA_sub] at qa
  rw [eA_sub] at qb
  clear ra
  clear rb
  replace rw_ := rw_.alloc (.cells #[.int .i64 0, .int .i64 12, .int .i64 (-2), .int .i64 (-2), .int .i64 0] 3)
  replace qa := qa.alloc (.cells #[.int .i64 0, .int .i64 12, .int .i64 (-2), .int .i64 (-2), .int .i64 0] 3)
  replace qb := qb.alloc (.cells #[.int .i64 0, .int .i64 12, .int .i64 (-2), .int .i64 (-2), .int .i64 0] 3)
  replace rl := rl.below ((Below.refl _ _).alloc (Nat.le_refl _) (.cells #[.int .i64 0, .int .i64 12, .int .i64 (-2), .int .i64 (-2), .int .i64 0] 3))
  have i1 := (SlAt.of_blk (enc := ivs) (s := 1) (Blk.new w8 3 #[.int .i64 0, .int .i64 12, .int .i64 (-2), .int .i64 (-2), .int .i64 0]) (fun _ => rfl) [(0 : Int), (12 : Int), (-2 : Int), (-2 : Int), (0 : Int)] rfl (by decide)).mono (Nat.zero_le _)
  replace b := b.alloc b.size (.cells #[.int .i64 0, .int .i64 12, .int .i64 (-2), .int .i64 (-2), .int .i64 0] 3)
  have hC := Alike_any _ _ 5 _ 5 5 0 0 _ [0, 12, -2, -2, 0] _ qa i1
  rw [decide_eq_true rfl] at hC
  go_wp2_with fail
  refine (hC).mono ?_
  rintro e w9 ⟨rfl, hb⟩
  replace rw_ := rw_.below hb
  replace qa := qa.below hb
  replace qb := qb.below hb
  replace i1 := i1.below hb
  replace rl := rl.below hb
  replace b := b.trans (hb.mono b.size)
  clear hb
  clear hC
  clear qa
  clear i1
  replace rw_ := rw_.alloc (.cells #[.int .i64 0, .int .i64 12, .int .i64 (-6), .int .i64 12, .int .i64 (-2), .int .i64 4, .int .i64 (-2), .int .i64 (-2)] 40)
  replace qb := qb.alloc (.cells #[.int .i64 0, .int .i64 12, .int .i64 (-6), .int .i64 12, .int .i64 (-2), .int .i64 4, .int .i64 (-2), .int .i64 (-2)] 40)
  replace rl := rl.below ((Below.refl _ _).alloc (Nat.le_refl _) (.cells #[.int .i64 0, .int .i64 12, .int .i64 (-6), .int .i64 12, .int .i64 (-2), .int .i64 4, .int .i64 (-2), .int .i64 (-2)] 40))
  have i1 := (SlAt.of_blk (enc := Bnd.cells) (s := 2) (Blk.new w9 40 #[.int .i64 0, .int .i64 12, .int .i64 (-6), .int .i64 12, .int .i64 (-2), .int .i64 4, .int .i64 (-2), .int .i64 (-2)]) (fun _ => rfl) [⟨0, 12⟩, ⟨-6, 12⟩, ⟨-2, 4⟩, ⟨-2, -2⟩] rfl (by decide)).mono (Nat.zero_le _)
  replace b := b.alloc b.size (.cells #[.int .i64 0, .int .i64 12, .int .i64 (-6), .int .i64 12, .int .i64 (-2), .int .i64 4, .int .i64 (-2), .int .i64 (-2)] 40)
  have hC := alikeB_any _ _ 4 _ 4 4 0 0 _ [⟨0, 12⟩, ⟨-6, 12⟩, ⟨-2, 4⟩, ⟨-2, -2⟩] _ qb i1
  rw [decide_eq_true rfl] at hC
  go_wp2_with fail
  refine (hC).mono ?_
  rintro e w10 ⟨rfl, hb⟩
  replace rw_ := rw_.below hb
  replace qb := qb.below hb
  replace i1 := i1.below hb
  replace rl := rl.below hb
  replace b := b.trans (hb.mono b.size)
  clear hb
  clear hC
  clear qb
  clear i1
  replace rw_ := rw_.alloc (.cells #[.int .i64 1, .int .i64 0] 3)
  replace rl := rl.below ((Below.refl _ _).alloc (Nat.le_refl _) (.cells #[.int .i64 1, .int .i64 0] 3))
  have i1 := (SlAt.of_blk (enc := ivs) (s := 1) (Blk.new w10 3 #[.int .i64 1, .int .i64 0]) (fun _ => rfl) [(1 : Int), (0 : Int)] rfl (by decide)).mono (Nat.zero_le _)
  replace b := b.alloc b.size (.cells #[.int .i64 1, .int .i64 0] 3)
  have hC := Alike_any O_rw _ n_rw c_rw 2 2 0 0 _ [1, 0] _ rw_ i1
  rw [decide_eq_true rfl] at hC
  go_wp2_with fail
  refine (hC).mono ?_
  rintro e w11 ⟨rfl, hb⟩
  replace rw_ := rw_.below hb
  replace i1 := i1.below hb
  replace rl := rl.below hb
  replace b := b.trans (hb.mono b.size)
  clear hb
  clear hC
  clear rw_
  clear i1
  replace rl := rl.below ((Below.refl _ _).alloc (Nat.le_refl _) (.cells #[.int .i64 0] 3))
  have i1 := (SlAt.of_blk (enc := ivs) (s := 1) (Blk.new w11 3 #[.int .i64 0]) (fun _ => rfl) [(0 : Int)] rfl (by decide)).mono (Nat.zero_le _)
  replace b := b.alloc b.size (.cells #[.int .i64 0] 3)
  replace i1 := i1.alloc (.cells #[.int .i64 1] 3)
  replace rl := rl.below ((Below.refl _ _).alloc (Nat.le_refl _) (.cells #[.int .i64 1] 3))
  have i2 := (SlAt.of_blk (enc := ivs) (s := 1) (Blk.new (w11.alloc (.cells #[.int .i64 0] 3)) 3 #[.int .i64 1]) (fun _ => rfl) [(1 : Int)] rfl (by decide)).mono (Nat.zero_le _)
  simp only [World.size_alloc] at i2
  replace b := b.alloc b.size (.cells #[.int .i64 1] 3)
  replace i1 := i1.alloc (.cells #[.slice (some ⟨w11.heap.size, 0, none⟩) 1 1, .slice (some ⟨w11.heap.size + 1, 0, none⟩) 1 1] 36)
  replace i2 := i2.alloc (.cells #[.slice (some ⟨w11.heap.size, 0, none⟩) 1 1, .slice (some ⟨w11.heap.size + 1, 0, none⟩) 1 1] 36)
  replace rl := rl.below ((Below.refl _ _).alloc (Nat.le_refl _) (.cells #[.slice (some ⟨w11.heap.size, 0, none⟩) 1 1, .slice (some ⟨w11.heap.size + 1, 0, none⟩) 1 1] 36))
  have kl := Blk.new ((w11.alloc (.cells #[.int .i64 0] 3)).alloc (.cells #[.int .i64 1] 3)) 36 #[.slice (some ⟨w11.heap.size, 0, none⟩) 1 1, .slice (some ⟨w11.heap.size + 1, 0, none⟩) 1 1]
  simp only [World.size_alloc] at kl
  replace b := b.alloc b.size (.cells #[.slice (some ⟨w11.heap.size, 0, none⟩) 1 1, .slice (some ⟨w11.heap.size + 1, 0, none⟩) 1 1] 36)
  have hL : LLs (((w11.alloc (.cells #[.int .i64 0] 3)).alloc (.cells #[.int .i64 1] 3)).alloc (.cells #[.slice (some ⟨w11.heap.size, 0, none⟩) 1 1, .slice (some ⟨w11.heap.size + 1, 0, none⟩) 1 1] 36)) 0 (some ⟨w11.heap.size + 1 + 1, 0, none⟩) 2 2 [[0], [1]] := lls2 kl i1 i2
  clear kl
  have hC := AlikeLists_any O_rl _ n_rl c_rl 2 2 0 0 _ [[0], [1]] _ rl hL
  rw [decide_eq_true rfl] at hC
  go_wp2_with fail
  refine (hC).mono ?_
  rintro e w12 ⟨rfl, hb⟩
  replace i1 := i1.below hb
  replace i2 := i2.below hb
  replace rl := rl.below hb
  replace hL := hL.below hb
  replace b := b.trans (hb.mono b.size)
  clear hb
  clear hC
  clear rl
  clear i1
  clear i2
  clear hL
  go_wp2_with fail
  refine (firing_any _).mono ?_
  rintro e w13 ⟨rfl, hb⟩
  replace b := b.trans (hb.mono b.size)
  clear hb
  have i1 := (SlAt.of_blk (enc := ivs) (s := 1) (Blk.new w13 3 #[.int .i64 0, .int .i64 8, .int .i64 12, .int .i64 14, .int .i64 20, .int .i64 27]) (fun _ => rfl) [(0 : Int), (8 : Int), (12 : Int), (14 : Int), (20 : Int), (27 : Int)] rfl (by decide)).mono (Nat.zero_le _)
  replace b := b.alloc b.size (.cells #[.int .i64 0, .int .i64 8, .int .i64 12, .int .i64 14, .int .i64 20, .int .i64 27] 3)
  have hC := Fire_any fir0 [0, 8, 12, 14, 20, 27] _ 6 6 0 _ i1
  rw [fire0] at hC
  go_wp2_with fail
  refine (hC).mono ?_
  rintro e w14 ⟨O_rs, n_rs, c_rs, rfl, rs, hb⟩
  replace i1 := i1.below hb
  replace b := b.trans (hb.mono b.size)
  replace rs := rs.mono (Nat.zero_le _)
  clear hb
  clear hC
  clear i1
  replace rs := rs.alloc (.cells #[.int .i64 0, .int .i64 4, .int .i64 5, .int .i64 12, .int .i64 10, .int .i64 13, .int .i64 12, .int .i64 18, .int .i64 16, .int .i64 26] 40)
  have kf := (SlAt.of_blk (enc := Bnd.cells) (s := 2) (Blk.new w14 40 #[.int .i64 0, .int .i64 4, .int .i64 5, .int .i64 12, .int .i64 10, .int .i64 13, .int .i64 12, .int .i64 18, .int .i64 16, .int .i64 26]) (fun _ => rfl) [⟨0, 4⟩, ⟨5, 12⟩, ⟨10, 13⟩, ⟨12, 18⟩, ⟨16, 26⟩] rfl (by decide)).mono (Nat.zero_le _)
  replace b := b.alloc b.size (.cells #[.int .i64 0, .int .i64 4, .int .i64 5, .int .i64 12, .int .i64 10, .int .i64 13, .int .i64 12, .int .i64 18, .int .i64 16, .int .i64 26] 40)
  go_wp2_with fail
  refine (firing_any _).mono ?_
  rintro e w15 ⟨rfl, hb⟩
  replace rs := rs.below hb
  replace kf := kf.below hb
  replace b := b.trans (hb.mono b.size)
  clear hb
  have hC := Times_any fir0 field0 _ 5 5 0 _ kf
  rw [time0] at hC
  go_wp2_with fail
  refine (hC).mono ?_
  rintro e w16 ⟨O_rt, n_rt, c_rt, rfl, rt, hb⟩
  replace rs := rs.below hb
  replace kf := kf.below hb
  replace b := b.trans (hb.mono b.size)
  replace rt := rt.mono (Nat.zero_le _)
  clear hb
  clear hC
  go_wp2_with fail
  refine (firing_any _).mono ?_
  rintro e w17 ⟨rfl, hb⟩
  replace rs := rs.below hb
  replace kf := kf.below hb
  replace rt := rt.below hb
  replace b := b.trans (hb.mono b.size)
  clear hb
  have hC := Weak_any fir0 field0 _ 5 5 0 _ kf
  rw [weak0] at hC
  go_wp2_with fail
  refine (hC).mono ?_
  rintro e w18 ⟨O_rp, n_rp, c_rp, O_rq, n_rq, c_rq, rfl, rp, rq, hb⟩
  replace rs := rs.below hb
  replace kf := kf.below hb
  replace rt := rt.below hb
  replace b := b.trans (hb.mono b.size)
  replace rp := rp.mono (Nat.zero_le _)
  replace rq := rq.mono (Nat.zero_le _)
  clear hb
  clear hC
  clear kf
  go_wp2_with fail
  refine (firing_any _).mono ?_
  rintro e w19 ⟨rfl, hb⟩
  replace rs := rs.below hb
  replace rt := rt.below hb
  replace rp := rp.below hb
  replace rq := rq.below hb
  replace b := b.trans (hb.mono b.size)
  clear hb
  have hC := fun W => Pace_any fir0 W
  rw [pace0] at hC
  go_wp2_with fail
  refine (hC _).mono ?_
  rintro e w20 ⟨rfl, hb⟩
  replace rs := rs.below hb
  replace rt := rt.below hb
  replace rp := rp.below hb
  replace rq := rq.below hb
  replace b := b.trans (hb.mono b.size)
  clear hb
  clear hC
  replace rs := rs.alloc (.cells #[.int .i64 2, .int .i64 0, .bool false, .int .i64 4, .int .i64 1, .bool false, .int .i64 4, .int .i64 0, .bool true, .int .i64 5, .int .i64 1, .bool true] 58)
  replace rt := rt.alloc (.cells #[.int .i64 2, .int .i64 0, .bool false, .int .i64 4, .int .i64 1, .bool false, .int .i64 4, .int .i64 0, .bool true, .int .i64 5, .int .i64 1, .bool true] 58)
  replace rp := rp.alloc (.cells #[.int .i64 2, .int .i64 0, .bool false, .int .i64 4, .int .i64 1, .bool false, .int .i64 4, .int .i64 0, .bool true, .int .i64 5, .int .i64 1, .bool true] 58)
  replace rq := rq.alloc (.cells #[.int .i64 2, .int .i64 0, .bool false, .int .i64 4, .int .i64 1, .bool false, .int .i64 4, .int .i64 0, .bool true, .int .i64 5, .int .i64 1, .bool true] 58)
  have i1 := (SlAt.of_blk (enc := Sht.cells) (s := 3) (Blk.new w20 58 #[.int .i64 2, .int .i64 0, .bool false, .int .i64 4, .int .i64 1, .bool false, .int .i64 4, .int .i64 0, .bool true, .int .i64 5, .int .i64 1, .bool true]) (fun _ => rfl) [⟨2, 0, false⟩, ⟨4, 1, false⟩, ⟨4, 0, true⟩, ⟨5, 1, true⟩] rfl (by decide)).mono (Nat.zero_le _)
  replace b := b.alloc b.size (.cells #[.int .i64 2, .int .i64 0, .bool false, .int .i64 4, .int .i64 1, .bool false, .int .i64 4, .int .i64 0, .bool true, .int .i64 5, .int .i64 1, .bool true] 58)
  have hC := alikeS_any O_rs _ n_rs c_rs 4 4 0 0 _ [⟨2, 0, false⟩, ⟨4, 1, false⟩, ⟨4, 0, true⟩, ⟨5, 1, true⟩] _ rs i1
  rw [decide_eq_true rfl] at hC
  go_wp2_with fail
  refine (hC).mono ?_
  rintro e w21 ⟨rfl, hb⟩
  replace rs := rs.below hb
  replace rt := rt.below hb
  replace rp := rp.below hb
  replace rq := rq.below hb
  replace i1 := i1.below hb
  replace b := b.trans (hb.mono b.size)
  clear hb
  clear hC
  clear rs
  clear i1
  replace rt := rt.alloc (.cells #[.int .i64 1, .int .i64 2, .int .i64 3, .int .i64 4, .int .i64 4, .int .i64 (-1), .int .i64 4, .int .i64 (-1)] 40)
  replace rp := rp.alloc (.cells #[.int .i64 1, .int .i64 2, .int .i64 3, .int .i64 4, .int .i64 4, .int .i64 (-1), .int .i64 4, .int .i64 (-1)] 40)
  replace rq := rq.alloc (.cells #[.int .i64 1, .int .i64 2, .int .i64 3, .int .i64 4, .int .i64 4, .int .i64 (-1), .int .i64 4, .int .i64 (-1)] 40)
  have i1 := (SlAt.of_blk (enc := Bnd.cells) (s := 2) (Blk.new w21 40 #[.int .i64 1, .int .i64 2, .int .i64 3, .int .i64 4, .int .i64 4, .int .i64 (-1), .int .i64 4, .int .i64 (-1)]) (fun _ => rfl) [⟨1, 2⟩, ⟨3, 4⟩, ⟨4, -1⟩, ⟨4, -1⟩] rfl (by decide)).mono (Nat.zero_le _)
  replace b := b.alloc b.size (.cells #[.int .i64 1, .int .i64 2, .int .i64 3, .int .i64 4, .int .i64 4, .int .i64 (-1), .int .i64 4, .int .i64 (-1)] 40)
  have hC := alikeB_any O_rt _ n_rt c_rt 4 4 0 0 _ [⟨1, 2⟩, ⟨3, 4⟩, ⟨4, -1⟩, ⟨4, -1⟩] _ rt i1
  rw [decide_eq_true rfl] at hC
  go_wp2_with fail
  refine (hC).mono ?_
  rintro e w22 ⟨rfl, hb⟩
  replace rt := rt.below hb
  replace rp := rp.below hb
  replace rq := rq.below hb
  replace i1 := i1.below hb
  replace b := b.trans (hb.mono b.size)
  clear hb
  clear hC
  clear rt
  clear i1
  obtain ⟨ib, ibh, ib0, ib1, ib2⟩ := info_parts Tryz.infoBool
  obtain ⟨wm, hrun, r1, r2⟩ := run_make_full (P := Tryz.prog) w22 w22.heap.size 94 4 ib (.bool false) 1 Tryz.underlying94 ibh ib0 ib1 .i64 .i64 4 (by rw [ib2]; decide) (by decide) (Nat.le_refl _)
  have hrun2 : Sem.run Tryz.prog (Instr.makeSlice 94 (.int .i64 4) (.int .i64 4)) w22 = _ := hrun
  have hb := (Below.refl w22.heap.size w22).grown r2 (Nat.le_refl _) (fun k e => by cases e)
  obtain ⟨A0, c0, hA0, i1⟩ := SlAt.of_own (enc := bvs) r1 (by decide) [false, false, false, false] (by kernel_rfl) (fun _ => rfl) rfl
  simp only [Value.slice.injEq, true_and] at hA0
  obtain ⟨rfl, rfl⟩ := hA0
  replace rp := rp.below hb
  replace rq := rq.below hb
  replace b := b.trans (hb.mono b.size)
  replace i1 := i1.mono (Nat.zero_le _)
  clear hrun r1 r2 hb ib0 ib1 ib2 ibh
  have hC := AlikeBools_any O_rp _ n_rp c_rp 4 4 0 0 _ [false, false, false, false] _ rp i1
  rw [decide_eq_true rfl] at hC
  go_wp2_with fail
  refine (hC).mono ?_
  rintro e w23 ⟨rfl, hb⟩
  replace rp := rp.below hb
  replace rq := rq.below hb
  replace i1 := i1.below hb
  replace b := b.trans (hb.mono b.size)
  clear hb
  clear hC
  clear rp
  clear i1
  replace rq := rq.alloc (.cells #[.bool false, .bool false, .bool true, .bool true] 4)
  have i1 := (SlAt.of_blk (enc := bvs) (s := 1) (Blk.new w23 4 #[.bool false, .bool false, .bool true, .bool true]) (fun _ => rfl) [false, false, true, true] rfl (by decide)).mono (Nat.zero_le _)
  replace b := b.alloc b.size (.cells #[.bool false, .bool false, .bool true, .bool true] 4)
  have hC := AlikeBools_any O_rq _ n_rq c_rq 4 4 0 0 _ [false, false, true, true] _ rq i1
  rw [decide_eq_true rfl] at hC
  go_wp2_with fail
  refine (hC).mono ?_
  rintro e w24 ⟨rfl, hb⟩
  replace rq := rq.below hb
  replace i1 := i1.below hb
  replace b := b.trans (hb.mono b.size)
  clear hb
  clear hC
  clear rq
  clear i1
  go_wp2_with fail
  refine (rules_any _).mono ?_
  rintro e w25 ⟨rfl, hb⟩
  replace b := b.trans (hb.mono b.size)
  clear hb
  have i1 := (SlAt.of_blk (enc := ivs) (s := 1) (Blk.new w25 3 #[.int .i64 0, .int .i64 1, .int .i64 1, .int .i64 0, .int .i64 1]) (fun _ => rfl) [(0 : Int), (1 : Int), (1 : Int), (0 : Int), (1 : Int)] rfl (by decide)).mono (Nat.zero_le _)
  replace b := b.alloc b.size (.cells #[.int .i64 0, .int .i64 1, .int .i64 1, .int .i64 0, .int .i64 1] 3)
  have hC := Judge_any rul0 [0, 1, 1, 0, 1] _ 5 5 0 _ i1
  rw [judge0] at hC
  go_wp2_with fail
  refine (hC).mono ?_
  rintro e w26 ⟨rfl, hb⟩
  replace i1 := i1.below hb
  replace b := b.trans (hb.mono b.size)
  clear hb
  clear hC
  clear i1
  go_wp2_with fail
  refine (rules_any _).mono ?_
  rintro e w27 ⟨rfl, hb⟩
  replace b := b.trans (hb.mono b.size)
  clear hb
  have i1 := (SlAt.of_blk (enc := ivs) (s := 1) (Blk.new w27 3 #[.int .i64 1, .int .i64 2, .int .i64 0, .int .i64 1, .int .i64 2]) (fun _ => rfl) [(1 : Int), (2 : Int), (0 : Int), (1 : Int), (2 : Int)] rfl (by decide)).mono (Nat.zero_le _)
  replace b := b.alloc b.size (.cells #[.int .i64 1, .int .i64 2, .int .i64 0, .int .i64 1, .int .i64 2] 3)
  have hC := Foresee_any rul0 [1, 2, 0, 1, 2] _ 5 5 0 _ i1
  rw [fore0] at hC
  go_wp2_with fail
  refine (hC).mono ?_
  rintro e w28 ⟨rfl, hb⟩
  replace i1 := i1.below hb
  replace b := b.trans (hb.mono b.size)
  clear hb
  clear hC
  clear i1
  have kx := Blk.new w28 40 #[.int .i64 3, .int .i64 5]
  replace b := b.alloc b.size (.cells #[.int .i64 3, .int .i64 5] 40)
  obtain ⟨c_kx, f_kx, l_kx⟩ := kx.rules
  go_wp2_with fail
  refine (rules_any _).mono ?_
  rintro e w29 ⟨rfl, hb⟩
  clear c_kx f_kx l_kx
  replace kx := kx.below hb
  replace b := b.trans (hb.mono b.size)
  clear hb
  replace kx := kx.alloc (.cells #[.int .i64 0, .int .i64 1, .int .i64 1] 3)
  have i1 := (SlAt.of_blk (enc := ivs) (s := 1) (Blk.new w29 3 #[.int .i64 0, .int .i64 1, .int .i64 1]) (fun _ => rfl) [(0 : Int), (1 : Int), (1 : Int)] rfl (by decide)).mono (Nat.zero_le _)
  replace b := b.alloc b.size (.cells #[.int .i64 0, .int .i64 1, .int .i64 1] 3)
  have hC := Allow_any rul0 [0, 1, 1] 4 _ 3 3 0 _ i1
  rw [allow0] at hC
  obtain ⟨c_kx, f_kx, l_kx⟩ := kx.rules
  go_wp2_with fail
  refine (hC).mono ?_
  rintro e w30 ⟨rfl, hb⟩
  clear c_kx f_kx l_kx
  replace i1 := i1.below hb
  replace kx := kx.below hb
  replace b := b.trans (hb.mono b.size)
  clear hb
  clear hC
  clear i1
  obtain ⟨c_kx, f_kx, l_kx⟩ := kx.rules
  go_wp2_with fail
  refine (rules_any _).mono ?_
  rintro e w31 ⟨rfl, hb⟩
  clear c_kx f_kx l_kx
  replace kx := kx.below hb
  replace b := b.trans (hb.mono b.size)
  clear hb
  replace kx := kx.alloc (.cells #[.int .i64 1, .int .i64 1, .int .i64 1, .int .i64 1, .int .i64 0, .int .i64 1] 3)
  have i1 := (SlAt.of_blk (enc := ivs) (s := 1) (Blk.new w31 3 #[.int .i64 1, .int .i64 1, .int .i64 1, .int .i64 1, .int .i64 0, .int .i64 1]) (fun _ => rfl) [(1 : Int), (1 : Int), (1 : Int), (1 : Int), (0 : Int), (1 : Int)] rfl (by decide)).mono (Nat.zero_le _)
  replace b := b.alloc b.size (.cells #[.int .i64 1, .int .i64 1, .int .i64 1, .int .i64 1, .int .i64 0, .int .i64 1] 3)
  have hC := Repeat_any rul0 [1, 1, 1, 1, 0, 1] _ 6 6 0 _ i1
  rw [rep1] at hC
  obtain ⟨c_kx, f_kx, l_kx⟩ := kx.rules
  go_wp2_with fail
  refine (hC).mono ?_
  rintro e w32 ⟨O_rr, n_rr, c_rr, rfl, rr, hb⟩
  clear c_kx f_kx l_kx
  replace i1 := i1.below hb
  replace kx := kx.below hb
  replace b := b.trans (hb.mono b.size)
  replace rr := rr.mono (Nat.zero_le _)
  clear hb
  clear hC
  clear i1
  obtain rfl : n_rr = 2 := by have := rr.len; rw [rA_len] at this; exact this.symm
  clear rr
  obtain ⟨c_kx, f_kx, l_kx⟩ := kx.rules
  go_wp2_with fail
  refine (rules_any _).mono ?_
  rintro e w33 ⟨rfl, hb⟩
  clear c_kx f_kx l_kx
  replace kx := kx.below hb
  replace b := b.trans (hb.mono b.size)
  clear hb
  replace kx := kx.alloc (.cells #[.int .i64 1, .int .i64 1, .int .i64 1, .int .i64 1, .int .i64 0, .int .i64 1] 3)
  have i1 := (SlAt.of_blk (enc := ivs) (s := 1) (Blk.new w33 3 #[.int .i64 1, .int .i64 1, .int .i64 1, .int .i64 1, .int .i64 0, .int .i64 1]) (fun _ => rfl) [(1 : Int), (1 : Int), (1 : Int), (1 : Int), (0 : Int), (1 : Int)] rfl (by decide)).mono (Nat.zero_le _)
  replace b := b.alloc b.size (.cells #[.int .i64 1, .int .i64 1, .int .i64 1, .int .i64 1, .int .i64 0, .int .i64 1] 3)
  replace i1 := i1.alloc (.cells #[.int .i64 2, .int .i64 0] 112)
  replace kx := kx.alloc (.cells #[.int .i64 2, .int .i64 0] 112)
  have i2 := (SlAt.of_blk (enc := Clm.cells) (s := 2) (Blk.new (w33.alloc (.cells #[.int .i64 1, .int .i64 1, .int .i64 1, .int .i64 1, .int .i64 0, .int .i64 1] 3)) 112 #[.int .i64 2, .int .i64 0]) (fun _ => rfl) [⟨2, 0⟩] rfl (by decide)).mono (Nat.zero_le _)
  simp only [World.size_alloc] at i2
  replace b := b.alloc b.size (.cells #[.int .i64 2, .int .i64 0] 112)
  have hC := Bound_any rul0 [1, 1, 1, 1, 0, 1] [⟨2, 0⟩] _ _ 6 6 1 1 0 _ i1 i2
  rw [bound0] at hC
  obtain ⟨c_kx, f_kx, l_kx⟩ := kx.rules
  go_wp2_with fail
  refine (hC).mono ?_
  rintro e w34 ⟨rfl, hb⟩
  clear c_kx f_kx l_kx
  replace i1 := i1.below hb
  replace i2 := i2.below hb
  replace kx := kx.below hb
  replace b := b.trans (hb.mono b.size)
  clear hb
  clear hC
  clear i1
  clear i2
  obtain ⟨c_kx, f_kx, l_kx⟩ := kx.rules
  go_wp2
  go_ret
  exact ⟨rfl, b⟩
end Go.Proofs.YtfengddpfeneiaaGreat
