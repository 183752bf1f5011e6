/-
  The package fix, walks: a net's regions and observations; Fix at the example.
-/
import Derived.Test.YtcmbmmpihiekhaaGreatC29
set_option maxRecDepth 100000
set_option maxHeartbeats 16000000
set_option linter.unusedSimpArgs false
set_option linter.unusedVariables false
namespace Go.Proofs.YtcmbmmpihiekhaaGreat
open Go.RowKit Go.Shelf
attribute [local go_sem] Oper.semAt_some

theorem RowB.grown {w w' : World} {g : Nat} {t : TypeId} {l : List Value} {row : Option Nat} (h : RowB w g t l) (hb : w.grownBy w' row) (hg : some g ≠ row) : RowB w' g t l := let ⟨tl, h⟩ := h; ⟨tl, h.grown hb hg⟩
theorem Tryz.infoSaid : (Tryz.prog.info? 108).map (fun i => (i.zero, i.size, i.bytes)) = some (some .nilIface, 1, 16) := by kernel_rfl
theorem netOf_any (bn cn bo co : Nat) (w : World) (hn : RowB w bn 68 [Value.int .i64 0, Value.int .i64 0, Value.int .i64 0, Value.int .i64 0, Value.int .i64 0, Value.int .i64 0, Value.int .i64 0, Value.int .i64 0, Value.int .i64 0, Value.int .i64 9, Value.int .i64 0, Value.int .i64 9, Value.int .i64 0, Value.int .i64 18, Value.int .i64 (-9), Value.int .i64 9]) (ho : RowB w bo 160 [Value.int .i64 1, Value.int .i64 0, Value.int .i64 1, Value.int .i64 0, Value.int .i64 2, Value.int .i64 0, Value.int .i64 0, Value.int .i64 0, Value.int .i64 0, Value.int .i64 0, Value.int .i64 0, Value.int .i64 0, Value.int .i64 0, Value.int .i64 0]) : Calls Tryz.prog 30 #[.agg #[.slice (some ⟨bn, 0, none⟩) 2 cn, .slice (some ⟨bo, 0, none⟩) 1 co]] w fun e w' => ∃ gn c go k, e = .returned (.tuple #[.agg #[.slice (some ⟨gn, 0, none⟩) 2 c, .slice (some ⟨go, 0, none⟩) 1 k], .int .i64 0]) ∧ RowB w' gn 68 [Value.int .i64 0, Value.int .i64 0, Value.int .i64 0, Value.int .i64 0, Value.int .i64 0, Value.int .i64 0, Value.int .i64 0, Value.int .i64 0, Value.int .i64 0, Value.int .i64 9, Value.int .i64 0, Value.int .i64 9, Value.int .i64 0, Value.int .i64 18, Value.int .i64 (-9), Value.int .i64 9] ∧ RowB w' go 108 [.iface 242 (.agg #[.int .i64 0, .int .i64 1, .int .i64 0, .int .i64 2])] ∧ w.heap.size ≤ gn ∧ w.heap.size ≤ go ∧ Below w.heap.size w w' := by
  have hT0 := fun W => Tight_any ⟨⟨0, 0⟩, ⟨0, 0⟩, ⟨0, 0⟩, ⟨0, 0⟩⟩ W
  rw [show tightR ⟨⟨0, 0⟩, ⟨0, 0⟩, ⟨0, 0⟩, ⟨0, 0⟩⟩ = (⟨⟨0, 0⟩, ⟨0, 0⟩, ⟨0, 0⟩, ⟨0, 0⟩⟩, 0) from by decide +kernel] at hT0
  simp only [regA] at hT0
  have hT1 := fun W => Tight_any ⟨⟨0, 9⟩, ⟨0, 9⟩, ⟨0, 18⟩, ⟨-9, 9⟩⟩ W
  rw [show tightR ⟨⟨0, 9⟩, ⟨0, 9⟩, ⟨0, 18⟩, ⟨-9, 9⟩⟩ = (⟨⟨0, 9⟩, ⟨0, 9⟩, ⟨0, 18⟩, ⟨-9, 9⟩⟩, 0) from by decide +kernel] at hT1
  simp only [regA] at hT1
  have ln := hn.lt
  have lo := ho.lt
  obtain ⟨W, hW⟩ : ∃ q0, q0 = ((w.alloc (.cells #[.slice (some ⟨bn, 0, none⟩) 2 cn, .slice (some ⟨bo, 0, none⟩) 1 co] 62)).alloc (.cells #[.slice none 0 0, .slice none 0 0] 102)) := ⟨_, rfl⟩
  have k1 : Blk W (w.heap.size) 62 #[.slice (some ⟨bn, 0, none⟩) 2 cn, .slice (some ⟨bo, 0, none⟩) 1 co] := by rw [hW]; exact ((Blk.new _ _ _).alloc _)
  have k2 : Blk W (w.heap.size + 1) 102 #[.slice none 0 0, .slice none 0 0] := by rw [hW]; exact (Blk.newAt (by simp))
  have b : Below w.heap.size w W := by rw [hW]; exact (((Below.refl _ _).alloc (Nat.le_refl _) _).alloc (by simp) _)
  go_enter Tryz.func30, Tryz.ntmps30
  go_upto_region 1 with fail
  rw [← hW]
  clear hW
  replace hn := hn.belowB b ln
  replace ho := ho.belowB b lo
  obtain ⟨a1, f1, z1⟩ := k1.rules
  go_wp2_with fail
  refine (fwithin_any _ _ _ _).mono ?_
  rintro e w' ⟨rfl, rfl⟩
  have hown : W.ownsRow w.heap.size 68 8 (.slice none 0 0) 0 [] := World.ownsRow_nil _ _ _ _
  have hb := (Below.refl W.heap.size W).alloc (Nat.le_refl _) (.cells #[.slice none 0 0, .slice none 0 0] 102)
  have k4 := Blk.new W 102 #[.slice none 0 0, .slice none 0 0]
  have i_g4 := b.size
  go_upto_region 4 with fail
  clear a1 f1 z1
  have j_k1 := k1.lt
  have j_k2 := k2.lt
  have j_hn := hn.lt
  have j_ho := ho.lt
  replace k1 := k1.below hb
  replace k2 := k2.below hb
  replace hn := hn.below hb
  replace ho := ho.below hb
  replace b := b.trans (hb.mono b.size)
  clear hb
  generalize W.alloc (.cells #[.slice none 0 0, .slice none 0 0] 102) = V1 at *
  generalize W.heap.size = g4 at *
  replace hown : V1.ownsRow w.heap.size 68 8 (.slice none 0 0) 0 [] := World.ownsRow_nil _ _ _ _
  obtain ⟨a1, f1, z1⟩ := k1.rules
  go_wp2_with fail
  clear a1 f1 z1
  refine wp_loop_rounds 3 ?_
  rw [rounds_succ]
  obtain ⟨tn, kn⟩ := hn
  simp only [List.cons_append, List.nil_append] at kn
  obtain ⟨an, fn9, zn⟩ := kn.rules
  have hn : RowB V1 bn 68 [Value.int .i64 0, Value.int .i64 0, Value.int .i64 0, Value.int .i64 0, Value.int .i64 0, Value.int .i64 0, Value.int .i64 0, Value.int .i64 0, Value.int .i64 0, Value.int .i64 9, Value.int .i64 0, Value.int .i64 9, Value.int .i64 0, Value.int .i64 18, Value.int .i64 (-9), Value.int .i64 9] := ⟨tn, kn⟩
  replace hown := hown.alloc (.cells #[Value.int .i64 0, Value.int .i64 0, Value.int .i64 0, Value.int .i64 0, Value.int .i64 0, Value.int .i64 0, Value.int .i64 0, Value.int .i64 0] 68)
  have hb := (Below.refl V1.heap.size V1).alloc (Nat.le_refl _) (.cells #[Value.int .i64 0, Value.int .i64 0, Value.int .i64 0, Value.int .i64 0, Value.int .i64 0, Value.int .i64 0, Value.int .i64 0, Value.int .i64 0] 68)
  have k6 := Blk.new V1 68 #[Value.int .i64 0, Value.int .i64 0, Value.int .i64 0, Value.int .i64 0, Value.int .i64 0, Value.int .i64 0, Value.int .i64 0, Value.int .i64 0]
  have i_g6 := b.size
  go_upto_region 7 with fail
  clear kn an fn9 zn
  have j_k1 := k1.lt
  have j_k2 := k2.lt
  have j_hn := hn.lt
  have j_ho := ho.lt
  have j_k4 := k4.lt
  replace k1 := k1.below hb
  replace k2 := k2.below hb
  replace hn := hn.below hb
  replace ho := ho.below hb
  replace k4 := k4.below hb
  replace b := b.trans (hb.mono b.size)
  clear hb
  generalize V1.alloc (.cells #[Value.int .i64 0, Value.int .i64 0, Value.int .i64 0, Value.int .i64 0, Value.int .i64 0, Value.int .i64 0, Value.int .i64 0, Value.int .i64 0] 68) = V2 at *
  generalize V1.heap.size = g6 at *
  obtain ⟨a6, f6, z6⟩ := k6.rules
  go_wp2_with fail
  refine (hT0 _).mono ?_
  rintro e V3 ⟨rfl, hb⟩
  clear a6 f6 z6
  replace hown := ownsRow_below hown hb
  replace k1 := k1.below hb
  replace k2 := k2.below hb
  replace hn := hn.below hb
  replace ho := ho.below hb
  replace k4 := k4.below hb
  replace k6 := k6.below hb
  replace b := b.trans (hb.mono b.size)
  clear hb
  replace hown := hown.alloc (.cells #[Value.int .i64 0, Value.int .i64 0, Value.int .i64 0, Value.int .i64 0, Value.int .i64 0, Value.int .i64 0, Value.int .i64 0, Value.int .i64 0] 68)
  have hb := (Below.refl V3.heap.size V3).alloc (Nat.le_refl _) (.cells #[Value.int .i64 0, Value.int .i64 0, Value.int .i64 0, Value.int .i64 0, Value.int .i64 0, Value.int .i64 0, Value.int .i64 0, Value.int .i64 0] 68)
  have k7 := Blk.new V3 68 #[Value.int .i64 0, Value.int .i64 0, Value.int .i64 0, Value.int .i64 0, Value.int .i64 0, Value.int .i64 0, Value.int .i64 0, Value.int .i64 0]
  have i_g7 := b.size
  go_upto_region 8 with fail
  have j_k1 := k1.lt
  have j_k2 := k2.lt
  have j_hn := hn.lt
  have j_ho := ho.lt
  have j_k4 := k4.lt
  have j_k6 := k6.lt
  replace k1 := k1.below hb
  replace k2 := k2.below hb
  replace hn := hn.below hb
  replace ho := ho.below hb
  replace k4 := k4.below hb
  replace k6 := k6.below hb
  replace b := b.trans (hb.mono b.size)
  clear hb
  generalize V3.alloc (.cells #[Value.int .i64 0, Value.int .i64 0, Value.int .i64 0, Value.int .i64 0, Value.int .i64 0, Value.int .i64 0, Value.int .i64 0, Value.int .i64 0] 68) = V4 at *
  generalize V3.heap.size = g7 at *
  obtain ⟨a6, f6, z6⟩ := k6.rules
  go_wp2_with fail
  refine (wide0_any _).mono ?_
  rintro e V5 ⟨rfl, hb⟩
  clear a6 f6 z6
  replace hown := ownsRow_below hown hb
  replace k1 := k1.below hb
  replace k2 := k2.below hb
  replace hn := hn.below hb
  replace ho := ho.below hb
  replace k4 := k4.below hb
  replace k6 := k6.below hb
  replace k7 := k7.below hb
  replace b := b.trans (hb.mono b.size)
  clear hb
  obtain ⟨a6, f6, z6⟩ := k6.rules
  go_wp2_with fail
  refine (wide0_any _).mono ?_
  rintro e V6 ⟨rfl, hb⟩
  clear a6 f6 z6
  replace hown := ownsRow_below hown hb
  replace k1 := k1.below hb
  replace k2 := k2.below hb
  replace hn := hn.below hb
  replace ho := ho.below hb
  replace k4 := k4.below hb
  replace k6 := k6.below hb
  replace k7 := k7.below hb
  replace b := b.trans (hb.mono b.size)
  clear hb
  obtain ⟨a4, f4, z4⟩ := k4.rules
  obtain ⟨a7, f7, z7⟩ := k7.rules
  have hb := (Below.refl V6.heap.size V6).alloc (Nat.le_refl _) (.cells #[Value.int .i64 0, Value.int .i64 0, Value.int .i64 0, Value.int .i64 0, Value.int .i64 0, Value.int .i64 0, Value.int .i64 0, Value.int .i64 0] 68)
  have hnews := Lib.hid (World.news_of_block (cs := #[Value.int .i64 0, Value.int .i64 0, Value.int .i64 0, Value.int .i64 0, Value.int .i64 0, Value.int .i64 0, Value.int .i64 0, Value.int .i64 0]) (Blk.new V6 68 #[Value.int .i64 0, Value.int .i64 0, Value.int .i64 0, Value.int .i64 0, Value.int .i64 0, Value.int .i64 0, Value.int .i64 0, Value.int .i64 0]))
  have hone : Hid (∀ u ∈ [Value.int .i64 0, Value.int .i64 0, Value.int .i64 0, Value.int .i64 0, Value.int .i64 0, Value.int .i64 0, Value.int .i64 0, Value.int .i64 0], u.oneCell' = true) := by show ∀ _ ∈ _, _; simp [Value.oneCell']
  have hbig1 : Hid (0 + 1 ≤ maxLen) := by show 0 + 1 ≤ maxLen; unfold maxLen; omega
  obtain ⟨i0, hi0, hz0, hz1, hz2⟩ := info_parts Tryz.infoRg
  have hownf := hown.alloc (.cells #[Value.int .i64 0, Value.int .i64 0, Value.int .i64 0, Value.int .i64 0, Value.int .i64 0, Value.int .i64 0, Value.int .i64 0, Value.int .i64 0] 68)
  clear k6 k7
  have k1F := k1.below hb
  have k2F := k2.below hb
  have hnF := hn.below hb
  have hoF := ho.below hb
  have k4F := k4.below hb
  have bF := b.trans (hb.mono b.size)
  have i9 := b.size
  go_upto_region 11 with (at_builtin; refine wpList_append_lies _ rfl (.tmp 51) (.tmp 53) 58 rfl w.heap.size 68 i0 (.agg #[Value.int .i64 0, .int .i64 0, .int .i64 0, .int .i64 0, .int .i64 0, .int .i64 0, .int .i64 0, .int .i64 0]) 8 64 Tryz.underlying58 hi0 hz0 hz1 hz2 rfl (by decide) (.slice none 0 0) 0 [] rfl hownf ⟨V6.heap.size, 0, none⟩ 1 1 [Value.int .i64 0, Value.int .i64 0, Value.int .i64 0, Value.int .i64 0, Value.int .i64 0, Value.int .i64 0, Value.int .i64 0, Value.int .i64 0] rfl rfl hnews.out hone.out (by decide) hbig1.out (by decide) bF.size (V6.heap.size + 1) (by simp) ?_; intro ga capa w7 hown7 hgrow hlies hlt7; have k4G := k4F.grown hgrow (by simp [Value.ownBlock] <;> omega); clear a4 f4 z4; obtain ⟨a4, f4, z4⟩ := k4G.rules)
  clear a4 f4 z4 a7 f7 z7
  have k1G := k1F.grown hgrow (by simp [Value.ownBlock] <;> omega)
  have k2G := k2F.grown hgrow (by simp [Value.ownBlock] <;> omega)
  have hnG := hnF.grown hgrow (by simp [Value.ownBlock] <;> omega)
  have hoG := hoF.grown hgrow (by simp [Value.ownBlock] <;> omega)
  have bG : Below w.heap.size w w7 := bF.trans ⟨hgrow.os, hgrow.tape, hgrow.output, hgrow.size, fun x hx => hgrow.block x (Nat.lt_of_lt_of_le hx bF.size) (fun e => by have := (hownf.lt _ e.symm).1; omega)⟩
  simp only [Nat.zero_add, Nat.reduceAdd, List.nil_append, List.cons_append] at hown7
  have iga := (hown7.lt _ rfl).1
  have i4 := k4.lt
  have i1 := k1.lt
  have i2 := k2.lt
  have nga : ga ≠ g4 ∧ ga ≠ w.heap.size ∧ ga ≠ w.heap.size + 1 := by
    rcases hlies with h | h
    · first | (simp [Value.ownBlock] at h; done) | (simp [Value.ownBlock] at h; omega)
    · omega
  clear k1 k1F
  clear k2 k2F
  clear hn hnF
  clear ho hoF
  clear k4 k4F
  have k1 := k1G.far (p := ⟨g4, 0, none⟩) (by dsimp only; omega) (.slice (some ⟨ga, 0, none⟩) 1 capa)
  clear k1G
  have k2 := k2G.far (p := ⟨g4, 0, none⟩) (by dsimp only; omega) (.slice (some ⟨ga, 0, none⟩) 1 capa)
  clear k2G
  have hn := hnG.far (p := ⟨g4, 0, none⟩) (by dsimp only; omega) (.slice (some ⟨ga, 0, none⟩) 1 capa)
  clear hnG
  have ho := hoG.far (p := ⟨g4, 0, none⟩) (by dsimp only; omega) (.slice (some ⟨ga, 0, none⟩) 1 capa)
  clear hoG
  have k4 := k4G.set_ 0 (.slice (some ⟨ga, 0, none⟩) 1 capa)
  simp only [sA, sZ] at k4
  clear k4G
  clear b bF
  have b := bG.setCell (p := ⟨g4, 0, none⟩) (by dsimp only; omega) (.slice (some ⟨ga, 0, none⟩) 1 capa)
  clear bG
  clear hown hownf
  have hown := ownsRow_setCell hown7 (p := ⟨g4, 0, none⟩) (by simp [Value.ownBlock]; omega) (.slice (some ⟨ga, 0, none⟩) 1 capa)
  clear hown7 hgrow hlies hlt7 hnews hone hbig1 hi0 hz0 hz1 hz2 i0 hb
  generalize w7.setCell ⟨g4, 0, none⟩ (.slice (some ⟨ga, 0, none⟩) 1 capa) = V7 at *
  go_wp2_with fail
  rw [rounds_succ]
  obtain ⟨tn, kn⟩ := hn
  simp only [List.cons_append, List.nil_append] at kn
  obtain ⟨an, fn9, zn⟩ := kn.rules
  have hn : RowB V7 bn 68 [Value.int .i64 0, Value.int .i64 0, Value.int .i64 0, Value.int .i64 0, Value.int .i64 0, Value.int .i64 0, Value.int .i64 0, Value.int .i64 0, Value.int .i64 0, Value.int .i64 9, Value.int .i64 0, Value.int .i64 9, Value.int .i64 0, Value.int .i64 18, Value.int .i64 (-9), Value.int .i64 9] := ⟨tn, kn⟩
  replace hown := hown.alloc (.cells #[Value.int .i64 0, Value.int .i64 9, Value.int .i64 0, Value.int .i64 9, Value.int .i64 0, Value.int .i64 18, Value.int .i64 (-9), Value.int .i64 9] 68)
  have hb := (Below.refl V7.heap.size V7).alloc (Nat.le_refl _) (.cells #[Value.int .i64 0, Value.int .i64 9, Value.int .i64 0, Value.int .i64 9, Value.int .i64 0, Value.int .i64 18, Value.int .i64 (-9), Value.int .i64 9] 68)
  have k6 := Blk.new V7 68 #[Value.int .i64 0, Value.int .i64 9, Value.int .i64 0, Value.int .i64 9, Value.int .i64 0, Value.int .i64 18, Value.int .i64 (-9), Value.int .i64 9]
  have i_g6 := b.size
  go_upto_region 7 with fail
  clear kn an fn9 zn
  have j_k1 := k1.lt
  have j_k2 := k2.lt
  have j_hn := hn.lt
  have j_ho := ho.lt
  have j_k4 := k4.lt
  replace k1 := k1.below hb
  replace k2 := k2.below hb
  replace hn := hn.below hb
  replace ho := ho.below hb
  replace k4 := k4.below hb
  replace b := b.trans (hb.mono b.size)
  clear hb
  generalize V7.alloc (.cells #[Value.int .i64 0, Value.int .i64 9, Value.int .i64 0, Value.int .i64 9, Value.int .i64 0, Value.int .i64 18, Value.int .i64 (-9), Value.int .i64 9] 68) = V8 at *
  generalize V7.heap.size = g6 at *
  obtain ⟨a6, f6, z6⟩ := k6.rules
  go_wp2_with fail
  refine (hT1 _).mono ?_
  rintro e V9 ⟨rfl, hb⟩
  clear a6 f6 z6
  replace hown := ownsRow_below hown hb
  replace k1 := k1.below hb
  replace k2 := k2.below hb
  replace hn := hn.below hb
  replace ho := ho.below hb
  replace k4 := k4.below hb
  replace k6 := k6.below hb
  replace b := b.trans (hb.mono b.size)
  clear hb
  replace hown := hown.alloc (.cells #[Value.int .i64 0, Value.int .i64 9, Value.int .i64 0, Value.int .i64 9, Value.int .i64 0, Value.int .i64 18, Value.int .i64 (-9), Value.int .i64 9] 68)
  have hb := (Below.refl V9.heap.size V9).alloc (Nat.le_refl _) (.cells #[Value.int .i64 0, Value.int .i64 9, Value.int .i64 0, Value.int .i64 9, Value.int .i64 0, Value.int .i64 18, Value.int .i64 (-9), Value.int .i64 9] 68)
  have k7 := Blk.new V9 68 #[Value.int .i64 0, Value.int .i64 9, Value.int .i64 0, Value.int .i64 9, Value.int .i64 0, Value.int .i64 18, Value.int .i64 (-9), Value.int .i64 9]
  have i_g7 := b.size
  go_upto_region 8 with fail
  have j_k1 := k1.lt
  have j_k2 := k2.lt
  have j_hn := hn.lt
  have j_ho := ho.lt
  have j_k4 := k4.lt
  have j_k6 := k6.lt
  replace k1 := k1.below hb
  replace k2 := k2.below hb
  replace hn := hn.below hb
  replace ho := ho.below hb
  replace k4 := k4.below hb
  replace k6 := k6.below hb
  replace b := b.trans (hb.mono b.size)
  clear hb
  generalize V9.alloc (.cells #[Value.int .i64 0, Value.int .i64 9, Value.int .i64 0, Value.int .i64 9, Value.int .i64 0, Value.int .i64 18, Value.int .i64 (-9), Value.int .i64 9] 68) = V10 at *
  generalize V9.heap.size = g7 at *
  obtain ⟨a6, f6, z6⟩ := k6.rules
  go_wp2_with fail
  refine (wide9_any _).mono ?_
  rintro e V11 ⟨rfl, hb⟩
  clear a6 f6 z6
  replace hown := ownsRow_below hown hb
  replace k1 := k1.below hb
  replace k2 := k2.below hb
  replace hn := hn.below hb
  replace ho := ho.below hb
  replace k4 := k4.below hb
  replace k6 := k6.below hb
  replace k7 := k7.below hb
  replace b := b.trans (hb.mono b.size)
  clear hb
  obtain ⟨a6, f6, z6⟩ := k6.rules
  go_wp2_with fail
  refine (wide9_any _).mono ?_
  rintro e V12 ⟨rfl, hb⟩
  clear a6 f6 z6
  replace hown := ownsRow_below hown hb
  replace k1 := k1.below hb
  replace k2 := k2.below hb
  replace hn := hn.below hb
  replace ho := ho.below hb
  replace k4 := k4.below hb
  replace k6 := k6.below hb
  replace k7 := k7.below hb
  replace b := b.trans (hb.mono b.size)
  clear hb
  obtain ⟨a4, f4, z4⟩ := k4.rules
  obtain ⟨a7, f7, z7⟩ := k7.rules
  have hb := (Below.refl V12.heap.size V12).alloc (Nat.le_refl _) (.cells #[Value.int .i64 0, Value.int .i64 9, Value.int .i64 0, Value.int .i64 9, Value.int .i64 0, Value.int .i64 18, Value.int .i64 (-9), Value.int .i64 9] 68)
  have hnews := Lib.hid (World.news_of_block (cs := #[Value.int .i64 0, Value.int .i64 9, Value.int .i64 0, Value.int .i64 9, Value.int .i64 0, Value.int .i64 18, Value.int .i64 (-9), Value.int .i64 9]) (Blk.new V12 68 #[Value.int .i64 0, Value.int .i64 9, Value.int .i64 0, Value.int .i64 9, Value.int .i64 0, Value.int .i64 18, Value.int .i64 (-9), Value.int .i64 9]))
  have hone : Hid (∀ u ∈ [Value.int .i64 0, Value.int .i64 9, Value.int .i64 0, Value.int .i64 9, Value.int .i64 0, Value.int .i64 18, Value.int .i64 (-9), Value.int .i64 9], u.oneCell' = true) := by show ∀ _ ∈ _, _; simp [Value.oneCell']
  have hbig1 : Hid (1 + 1 ≤ maxLen) := by show 1 + 1 ≤ maxLen; unfold maxLen; omega
  obtain ⟨i0, hi0, hz0, hz1, hz2⟩ := info_parts Tryz.infoRg
  have hownf := hown.alloc (.cells #[Value.int .i64 0, Value.int .i64 9, Value.int .i64 0, Value.int .i64 9, Value.int .i64 0, Value.int .i64 18, Value.int .i64 (-9), Value.int .i64 9] 68)
  clear k6 k7
  have k1F := k1.below hb
  have k2F := k2.below hb
  have hnF := hn.below hb
  have hoF := ho.below hb
  have k4F := k4.below hb
  have bF := b.trans (hb.mono b.size)
  have i9 := b.size
  go_upto_region 11 with (at_builtin; refine wpList_append_lies _ rfl (.tmp 51) (.tmp 53) 58 rfl w.heap.size 68 i0 (.agg #[Value.int .i64 0, .int .i64 0, .int .i64 0, .int .i64 0, .int .i64 0, .int .i64 0, .int .i64 0, .int .i64 0]) 8 64 Tryz.underlying58 hi0 hz0 hz1 hz2 rfl (by decide) (.slice (some ⟨ga, 0, none⟩) 1 capa) 1 [Value.int .i64 0, Value.int .i64 0, Value.int .i64 0, Value.int .i64 0, Value.int .i64 0, Value.int .i64 0, Value.int .i64 0, Value.int .i64 0] rfl hownf ⟨V12.heap.size, 0, none⟩ 1 1 [Value.int .i64 0, Value.int .i64 9, Value.int .i64 0, Value.int .i64 9, Value.int .i64 0, Value.int .i64 18, Value.int .i64 (-9), Value.int .i64 9] rfl rfl hnews.out hone.out (by decide) hbig1.out (by decide) bF.size (V12.heap.size + 1) (by simp) ?_; intro gb capb w7 hown7 hgrow hlies hlt7; have k4G := k4F.grown hgrow (by simp [Value.ownBlock] <;> omega); clear a4 f4 z4; obtain ⟨a4, f4, z4⟩ := k4G.rules)
  clear a4 f4 z4 a7 f7 z7
  have k1G := k1F.grown hgrow (by simp [Value.ownBlock] <;> omega)
  have k2G := k2F.grown hgrow (by simp [Value.ownBlock] <;> omega)
  have hnG := hnF.grown hgrow (by simp [Value.ownBlock] <;> omega)
  have hoG := hoF.grown hgrow (by simp [Value.ownBlock] <;> omega)
  have bG : Below w.heap.size w w7 := bF.trans ⟨hgrow.os, hgrow.tape, hgrow.output, hgrow.size, fun x hx => hgrow.block x (Nat.lt_of_lt_of_le hx bF.size) (fun e => by have := (hownf.lt _ e.symm).1; omega)⟩
  simp only [Nat.zero_add, Nat.reduceAdd, List.nil_append, List.cons_append] at hown7
  have igb := (hown7.lt _ rfl).1
  have i4 := k4.lt
  have i1 := k1.lt
  have i2 := k2.lt
  have ngb : gb ≠ g4 ∧ gb ≠ w.heap.size ∧ gb ≠ w.heap.size + 1 := by
    rcases hlies with h | h
    · first | (simp [Value.ownBlock] at h; done) | (simp [Value.ownBlock] at h; omega)
    · omega
  clear k1 k1F
  clear k2 k2F
  clear hn hnF
  clear ho hoF
  clear k4 k4F
  have k1 := k1G.far (p := ⟨g4, 0, none⟩) (by dsimp only; omega) (.slice (some ⟨gb, 0, none⟩) 2 capb)
  clear k1G
  have k2 := k2G.far (p := ⟨g4, 0, none⟩) (by dsimp only; omega) (.slice (some ⟨gb, 0, none⟩) 2 capb)
  clear k2G
  have hn := hnG.far (p := ⟨g4, 0, none⟩) (by dsimp only; omega) (.slice (some ⟨gb, 0, none⟩) 2 capb)
  clear hnG
  have ho := hoG.far (p := ⟨g4, 0, none⟩) (by dsimp only; omega) (.slice (some ⟨gb, 0, none⟩) 2 capb)
  clear hoG
  have k4 := k4G.set_ 0 (.slice (some ⟨gb, 0, none⟩) 2 capb)
  simp only [sA, sZ] at k4
  clear k4G
  clear b bF
  have b := bG.setCell (p := ⟨g4, 0, none⟩) (by dsimp only; omega) (.slice (some ⟨gb, 0, none⟩) 2 capb)
  clear bG
  clear hown hownf
  have hown := ownsRow_setCell hown7 (p := ⟨g4, 0, none⟩) (by simp [Value.ownBlock]; omega) (.slice (some ⟨gb, 0, none⟩) 2 capb)
  clear hown7 hgrow hlies hlt7 hnews hone hbig1 hi0 hz0 hz1 hz2 i0 hb
  generalize w7.setCell ⟨g4, 0, none⟩ (.slice (some ⟨gb, 0, none⟩) 2 capb) = V13 at *
  go_wp2_with fail
  rw [rounds_succ]
  obtain ⟨a1, f1, z1⟩ := k1.rules
  go_wp2_with fail
  clear a1 f1 z1
  refine wp_loop_rounds 2 ?_
  rw [rounds_succ]
  have hrows := own_row (by decide) hown
  clear hown
  obtain ⟨hr, hrg⟩ := hrows
  obtain ⟨tn, ko⟩ := ho
  simp only [List.cons_append, List.nil_append] at ko
  obtain ⟨an, fn9, zn⟩ := ko.rules
  have ho : RowB V13 bo 160 [Value.int .i64 1, Value.int .i64 0, Value.int .i64 1, Value.int .i64 0, Value.int .i64 2, Value.int .i64 0, Value.int .i64 0, Value.int .i64 0, Value.int .i64 0, Value.int .i64 0, Value.int .i64 0, Value.int .i64 0, Value.int .i64 0, Value.int .i64 0] := ⟨tn, ko⟩
  have hb := (Below.refl V13.heap.size V13).alloc (Nat.le_refl _) (.cells #[Value.int .i64 1, Value.int .i64 0, Value.int .i64 1, Value.int .i64 0, Value.int .i64 2, Value.int .i64 0, Value.int .i64 0, Value.int .i64 0, Value.int .i64 0, Value.int .i64 0, Value.int .i64 0, Value.int .i64 0, Value.int .i64 0, Value.int .i64 0] 160)
  have k10 := Blk.new V13 160 #[Value.int .i64 1, Value.int .i64 0, Value.int .i64 1, Value.int .i64 0, Value.int .i64 2, Value.int .i64 0, Value.int .i64 0, Value.int .i64 0, Value.int .i64 0, Value.int .i64 0, Value.int .i64 0, Value.int .i64 0, Value.int .i64 0, Value.int .i64 0]
  have i_g10 := b.size
  go_upto_region 15 with fail
  clear ko an fn9 zn
  have j_k1 := k1.lt
  have j_k2 := k2.lt
  have j_hn := hn.lt
  have j_ho := ho.lt
  have j_k4 := k4.lt
  have j_hr := hr.lt
  replace k1 := k1.below hb
  replace k2 := k2.below hb
  replace hn := hn.below hb
  replace ho := ho.below hb
  replace k4 := k4.below hb
  replace hr := hr.below hb
  replace b := b.trans (hb.mono b.size)
  clear hb
  generalize V13.alloc (.cells #[Value.int .i64 1, Value.int .i64 0, Value.int .i64 1, Value.int .i64 0, Value.int .i64 2, Value.int .i64 0, Value.int .i64 0, Value.int .i64 0, Value.int .i64 0, Value.int .i64 0, Value.int .i64 0, Value.int .i64 0, Value.int .i64 0, Value.int .i64 0] 160) = V14 at *
  generalize V13.heap.size = g10 at *
  obtain ⟨a10, f10, z10⟩ := k10.rules
  obtain ⟨a1, f1, z1⟩ := k1.rules
  go_wp2_with fail
  refine (read_any _).mono ?_
  rintro e V15 ⟨rfl, hb⟩
  clear a10 f10 z10 a1 f1 z1
  replace k1 := k1.below hb
  replace k2 := k2.below hb
  replace hn := hn.below hb
  replace ho := ho.below hb
  replace k4 := k4.below hb
  replace hr := hr.below hb
  replace k10 := k10.below hb
  replace b := b.trans (hb.mono b.size)
  clear hb
  obtain ⟨a4, f4, z4⟩ := k4.rules
  have hb := (Below.refl V15.heap.size V15).alloc (Nat.le_refl _) (.cells #[.iface 242 (.agg #[.int .i64 0, .int .i64 1, .int .i64 0, .int .i64 2])] 108)
  have hnews := Lib.hid (World.news_of_block (cs := #[.iface 242 (.agg #[.int .i64 0, .int .i64 1, .int .i64 0, .int .i64 2])]) (Blk.new V15 108 #[.iface 242 (.agg #[.int .i64 0, .int .i64 1, .int .i64 0, .int .i64 2])]))
  have hone : Hid (∀ u ∈ [Value.iface 242 (.agg #[.int .i64 0, .int .i64 1, .int .i64 0, .int .i64 2])], u.oneCell' = true) := by show ∀ _ ∈ _, _; simp [Value.oneCell']
  have hbig1 : Hid (0 + 1 ≤ maxLen) := by show 0 + 1 ≤ maxLen; unfold maxLen; omega
  obtain ⟨i0, hi0, hz0, hz1, hz2⟩ := info_parts Tryz.infoSaid
  clear k10
  have k1F := k1.below hb
  have k2F := k2.below hb
  have hnF := hn.below hb
  have hoF := ho.below hb
  have k4F := k4.below hb
  have hrF := hr.below hb
  have bF := b.trans (hb.mono b.size)
  go_upto_region 19 with (at_builtin; refine wpList_append_lies _ rfl (.tmp 76) (.tmp 78) 100 rfl w.heap.size 108 i0 .nilIface 1 16 Tryz.underlying100 hi0 hz0 hz1 hz2 rfl (by decide) (.slice none 0 0) 0 [] rfl (World.ownsRow_nil _ _ _ _) ⟨V15.heap.size, 0, none⟩ 1 1 [.iface 242 (.agg #[.int .i64 0, .int .i64 1, .int .i64 0, .int .i64 2])] rfl rfl hnews.out hone.out (by decide) hbig1.out (by decide) bF.size (V15.heap.size + 1) (by simp) ?_; intro gs caps w7 hown7 hgrow hlies hlt7; have k4G := k4F.grown hgrow (by simp [Value.ownBlock]); clear a4 f4 z4; obtain ⟨a4, f4, z4⟩ := k4G.rules)
  clear a4 f4 z4
  have k1G := k1F.grown hgrow (by simp [Value.ownBlock])
  have k2G := k2F.grown hgrow (by simp [Value.ownBlock])
  have hnG := hnF.grown hgrow (by simp [Value.ownBlock])
  have hoG := hoF.grown hgrow (by simp [Value.ownBlock])
  have hrG := hrF.grown hgrow (by simp [Value.ownBlock])
  have bG : Below w.heap.size w w7 := bF.trans ⟨hgrow.os, hgrow.tape, hgrow.output, hgrow.size, fun x hx => hgrow.block x (Nat.lt_of_lt_of_le hx bF.size) (fun e => by cases e)⟩
  simp only [Nat.zero_add, Nat.reduceAdd, List.nil_append, List.cons_append] at hown7
  have igs := (hown7.lt _ rfl).1
  have i4 := k4.lt
  have i1 := k1.lt
  have i2 := k2.lt
  have ir := hr.lt
  have ngs : gs ≠ g4 ∧ gs ≠ w.heap.size ∧ gs ≠ w.heap.size + 1 := by
    rcases hlies with h | h
    · (simp [Value.ownBlock] at h; done)
    · omega
  have hrows := own_row (by decide) hown7
  clear hown7
  obtain ⟨hs, hsg⟩ := hrows
  clear k1 k1F
  clear k2 k2F
  clear hn hnF
  clear ho hoF
  clear k4 k4F
  clear hr hrF
  have k1 := k1G.far (p := ⟨g4, 1, none⟩) (by dsimp only; omega) (.slice (some ⟨gs, 0, none⟩) 1 caps)
  clear k1G
  have k2 := k2G.far (p := ⟨g4, 1, none⟩) (by dsimp only; omega) (.slice (some ⟨gs, 0, none⟩) 1 caps)
  clear k2G
  have hn := hnG.far (p := ⟨g4, 1, none⟩) (by dsimp only; omega) (.slice (some ⟨gs, 0, none⟩) 1 caps)
  clear hnG
  have ho := hoG.far (p := ⟨g4, 1, none⟩) (by dsimp only; omega) (.slice (some ⟨gs, 0, none⟩) 1 caps)
  clear hoG
  have hr := hrG.far (p := ⟨g4, 1, none⟩) (by dsimp only; omega) (.slice (some ⟨gs, 0, none⟩) 1 caps)
  clear hrG
  replace hs := hs.far (p := ⟨g4, 1, none⟩) (by dsimp only; omega) (.slice (some ⟨gs, 0, none⟩) 1 caps)
  have k4 := k4G.set_ 1 (.slice (some ⟨gs, 0, none⟩) 1 caps)
  simp only [sA, sZ, sS] at k4
  clear k4G
  clear b bF
  have b := bG.setCell (p := ⟨g4, 1, none⟩) (by dsimp only; omega) (.slice (some ⟨gs, 0, none⟩) 1 caps)
  clear bG
  clear hgrow hlies hlt7 hnews hone hbig1 hi0 hz0 hz1 hz2 i0 hb
  generalize w7.setCell ⟨g4, 1, none⟩ (.slice (some ⟨gs, 0, none⟩) 1 caps) = V16 at *
  go_wp2_with fail
  rw [rounds_succ]
  obtain ⟨a4, f4, z4⟩ := k4.rules
  obtain ⟨a2, f2, z2⟩ := k2.rules
  go_wp2
  clear a4 f4 z4 a2 f2 z2
  have kz := ((k2.set_ 0 (.slice (some ⟨gb, 0, none⟩) 2 capb)).set_ 1 (.slice (some ⟨gs, 0, none⟩) 1 caps))
  simp only [sA, sZ, sS] at kz
  have bz := ((b.setCell (p := ⟨w.heap.size + 1, 0, none⟩) (by dsimp only; omega) (.slice (some ⟨gb, 0, none⟩) 2 capb)).setCell (p := ⟨w.heap.size + 1, 1, none⟩) (by dsimp only; omega) (.slice (some ⟨gs, 0, none⟩) 1 caps))
  have hrz := ((hr.far (p := ⟨w.heap.size + 1, 0, none⟩) (by dsimp only; omega) (.slice (some ⟨gb, 0, none⟩) 2 capb)).far (p := ⟨w.heap.size + 1, 1, none⟩) (by dsimp only; omega) (.slice (some ⟨gs, 0, none⟩) 1 caps))
  have hsz := ((hs.far (p := ⟨w.heap.size + 1, 0, none⟩) (by dsimp only; omega) (.slice (some ⟨gb, 0, none⟩) 2 capb)).far (p := ⟨w.heap.size + 1, 1, none⟩) (by dsimp only; omega) (.slice (some ⟨gs, 0, none⟩) 1 caps))
  obtain ⟨r1, r1f, r1l⟩ := kz.rules
  exact bodyPost_ret (v := .tuple #[.agg #[.slice (some ⟨gb, 0, none⟩) 2 capb, .slice (some ⟨gs, 0, none⟩) 1 caps], .int .i64 0]) (by simp [results, Tryz.results30, go_sem, r1]) rfl ⟨gb, capb, gs, caps, rfl, hrz, hsz, hrg, hsg, bz⟩
theorem Fix_any (bn cn bo co : Nat) (w : World) (hn : RowB w bn 68 [Value.int .i64 0, Value.int .i64 0, Value.int .i64 0, Value.int .i64 0, Value.int .i64 0, Value.int .i64 0, Value.int .i64 0, Value.int .i64 0, Value.int .i64 0, Value.int .i64 9, Value.int .i64 0, Value.int .i64 9, Value.int .i64 0, Value.int .i64 18, Value.int .i64 (-9), Value.int .i64 9]) (ho : RowB w bo 160 [Value.int .i64 1, Value.int .i64 0, Value.int .i64 1, Value.int .i64 0, Value.int .i64 2, Value.int .i64 0, Value.int .i64 0, Value.int .i64 0, Value.int .i64 0, Value.int .i64 0, Value.int .i64 0, Value.int .i64 0, Value.int .i64 0, Value.int .i64 0]) : Calls Tryz.prog 14 #[.agg #[.slice (some ⟨bn, 0, none⟩) 2 cn, .slice (some ⟨bo, 0, none⟩) 1 co]] w fun e w' => ∃ g k, e = .returned (.tuple #[.slice (some ⟨g, 0, none⟩) 2 k, .int .i64 0]) ∧ RowB w' g 68 [Value.int .i64 0, Value.int .i64 0, Value.int .i64 0, Value.int .i64 0, Value.int .i64 0, Value.int .i64 0, Value.int .i64 0, Value.int .i64 0, Value.int .i64 0, Value.int .i64 1, Value.int .i64 0, Value.int .i64 1, Value.int .i64 0, Value.int .i64 2, Value.int .i64 (-1), Value.int .i64 1] ∧ w.heap.size ≤ g ∧ Below w.heap.size w w' := by
  have ln := hn.lt
  have lo := ho.lt
  obtain ⟨W, hW⟩ : ∃ q0, q0 = (w.alloc (.cells #[.slice (some ⟨bn, 0, none⟩) 2 cn, .slice (some ⟨bo, 0, none⟩) 1 co] 62)) := ⟨_, rfl⟩
  have k1 : Blk W (w.heap.size) 62 #[.slice (some ⟨bn, 0, none⟩) 2 cn, .slice (some ⟨bo, 0, none⟩) 1 co] := by rw [hW]; exact (Blk.new _ _ _)
  have b : Below w.heap.size w W := by rw [hW]; exact ((Below.refl _ _).alloc (Nat.le_refl _) _)
  go_enter Tryz.func14, Tryz.ntmps14
  go_upto_region 1 with fail
  rw [← hW]
  clear hW
  replace hn := hn.belowB b ln
  replace ho := ho.belowB b lo
  obtain ⟨a1, f1, z1⟩ := k1.rules
  go_wp2_with fail
  refine (netOf_any bn cn bo co _ hn ho).mono ?_
  rintro e V ⟨gn, c, go, k, rfl, hr, hs, i1, i2, hb⟩
  clear a1 f1 z1
  have ib := b.size
  replace b := b.trans (hb.mono b.size)
  clear hb
  have hb := (Below.refl V.heap.size V).alloc (Nat.le_refl _) (.cells #[.slice (some ⟨gn, 0, none⟩) 2 c, .slice (some ⟨go, 0, none⟩) 1 k] 102)
  have k4 := Blk.new V 102 #[.slice (some ⟨gn, 0, none⟩) 2 c, .slice (some ⟨go, 0, none⟩) 1 k]
  go_upto_region 2 with fail
  replace hr := hr.below hb
  replace hs := hs.below hb
  replace b := b.trans (hb.mono b.size)
  clear hb
  generalize V.alloc (.cells #[.slice (some ⟨gn, 0, none⟩) 2 c, .slice (some ⟨go, 0, none⟩) 1 k] 102) = V1 at *
  generalize V.heap.size = g4 at *
  obtain ⟨a4, f4, z4⟩ := k4.rules
  go_wp2_with fail
  refine (fixed_any gn c go k _ hr hs).mono ?_
  rintro e V2 ⟨g, kk, A, m, j, rfl, hr2, i3, hb⟩
  clear a4 f4 z4
  have ib2 := b.size
  replace b := b.trans (hb.mono b.size)
  go_wp2
  go_ret2
  exact ⟨g, kk, rfl, hr2, by omega, b⟩
end Go.Proofs.YtcmbmmpihiekhaaGreat
