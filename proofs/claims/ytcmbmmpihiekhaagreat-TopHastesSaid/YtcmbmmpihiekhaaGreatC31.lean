/-
  The top chapter's closed examples: steered, fired.
-/
import Derived.Test.YtcmbmmpihiekhaaGreatC30
import Derived.Test.YtcmbmmpihiekhaaGreatC21
import Derived.Test.YtcmbmmpihiekhaaGreatQ11
import Derived.Test.YtcmbmmpihiekhaaGreatS15
import Derived.Test.YtcmbmmpihiekhaaGreatTT
import Derived.Test.YtcmbmmpihiekhaaGreatTW
set_option maxRecDepth 100000
set_option maxHeartbeats 16000000
set_option linter.unusedSimpArgs false
set_option linter.unusedVariables false
namespace Go.Proofs.YtcmbmmpihiekhaaGreat
open Go.RowKit Go.Shelf
attribute [local go_sem] Oper.semAt_some

def strmT : Strm := ⟨3, [⟨9, 64, 0, 0, 0⟩], ⟨-9, 9⟩, 0⟩
theorem stepT0 : stepR strmT [0] [2] = ([5], 0) := by decide +kernel
theorem steered_any (w : World) : Calls Tryz.prog 27 #[] w fun e w' => e = .returned (.bool true) ∧ Below w.heap.size w w' := by
  obtain ⟨W, hW⟩ : ∃ q0, q0 = ((((w.alloc (.cells #[.int .i64 0, .int .i64 0, .int .i64 10, .int .i64 0] 149)).alloc (.cells #[.int .i64 7, .int .i64 100] 26)).alloc (.cells #[.slice (some ⟨w.heap.size + 1, 0, none⟩) 1 1] 29)).alloc (.cells #[.slice (some ⟨w.heap.size, 0, none⟩) 1 1, .slice none 0 0, .slice none 0 0, .int .i64 0, .int .i64 0, .int .i64 0, .int .i64 0, .int .i64 0, .int .i64 0, .int .i64 0, .int .i64 0, .int .i64 0, .int .i64 0, .int .i64 0, .int .i64 2, .int .i64 3, .slice (some ⟨w.heap.size + 1 + 1, 0, none⟩) 1 1] 155)) := ⟨_, rfl⟩
  have kL : Blk W (w.heap.size) 149 #[.int .i64 0, .int .i64 0, .int .i64 10, .int .i64 0] := by rw [hW]; exact ((((Blk.new _ _ _).alloc _).alloc _).alloc _)
  have kB : Blk W (w.heap.size + 1) 26 #[.int .i64 7, .int .i64 100] := by rw [hW]; exact (((Blk.newAt (by simp)).alloc _).alloc _)
  have kO : Blk W (w.heap.size + 1 + 1) 29 #[.slice (some ⟨w.heap.size + 1, 0, none⟩) 1 1] := by rw [hW]; exact ((Blk.newAt (by simp)).alloc _)
  have k1 : Blk W (w.heap.size + 1 + 1 + 1) 155 #[.slice (some ⟨w.heap.size, 0, none⟩) 1 1, .slice none 0 0, .slice none 0 0, .int .i64 0, .int .i64 0, .int .i64 0, .int .i64 0, .int .i64 0, .int .i64 0, .int .i64 0, .int .i64 0, .int .i64 0, .int .i64 0, .int .i64 0, .int .i64 2, .int .i64 3, .slice (some ⟨w.heap.size + 1 + 1, 0, none⟩) 1 1] := by rw [hW]; exact (Blk.newAt (by simp))
  have b : Below w.heap.size w W := by rw [hW]; exact (((((Below.refl _ _).alloc (Nat.le_refl _) _).alloc (by simp) _).alloc (by simp; omega) _).alloc (by simp; omega) _)
  go_enter Tryz.func27, Tryz.ntmps27
  go_upto_region 2 with fail
  rw [← hW]
  clear hW
  obtain ⟨a1, f1, z1⟩ := k1.rules
  go_wp2_with fail
  refine (Best_any w.heap.size (w.heap.size + 1 + 1) (w.heap.size + 1) _ kL kO kB).mono ?_
  rintro e V ⟨A, n, c, rfl, hb⟩
  clear a1 f1 z1
  replace b := b.trans (hb.mono b.size)
  clear hb k1 kL kO kB
  have kn := (Blk.new V 68 #[Value.int .i64 0, Value.int .i64 0, Value.int .i64 0, Value.int .i64 0, Value.int .i64 0, Value.int .i64 0, Value.int .i64 0, Value.int .i64 0, Value.int .i64 0, Value.int .i64 9, Value.int .i64 0, Value.int .i64 9, Value.int .i64 0, Value.int .i64 18, Value.int .i64 (-9), Value.int .i64 9]).alloc (.cells #[Value.int .i64 1, Value.int .i64 0, Value.int .i64 1, Value.int .i64 0, Value.int .i64 2, Value.int .i64 0, Value.int .i64 0, Value.int .i64 0, Value.int .i64 0, Value.int .i64 0, Value.int .i64 0, Value.int .i64 0, Value.int .i64 0, Value.int .i64 0] 160)
  have ko : Blk ((V.alloc (.cells #[Value.int .i64 0, Value.int .i64 0, Value.int .i64 0, Value.int .i64 0, Value.int .i64 0, Value.int .i64 0, Value.int .i64 0, Value.int .i64 0, Value.int .i64 0, Value.int .i64 9, Value.int .i64 0, Value.int .i64 9, Value.int .i64 0, Value.int .i64 18, Value.int .i64 (-9), Value.int .i64 9] 68)).alloc (.cells #[Value.int .i64 1, Value.int .i64 0, Value.int .i64 1, Value.int .i64 0, Value.int .i64 2, Value.int .i64 0, Value.int .i64 0, Value.int .i64 0, Value.int .i64 0, Value.int .i64 0, Value.int .i64 0, Value.int .i64 0, Value.int .i64 0, Value.int .i64 0] 160)) (V.heap.size + 1) 160 #[Value.int .i64 1, Value.int .i64 0, Value.int .i64 1, Value.int .i64 0, Value.int .i64 2, Value.int .i64 0, Value.int .i64 0, Value.int .i64 0, Value.int .i64 0, Value.int .i64 0, Value.int .i64 0, Value.int .i64 0, Value.int .i64 0, Value.int .i64 0] := Blk.newAt (by simp)
  have hb := ((Below.refl V.heap.size V).alloc (Nat.le_refl _) (.cells #[Value.int .i64 0, Value.int .i64 0, Value.int .i64 0, Value.int .i64 0, Value.int .i64 0, Value.int .i64 0, Value.int .i64 0, Value.int .i64 0, Value.int .i64 0, Value.int .i64 9, Value.int .i64 0, Value.int .i64 9, Value.int .i64 0, Value.int .i64 18, Value.int .i64 (-9), Value.int .i64 9] 68)).alloc (by simp) (.cells #[Value.int .i64 1, Value.int .i64 0, Value.int .i64 1, Value.int .i64 0, Value.int .i64 2, Value.int .i64 0, Value.int .i64 0, Value.int .i64 0, Value.int .i64 0, Value.int .i64 0, Value.int .i64 0, Value.int .i64 0, Value.int .i64 0, Value.int .i64 0] 160)
  have hn : RowB _ V.heap.size 68 [Value.int .i64 0, Value.int .i64 0, Value.int .i64 0, Value.int .i64 0, Value.int .i64 0, Value.int .i64 0, Value.int .i64 0, Value.int .i64 0, Value.int .i64 0, Value.int .i64 9, Value.int .i64 0, Value.int .i64 9, Value.int .i64 0, Value.int .i64 18, Value.int .i64 (-9), Value.int .i64 9] := ⟨[], kn⟩
  have ho : RowB _ (V.heap.size + 1) 160 [Value.int .i64 1, Value.int .i64 0, Value.int .i64 1, Value.int .i64 0, Value.int .i64 2, Value.int .i64 0, Value.int .i64 0, Value.int .i64 0, Value.int .i64 0, Value.int .i64 0, Value.int .i64 0, Value.int .i64 0, Value.int .i64 0, Value.int .i64 0] := ⟨[], ko⟩
  go_wp2_with fail
  refine (Fix_any V.heap.size 2 (V.heap.size + 1) 1 _ hn ho).mono ?_
  rintro e V2 ⟨g, k, rfl, hr, hg, hb2⟩
  replace b := (b.trans (hb.mono b.size)).trans (hb2.mono (Nat.le_trans b.size hb.size))
  clear hb hb2 kn ko hn ho hg
  have s1 : SlAt (((V2.alloc (.cells #[Value.int .i64 9, Value.int .i64 64, Value.int .i64 0, Value.int .i64 0, Value.int .i64 0] 139)).alloc (.cells #[Value.int .i64 0] 3)).alloc (.cells #[Value.int .i64 2] 3)) 0 5 Sec.cells (some ⟨V2.heap.size, 0, none⟩) 1 1 strmT.secs := ((((SlAt.of_blk (enc := Sec.cells) (s := 5) (Blk.new V2 139 #[Value.int .i64 9, Value.int .i64 64, Value.int .i64 0, Value.int .i64 0, Value.int .i64 0]) (fun _ => rfl) [(⟨9, 64, 0, 0, 0⟩ : Sec)] rfl (by decide)).mono (Nat.zero_le _)).alloc _).alloc _)
  have s2 : SlAt (((V2.alloc (.cells #[Value.int .i64 9, Value.int .i64 64, Value.int .i64 0, Value.int .i64 0, Value.int .i64 0] 139)).alloc (.cells #[Value.int .i64 0] 3)).alloc (.cells #[Value.int .i64 2] 3)) 0 1 ivs (some ⟨V2.heap.size + 1, 0, none⟩) 1 1 [0] := ((SlAt.of_blk (enc := ivs) (s := 1) (Blk.newAt (w := V2.alloc (.cells #[Value.int .i64 9, Value.int .i64 64, Value.int .i64 0, Value.int .i64 0, Value.int .i64 0] 139)) (g := V2.heap.size + 1) (t := 3) (cs := #[Value.int .i64 0]) (by simp)) (fun _ => rfl) [(0 : Int)] rfl (by decide)).mono (Nat.zero_le _)).alloc _
  have s3 : SlAt (((V2.alloc (.cells #[Value.int .i64 9, Value.int .i64 64, Value.int .i64 0, Value.int .i64 0, Value.int .i64 0] 139)).alloc (.cells #[Value.int .i64 0] 3)).alloc (.cells #[Value.int .i64 2] 3)) 0 1 ivs (some ⟨V2.heap.size + 1 + 1, 0, none⟩) 1 1 [2] := (SlAt.of_blk (enc := ivs) (s := 1) (Blk.newAt (w := (V2.alloc (.cells #[Value.int .i64 9, Value.int .i64 64, Value.int .i64 0, Value.int .i64 0, Value.int .i64 0] 139)).alloc (.cells #[Value.int .i64 0] 3)) (g := V2.heap.size + 1 + 1) (t := 3) (cs := #[Value.int .i64 2]) (by simp)) (fun _ => rfl) [(2 : Int)] rfl (by decide)).mono (Nat.zero_le _)
  have hb := (((Below.refl V2.heap.size V2).alloc (Nat.le_refl _) (.cells #[Value.int .i64 9, Value.int .i64 64, Value.int .i64 0, Value.int .i64 0, Value.int .i64 0] 139)).alloc (by simp) (.cells #[Value.int .i64 0] 3)).alloc (by simp; omega) (.cells #[Value.int .i64 2] 3)
  have hS := Step_any strmT (some ⟨V2.heap.size, 0, none⟩) (some ⟨V2.heap.size + 1, 0, none⟩) (some ⟨V2.heap.size + 1 + 1, 0, none⟩) 1 1 1 1 1 1 0 0 0 [0] [2] _ s1 s2 s3
  rw [stepT0] at hS
  simp only [strmT] at hS
  go_wp2_with fail
  refine hS.mono ?_
  rintro e V3 ⟨O, no, co, rfl, hs, hb2⟩
  obtain rfl : no = 1 := hs.len.symm
  replace hr := (hr.below hb).below hb2
  replace hs := hs.mono (Nat.zero_le _)
  replace b := (b.trans (hb.mono b.size)).trans (hb2.mono (Nat.le_trans b.size hb.size))
  clear hb hb2 s1 s2 s3 hS
  obtain ⟨tl, hr⟩ := hr
  simp only [List.cons_append, List.nil_append] at hr
  obtain ⟨ar, fr, zr⟩ := hr.rules
  have hb := (Below.refl V3.heap.size V3).alloc (Nat.le_refl _) (.cells #[Value.int .i64 5] 3)
  have s5 := (SlAt.of_blk (enc := ivs) (s := 1) (Blk.new V3 3 #[Value.int .i64 5]) (fun _ => rfl) [(5 : Int)] rfl (by decide)).mono (Nat.zero_le _)
  have hA := Alike_any _ _ _ _ _ _ _ _ _ _ _ (hs.below hb) s5
  rw [decide_eq_true rfl] at hA
  go_wp2_with fail
  refine hA.mono ?_
  rintro e V4 ⟨rfl, hb2⟩
  go_wp2
  go_ret
  exact ⟨rfl, (b.trans (hb.mono b.size)).trans (hb2.mono (Nat.le_trans b.size hb.size))⟩
theorem fired_any (w : World) : Calls Tryz.prog 6 #[] w fun e w' => e = .returned (.bool true) ∧ Below w.heap.size w w' := by
  have b := (Below.refl w.heap.size w).alloc (Nat.le_refl _) (.cells #[Value.int .i64 0, Value.int .i64 8, Value.int .i64 12, Value.int .i64 14, Value.int .i64 20, Value.int .i64 27] 3)
  have s1 := (SlAt.of_blk (enc := ivs) (s := 1) (Blk.new w 3 #[Value.int .i64 0, Value.int .i64 8, Value.int .i64 12, Value.int .i64 14, Value.int .i64 20, Value.int .i64 27]) (fun _ => rfl) [(0 : Int), (8 : Int), (12 : Int), (14 : Int), (20 : Int), (27 : Int)] rfl (by decide)).mono (Nat.zero_le _)
  have hF := Fire_any fir0 _ _ _ _ _ _ s1
  rw [fire0] at hF
  simp only [fir0] at hF
  go_enter Tryz.func6, Tryz.ntmps6
  go_wp2_with fail
  refine hF.mono ?_
  rintro e V ⟨O, no, co, rfl, hs, hb⟩
  obtain rfl : no = 4 := hs.len.symm
  replace b := b.trans (hb.mono b.size)
  clear hb s1 hF
  have hb := (Below.refl V.heap.size V).alloc (Nat.le_refl _) (.cells #[Value.int .i64 0, Value.int .i64 1, Value.int .i64 1] 3)
  have s1 := (SlAt.of_blk (enc := ivs) (s := 1) (Blk.new V 3 #[Value.int .i64 0, Value.int .i64 1, Value.int .i64 1]) (fun _ => rfl) [(0 : Int), (1 : Int), (1 : Int)] rfl (by decide)).mono (Nat.zero_le _)
  have hF := Allow_any rul0 _ 4 _ _ _ _ _ s1
  rw [allow0] at hF
  simp only [rul0] at hF
  go_wp2_with fail
  refine hF.mono ?_
  rintro e V2 ⟨rfl, hb2⟩
  replace hs := (hs.below hb).below hb2
  replace b := (b.trans (hb.mono b.size)).trans (hb2.mono (Nat.le_trans b.size hb.size))
  clear hb hb2 s1 hF
  obtain ⟨g, o, rfl, -, hl, e0, e1, e2⟩ := hs.sht (k := 3) (x := ⟨5, 1, true⟩) rfl
  clear hs
  go_wp2_with fail
  refine (steered_any _).mono ?_
  rintro e V3 ⟨rfl, hb⟩
  go_wp2
  go_ret
  exact ⟨rfl, b.trans (hb.mono b.size)⟩
end Go.Proofs.YtcmbmmpihiekhaaGreat
