/-
  The package fix, walks: fixed at the example.
-/
import Derived.Test.YtcmbmmpihiekhaaGreatC27
set_option maxRecDepth 100000
set_option maxHeartbeats 16000000
set_option linter.unusedSimpArgs false
set_option linter.unusedVariables false
namespace Go.Proofs.YtcmbmmpihiekhaaGreat
open Go.RowKit Go.Shelf
attribute [local go_sem] Oper.semAt_some

theorem fixed1_any (gn c go co gN gg gt : Nat) (w : World) (hn : RowB w gn 68 [Value.int .i64 0, Value.int .i64 0, Value.int .i64 0, Value.int .i64 0, Value.int .i64 0, Value.int .i64 0, Value.int .i64 0, Value.int .i64 0, Value.int .i64 0, Value.int .i64 9, Value.int .i64 0, Value.int .i64 9, Value.int .i64 0, Value.int .i64 18, Value.int .i64 (-9), Value.int .i64 9]) (hO : RowB w go 108 [.iface 242 (.agg #[.int .i64 0, .int .i64 1, .int .i64 0, .int .i64 2])]) (kN : Blk w gN 102 #[.slice (some ⟨gn, 0, none⟩) 2 c, .slice (some ⟨go, 0, none⟩) 1 co]) (kg : Blk w gg 33 #[.slice none 0 0]) (kt : Blk w gt 33 #[.slice none 0 0]) (hgt : gg ≠ gt) : Calls Tryz.prog 78 #[.pointer (some ⟨gN, 0, none⟩), .pointer (some ⟨gg, 0, none⟩), .pointer (some ⟨gt, 0, none⟩)] w fun e w' => e = .returned (.tuple #[]) ∧ RowB w' gn 68 [Value.int .i64 0, Value.int .i64 0, Value.int .i64 0, Value.int .i64 0, Value.int .i64 0, Value.int .i64 0, Value.int .i64 0, Value.int .i64 0, Value.int .i64 0, Value.int .i64 1, Value.int .i64 0, Value.int .i64 1, Value.int .i64 0, Value.int .i64 2, Value.int .i64 (-1), Value.int .i64 1] ∧ (∃ g k, Blk w' gt 33 #[.slice (some ⟨g, 0, none⟩) 1 k]) ∧ BelowH (fun k => k = gn ∨ k = gt) w.heap.size w w' := by
  have hmf := @hmfT Tryz.prog
  have hst := narrow_any gn c go co gg gt w hn hO kg kt hgt
  obtain ⟨c1, f1, l1⟩ := kN.rules
  go_enter Tryz.func78, Tryz.ntmps78
  go_wp2_with fail
  refine hst.mono ?_
  rintro e W ⟨rfl, hr, hk, hb⟩
  go_wp2
  go_end0
  exact ⟨rfl, hr, hk, hb⟩
theorem failedF_any (gn c go co gN gg gt : Nat) (w : World) (hn : RowB w gn 68 [Value.int .i64 0, Value.int .i64 0, Value.int .i64 0, Value.int .i64 0, Value.int .i64 0, Value.int .i64 0, Value.int .i64 0, Value.int .i64 0, Value.int .i64 0, Value.int .i64 9, Value.int .i64 0, Value.int .i64 9, Value.int .i64 0, Value.int .i64 18, Value.int .i64 (-9), Value.int .i64 9]) (hO : RowB w go 108 [.iface 242 (.agg #[.int .i64 0, .int .i64 1, .int .i64 0, .int .i64 2])]) (kN : Blk w gN 102 #[.slice (some ⟨gn, 0, none⟩) 2 c, .slice (some ⟨go, 0, none⟩) 1 co]) (kg : Blk w gg 33 #[.slice none 0 0]) (kt : Blk w gt 33 #[.slice none 0 0]) (hgt : gg ≠ gt) : Calls Tryz.prog 77 #[.func (.func 78) #[] #[.pointer (some ⟨gN, 0, none⟩), .pointer (some ⟨gg, 0, none⟩), .pointer (some ⟨gt, 0, none⟩)]] w fun e w' => e = .returned (.bool false) ∧ RowB w' gn 68 [Value.int .i64 0, Value.int .i64 0, Value.int .i64 0, Value.int .i64 0, Value.int .i64 0, Value.int .i64 0, Value.int .i64 0, Value.int .i64 0, Value.int .i64 0, Value.int .i64 1, Value.int .i64 0, Value.int .i64 1, Value.int .i64 0, Value.int .i64 2, Value.int .i64 (-1), Value.int .i64 1] ∧ (∃ g k, Blk w' gt 33 #[.slice (some ⟨g, 0, none⟩) 1 k]) ∧ BelowH (fun k => k = gn ∨ k = gt) w.heap.size w w' := by
  have hmf := @hmfT Tryz.prog
  have hnl := hn.lt
  have htl := kt.lt
  have hb0 := (Below.refl w.heap.size w).alloc (Nat.le_refl _) (.cells #[.bool false] 4)
  have kB := Blk.new w 4 #[.bool false]
  have hcl := fixed1_any gn c go co gN gg gt _ (hn.below hb0) (hO.below hb0) (kN.below hb0) (kg.below hb0) (kt.below hb0) hgt
  have hsz : (w.alloc (.cells #[.bool false] 4)).heap.size = w.heap.size + 1 := by simp
  go_enter_defers Tryz.func77, Tryz.ntmps77
  go_wp2_with fail
  refine hcl.mono ?_
  rintro e W ⟨rfl, hr, ⟨gq, kq, kc⟩, hb⟩
  replace kB := hb.blk kB (by rw [hsz]; omega) (by rintro (h | h) <;> omega)
  replace hb : BelowH (fun k => k = gn ∨ k = gt) w.heap.size w W := (belowH_of hb0).trans (hb.mono (by rw [hsz]; omega))
  obtain ⟨c3, f3, l3⟩ := kB.rules
  clear hcl hsz hb0
  go_wp2
  have kz := kB.set_ 0 (.bool false)
  simp only [sA, sZ] at kz
  obtain ⟨r1, r2, r3⟩ := kz.rules
  refine leaves_cons (f := 125) (args := #[.pointer (some ⟨w.heap.size, 0, none⟩)]) (by simp) (by simp [go_sem]) ?_
  refine (caught_idle _ _).mono ?_
  rintro e u' w'' ⟨rfl, rfl, rfl⟩
  simp only [Leaves, settle]
  refine ⟨.bool false, by simp [results, Tryz.results77, go_sem, r1], rfl, hr.far (by dsimp only; omega) _, ⟨gq, kq, kc.far (by dsimp only; omega) _⟩, hb.setNew (by dsimp only; omega) _⟩
theorem fixed_any (gn c go co : Nat) (w : World) (hn : RowB w gn 68 [Value.int .i64 0, Value.int .i64 0, Value.int .i64 0, Value.int .i64 0, Value.int .i64 0, Value.int .i64 0, Value.int .i64 0, Value.int .i64 0, Value.int .i64 0, Value.int .i64 9, Value.int .i64 0, Value.int .i64 9, Value.int .i64 0, Value.int .i64 18, Value.int .i64 (-9), Value.int .i64 9]) (hO : RowB w go 108 [.iface 242 (.agg #[.int .i64 0, .int .i64 1, .int .i64 0, .int .i64 2])]) : Calls Tryz.prog 34 #[.agg #[.slice (some ⟨gn, 0, none⟩) 2 c, .slice (some ⟨go, 0, none⟩) 1 co], .slice none 0 0] w fun e w' => ∃ g k A m j, e = .returned (.tuple #[.slice (some ⟨g, 0, none⟩) 2 k, .slice A m j, .bool true]) ∧ RowB w' g 68 [Value.int .i64 0, Value.int .i64 0, Value.int .i64 0, Value.int .i64 0, Value.int .i64 0, Value.int .i64 0, Value.int .i64 0, Value.int .i64 0, Value.int .i64 0, Value.int .i64 1, Value.int .i64 0, Value.int .i64 1, Value.int .i64 0, Value.int .i64 2, Value.int .i64 (-1), Value.int .i64 1] ∧ w.heap.size ≤ g ∧ Below w.heap.size w w' := by
  have hmf := @hmfT Tryz.prog
  have ln := hn.lt
  have lO := hO.lt
  obtain ⟨W, hW⟩ : ∃ q0, q0 = (((w.alloc (.cells #[.slice (some ⟨gn, 0, none⟩) 2 c, .slice (some ⟨go, 0, none⟩) 1 co] 102)).alloc (.cells #[.slice none 0 0] 33)).alloc (.cells #[.slice none 0 0] 33)) := ⟨_, rfl⟩
  have k2 : Blk W (w.heap.size) 102 #[.slice (some ⟨gn, 0, none⟩) 2 c, .slice (some ⟨go, 0, none⟩) 1 co] := by rw [hW]; exact (((Blk.new _ _ _).alloc _).alloc _)
  have k3 : Blk W (w.heap.size + 1) 33 #[.slice none 0 0] := by rw [hW]; exact ((Blk.newAt (by simp)).alloc _)
  have k5 : Blk W (w.heap.size + 1 + 1) 33 #[.slice none 0 0] := by rw [hW]; exact (Blk.newAt (by simp))
  have b : Below w.heap.size w W := by rw [hW]; exact ((((Below.refl _ _).alloc (Nat.le_refl _) _).alloc (by simp) _).alloc (by simp; omega) _)
  go_enter Tryz.func34, Tryz.ntmps34
  go_upto_region 1 with fail
  rw [← hW]
  clear hW
  replace hn := hn.belowB b ln
  replace hO := hO.belowB b lO
  obtain ⟨c2, f2, l2⟩ := k2.rules
  go_wp2_with fail
  refine (CloneR_any [Value.int .i64 0, Value.int .i64 0, Value.int .i64 0, Value.int .i64 0, Value.int .i64 0, Value.int .i64 0, Value.int .i64 0, Value.int .i64 0, Value.int .i64 0, Value.int .i64 9, Value.int .i64 0, Value.int .i64 9, Value.int .i64 0, Value.int .i64 18, Value.int .i64 (-9), Value.int .i64 9] gn c _ hn rfl (by simp [Value.oneCell'])).mono ?_
  rintro e V ⟨g1, c1, rfl, hr, hg1, hb⟩
  clear c2 f2 l2
  have z5 := k5.lt
  replace k2 := k2.below hb
  replace k3 := k3.below hb
  replace k5 := k5.below hb
  replace hO := hO.below hb
  replace b := b.trans (hb.mono b.size)
  clear hb
  obtain ⟨c2, f2, l2⟩ := k2.rules
  go_upto_region 2 with fail
  clear c2 f2 l2
  replace k2 := k2.set_ 0 (.slice (some ⟨g1, 0, none⟩) 2 c1)
  simp only [sA, sZ] at k2
  replace k3 := k3.far (p := ⟨w.heap.size, 0, none⟩) (by dsimp only; omega) (.slice (some ⟨g1, 0, none⟩) 2 c1)
  replace k5 := k5.far (p := ⟨w.heap.size, 0, none⟩) (by dsimp only; omega) (.slice (some ⟨g1, 0, none⟩) 2 c1)
  replace hO := hO.far (p := ⟨w.heap.size, 0, none⟩) (by dsimp only; omega) (.slice (some ⟨g1, 0, none⟩) 2 c1)
  replace hr := hr.far (p := ⟨w.heap.size, 0, none⟩) (by dsimp only; omega) (.slice (some ⟨g1, 0, none⟩) 2 c1)
  replace b := b.setCell (p := ⟨w.heap.size, 0, none⟩) (by dsimp only; omega) (.slice (some ⟨g1, 0, none⟩) 2 c1)
  generalize V.setCell ⟨w.heap.size, 0, none⟩ (.slice (some ⟨g1, 0, none⟩) 2 c1) = V1 at *
  have zO := hO.lt
  have zr := hr.lt
  have hg2 : w.heap.size ≤ g1 := by omega
  go_wp2_with fail
  refine (failedF_any g1 c1 go co w.heap.size (w.heap.size + 1) (w.heap.size + 1 + 1) _ hr hO k2 k3 k5 (by omega)).mono ?_
  rintro e V2 ⟨rfl, hr9, ⟨gq, kq, k59⟩, hb⟩
  have z2 := k2.lt
  replace k2 := hb.blk k2 z2 (by rintro (h | h) <;> omega)
  replace b := b.trans ((hb.mono b.size).off (fun k h => by rcases h with h | h <;> omega))
  clear hb hr k5
  have hr := hr9
  have k5 := k59
  clear hr9 k59
  go_wp2_with fail
  replace b := b.drew
  replace hr : RowB V2.drew g1 68 [Value.int .i64 0, Value.int .i64 0, Value.int .i64 0, Value.int .i64 0, Value.int .i64 0, Value.int .i64 0, Value.int .i64 0, Value.int .i64 0, Value.int .i64 0, Value.int .i64 1, Value.int .i64 0, Value.int .i64 1, Value.int .i64 0, Value.int .i64 2, Value.int .i64 (-1), Value.int .i64 1] := let ⟨tl, h⟩ := hr; ⟨tl, h.drew⟩
  refine wp_held_np (fun w' : World => (∀ j, w'.cell? ⟨w.heap.size, j, none⟩ = #[Value.slice (some ⟨g1, 0, none⟩) 2 c1, .slice (some ⟨go, 0, none⟩) 1 co][j]?) ∧ (∀ j, w'.cell? ⟨w.heap.size + 1 + 1, j, none⟩ = #[Value.slice (some ⟨gq, 0, none⟩) 1 kq][j]?)) (by kernel_rfl) ?_
  have hS : (fun w' : World => (∀ j, w'.cell? ⟨w.heap.size, j, none⟩ = #[Value.slice (some ⟨g1, 0, none⟩) 2 c1, .slice (some ⟨go, 0, none⟩) 1 co][j]?) ∧ (∀ j, w'.cell? ⟨w.heap.size + 1 + 1, j, none⟩ = #[Value.slice (some ⟨gq, 0, none⟩) 1 kq][j]?)) V2.drew := ⟨k2.cell, k5.cell⟩
  replace k2 := k2.drew
  replace k5 := k5.drew
  generalize V2.drew = wd at *
  refine hTk 0 14 ?_
  refine hTk 1 15 ?_
  refine hTk 2 16 ?_
  refine hTk 3 17 ?_
  refine hTk 4 18 ?_
  refine hTk 5 4 ?_
  have kz := k5.set_ 0 (.slice (some ⟨gq, 0, none⟩) 1 kq)
  simp only [sA, sZ] at kz
  have bz := b.setCell (p := ⟨w.heap.size + 1 + 1, 0, none⟩) (by dsimp only; omega) (.slice (some ⟨gq, 0, none⟩) 1 kq)
  have k2z := k2.far (p := ⟨w.heap.size + 1 + 1, 0, none⟩) (by dsimp only; omega) (.slice (some ⟨gq, 0, none⟩) 1 kq)
  have hrz := hr.far (p := ⟨w.heap.size + 1 + 1, 0, none⟩) (by dsimp only; omega) (.slice (some ⟨gq, 0, none⟩) 1 kq)
  obtain ⟨V3, hwz⟩ : ∃ q0, q0 = wd.setCell ⟨w.heap.size + 1 + 1, 0, none⟩ (.slice (some ⟨gq, 0, none⟩) 1 kq) := ⟨_, rfl⟩
  rw [← hwz] at kz bz k2z hrz
  obtain ⟨c9, f9, l9⟩ := k5.rules
  refine hOne 6 fun K hK => ?_
  go_simp
  rw [← hwz]
  clear hwz c9 f9 l9 k5 b hS k2 hr
  have hS : (fun w' : World => (∀ j, w'.cell? ⟨w.heap.size, j, none⟩ = #[Value.slice (some ⟨g1, 0, none⟩) 2 c1, .slice (some ⟨go, 0, none⟩) 1 co][j]?) ∧ (∀ j, w'.cell? ⟨w.heap.size + 1 + 1, j, none⟩ = #[Value.slice (some ⟨gq, 0, none⟩) 1 kq][j]?)) V3 := ⟨k2z.cell, kz.cell⟩
  refine hK _ _ hS ?_
  clear hK K
  try simp only [Act.put, sA, sZ, sS]
  refine hTk 7 6 ?_
  refine wpAnyH_done (by kernel_rfl) (noPanic_normal ?_) _
  clear hS
  go_wp2
  obtain ⟨r1, r1f, r1l⟩ := kz.rules
  exact bodyPost_ret (v := .tuple #[.slice (some ⟨g1, 0, none⟩) 2 c1, .slice (some ⟨gq, 0, none⟩) 1 kq, .bool true]) (by simp [results, Tryz.results34, go_sem, r1]) rfl ⟨g1, c1, _, _, _, rfl, hrz, hg2, bz⟩
end Go.Proofs.YtcmbmmpihiekhaaGreat
