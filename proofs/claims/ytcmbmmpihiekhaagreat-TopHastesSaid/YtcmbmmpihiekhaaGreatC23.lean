/-
  The package fix, walks: region.Meet, cut, possible, read; lists of regions.
-/
import Derived.Test.YtcmbmmpihiekhaaGreatC22
set_option maxRecDepth 100000
set_option maxHeartbeats 16000000
set_option linter.unusedSimpArgs false
set_option linter.unusedVariables false
namespace Go.Proofs.YtcmbmmpihiekhaaGreat
open Go.RowKit Go.Shelf
attribute [local go_sem] Oper.semAt_some

theorem Meet_any (ra rb R : Reg) (w : World) (ha : okReg ra = true) (hb0 : okReg rb = true) (hc : okReg (zipR cutB ra rb) = true) (hR : tightO (zipR cutB ra rb) = some R) :
    Calls Tryz.prog 167 #[.agg (regA ra), .agg (regA rb)] w fun e w' => e = .returned (.tuple #[.agg (regA R), .int .i64 0]) ∧ Below w.heap.size w w' := by
  have hc1 := fun W => rCheck_any ra W
  have hc2 := fun W => rCheck_any rb W
  have e1 : chkReg ra = 0 := by simp [chkReg, ha]
  have e2 : chkReg rb = 0 := by simp [chkReg, hb0]
  simp only [e1] at hc1
  simp only [e2] at hc2
  have hr1 := fun W => rbounds_any ra W
  have hr2 := fun W => rbounds_any rb W
  have hco := fun W => combined_any ra rb cutB 74 W eg_cutB (okReg_mid ha) (okReg_mid hb0) op_cutB
  have hti := fun W => tight_any (zipR cutB ra rb) W hc
  simp only [hR, doneR] at hti
  have hdo := fun W => done_any R 0 W
  simp only [if_true] at hdo
  generalize zipR cutB ra rb = M at *
  have hfi := fun g W h => firstE_any (some ⟨g, 0, none⟩) 2 2 0 [0, 0] W h
  have e3 : firstE [0, 0] = 0 := rfl
  simp only [e3] at hfi
  simp only [regA] at hc1 hc2 hr1 hr2 hco hti hdo ⊢
  clear e1 e2 e3 ha hb0 hc hR
  obtain ⟨W, hW⟩ : ∃ q0, q0 = (((w.alloc (.cells #[.int .i64 ra.x.lo, .int .i64 ra.x.hi, .int .i64 ra.y.lo, .int .i64 ra.y.hi, .int .i64 ra.s.lo, .int .i64 ra.s.hi, .int .i64 ra.d.lo, .int .i64 ra.d.hi] 68)).alloc (.cells #[.int .i64 rb.x.lo, .int .i64 rb.x.hi, .int .i64 rb.y.lo, .int .i64 rb.y.hi, .int .i64 rb.s.lo, .int .i64 rb.s.hi, .int .i64 rb.d.lo, .int .i64 rb.d.hi] 68)).alloc (.cells #[.int .i64 0, .int .i64 0, .int .i64 0, .int .i64 0, .int .i64 0, .int .i64 0, .int .i64 0, .int .i64 0] 68)) := ⟨_, rfl⟩
  have k2 : Blk W (w.heap.size) 68 #[.int .i64 ra.x.lo, .int .i64 ra.x.hi, .int .i64 ra.y.lo, .int .i64 ra.y.hi, .int .i64 ra.s.lo, .int .i64 ra.s.hi, .int .i64 ra.d.lo, .int .i64 ra.d.hi] := by rw [hW]; exact (((Blk.new _ _ _).alloc _).alloc _)
  have k3 : Blk W (w.heap.size + 1) 68 #[.int .i64 rb.x.lo, .int .i64 rb.x.hi, .int .i64 rb.y.lo, .int .i64 rb.y.hi, .int .i64 rb.s.lo, .int .i64 rb.s.hi, .int .i64 rb.d.lo, .int .i64 rb.d.hi] := by rw [hW]; exact ((Blk.newAt (by simp)).alloc _)
  have k4 : Blk W (w.heap.size + 1 + 1) 68 #[.int .i64 0, .int .i64 0, .int .i64 0, .int .i64 0, .int .i64 0, .int .i64 0, .int .i64 0, .int .i64 0] := by rw [hW]; exact (Blk.newAt (by simp))
  have b : Below w.heap.size w W := by rw [hW]; exact ((((Below.refl _ _).alloc (Nat.le_refl _) _).alloc (by simp) _).alloc (by simp; omega) _)
  go_enter Tryz.func167, Tryz.ntmps167
  go_upto_region 1 with fail
  rw [← hW]
  clear hW
  have hk4 := k4.lt
  refine hOpn (fun w' : World => (∀ j, w'.cell? ⟨w.heap.size, j, none⟩ = #[Value.int .i64 ra.x.lo, .int .i64 ra.x.hi, .int .i64 ra.y.lo, .int .i64 ra.y.hi, .int .i64 ra.s.lo, .int .i64 ra.s.hi, .int .i64 ra.d.lo, .int .i64 ra.d.hi][j]?) ∧ (∀ j, w'.cell? ⟨w.heap.size + 1, j, none⟩ = #[Value.int .i64 rb.x.lo, .int .i64 rb.x.hi, .int .i64 rb.y.lo, .int .i64 rb.y.hi, .int .i64 rb.s.lo, .int .i64 rb.s.hi, .int .i64 rb.d.lo, .int .i64 rb.d.hi][j]?)) (fun W' hbb => ⟨(k2.below hbb).cell, (k3.below hbb).cell⟩) fun hSb hb9 hS hg9 => ?_
  generalize W.drew = wd at *
  refine hTk 0 7 ?_
  refine hTk 2 9 ?_
  refine hOne 1 fun K hK => ?_
  go_simp
  refine (hc1 _).mono ?_
  rintro e X1 ⟨rfl, hbel⟩
  replace hb9 := hb9.trans (hbel.mono hb9.size)
  clear hbel
  refine hK _ _ (hSb.out _ hb9) ?_
  clear hK K
  try simp only [Act.put, sA, sZ, sS]
  clear hS
  have hS := hSb.out _ hb9
  refine hOne 3 fun K hK => ?_
  go_simp
  refine (hc2 _).mono ?_
  rintro e X2 ⟨rfl, hbel⟩
  replace hb9 := hb9.trans (hbel.mono hb9.size)
  clear hbel
  refine hK _ _ (hSb.out _ hb9) ?_
  clear hK K
  try simp only [Act.put, sA, sZ, sS]
  clear hS
  have hS := hSb.out _ hb9
  refine hOne 4 fun K hK => ?_
  go_simp
  have kl := Blk.new X2 36 #[.int .i64 0, .int .i64 0]
  have hg_gl := hb9.size
  replace hb9 := hb9.alloc hb9.size (.cells #[.int .i64 0, .int .i64 0] 36)
  refine hK _ _ (hSb.out _ hb9) ?_
  clear hK K
  try simp only [Act.put, sA, sZ, sS]
  clear hS
  have hS := hSb.out _ hb9
  generalize X2.heap.size = gl at *
  generalize X2.alloc (.cells #[.int .i64 0, .int .i64 0] 36) = X3 at *
  have hsl := SlAt.two kl
  refine hOne 5 fun K hK => ?_
  go_simp
  refine (hfi _ _ hsl).mono ?_
  rintro e w' ⟨rfl, rfl⟩
  refine hK _ _ (hSb.out _ hb9) ?_
  clear hK K
  try simp only [Act.put, sA, sZ, sS]
  clear hS
  have hS := hSb.out _ hb9
  clear hsl kl
  refine hTk 6 6 ?_
  refine wpAnyH_done (by kernel_rfl) (noPanic_normal ?_) _
  clear hS
  try clear hSb
  replace k2 := k2.below hb9
  replace k3 := k3.below hb9
  replace k4 := k4.below hb9
  replace b := b.trans (hb9.mono b.size)
  clear hb9 hg9 hfi hc1 hc2
  go_wp2_with fail
  refine hOpn (fun w' : World => (∀ j, w'.cell? ⟨w.heap.size, j, none⟩ = #[Value.int .i64 ra.x.lo, .int .i64 ra.x.hi, .int .i64 ra.y.lo, .int .i64 ra.y.hi, .int .i64 ra.s.lo, .int .i64 ra.s.hi, .int .i64 ra.d.lo, .int .i64 ra.d.hi][j]?) ∧ (∀ j, w'.cell? ⟨w.heap.size + 1, j, none⟩ = #[Value.int .i64 rb.x.lo, .int .i64 rb.x.hi, .int .i64 rb.y.lo, .int .i64 rb.y.hi, .int .i64 rb.s.lo, .int .i64 rb.s.hi, .int .i64 rb.d.lo, .int .i64 rb.d.hi][j]?)) (fun W' hbb => ⟨(k2.below hbb).cell, (k3.below hbb).cell⟩) fun hSb hb9 hS hg9 => ?_
  generalize X3.drew = we at *
  refine hTk 0 17 ?_
  refine hTk 2 19 ?_
  refine hOne 1 fun K hK => ?_
  go_simp
  refine (hr1 _).mono ?_
  rintro e Y1 ⟨rfl, hbel⟩
  replace hb9 := hb9.trans (hbel.mono hb9.size)
  clear hbel
  refine hK _ _ (hSb.out _ hb9) ?_
  clear hK K
  try simp only [Act.put, sA, sZ, sS]
  clear hS
  have hS := hSb.out _ hb9
  refine hOne 3 fun K hK => ?_
  go_simp
  refine (hr2 _).mono ?_
  rintro e Y2 ⟨rfl, hbel⟩
  replace hb9 := hb9.trans (hbel.mono hb9.size)
  clear hbel
  refine hK _ _ (hSb.out _ hb9) ?_
  clear hK K
  try simp only [Act.put, sA, sZ, sS]
  clear hS
  have hS := hSb.out _ hb9
  refine hOne 4 fun K hK => ?_
  go_simp
  refine (hco _).mono ?_
  rintro e Y3 ⟨rfl, hbel⟩
  replace hb9 := hb9.trans (hbel.mono hb9.size)
  clear hbel
  refine hK _ _ (hSb.out _ hb9) ?_
  clear hK K
  try simp only [Act.put, sA, sZ, sS]
  clear hS
  have hS := hSb.out _ hb9
  refine hOne 5 fun K hK => ?_
  go_simp
  refine (hti _).mono ?_
  rintro e Y4 ⟨rfl, hbel⟩
  replace hb9 := hb9.trans (hbel.mono hb9.size)
  clear hbel
  refine hK _ _ (hSb.out _ hb9) ?_
  clear hK K
  try simp only [Act.put, sA, sZ, sS]
  clear hS
  have hS := hSb.out _ hb9
  refine hTk 6 23 ?_
  refine hTk 7 24 ?_
  refine hOne 8 fun K hK => ?_
  go_simp
  refine (hdo _).mono ?_
  rintro e Y5 ⟨rfl, hbel⟩
  replace hb9 := hb9.trans (hbel.mono hb9.size)
  clear hbel
  refine hK _ _ (hSb.out _ hb9) ?_
  clear hK K
  try simp only [Act.put, sA, sZ, sS]
  clear hS
  have hS := hSb.out _ hb9
  refine hTk 9 26 ?_
  refine hTk 10 27 ?_
  have hk4 := k4.lt
  replace k4 := k4.below hb9
  replace k2 := k2.below hb9
  replace k3 := k3.below hb9
  replace b := b.trans (hb9.mono b.size)
  have kz := ((((((((k4.set_ 0 (.int .i64 R.x.lo)).set_ 1 (.int .i64 R.x.hi)).set_ 2 (.int .i64 R.y.lo)).set_ 3 (.int .i64 R.y.hi)).set_ 4 (.int .i64 R.s.lo)).set_ 5 (.int .i64 R.s.hi)).set_ 6 (.int .i64 R.d.lo)).set_ 7 (.int .i64 R.d.hi))
  simp only [sA, sZ, sS] at kz
  have bz := ((((((((b.setCell (p := ⟨w.heap.size + 1 + 1, 0, none⟩) (by dsimp only; omega) (.int .i64 R.x.lo)).setCell (p := ⟨w.heap.size + 1 + 1, 1, none⟩) (by dsimp only; omega) (.int .i64 R.x.hi)).setCell (p := ⟨w.heap.size + 1 + 1, 2, none⟩) (by dsimp only; omega) (.int .i64 R.y.lo)).setCell (p := ⟨w.heap.size + 1 + 1, 3, none⟩) (by dsimp only; omega) (.int .i64 R.y.hi)).setCell (p := ⟨w.heap.size + 1 + 1, 4, none⟩) (by dsimp only; omega) (.int .i64 R.s.lo)).setCell (p := ⟨w.heap.size + 1 + 1, 5, none⟩) (by dsimp only; omega) (.int .i64 R.s.hi)).setCell (p := ⟨w.heap.size + 1 + 1, 6, none⟩) (by dsimp only; omega) (.int .i64 R.d.lo)).setCell (p := ⟨w.heap.size + 1 + 1, 7, none⟩) (by dsimp only; omega) (.int .i64 R.d.hi))
  have k2z := ((((((((k2.far (p := ⟨w.heap.size + 1 + 1, 0, none⟩) (by dsimp only; omega) (.int .i64 R.x.lo)).far (p := ⟨w.heap.size + 1 + 1, 1, none⟩) (by dsimp only; omega) (.int .i64 R.x.hi)).far (p := ⟨w.heap.size + 1 + 1, 2, none⟩) (by dsimp only; omega) (.int .i64 R.y.lo)).far (p := ⟨w.heap.size + 1 + 1, 3, none⟩) (by dsimp only; omega) (.int .i64 R.y.hi)).far (p := ⟨w.heap.size + 1 + 1, 4, none⟩) (by dsimp only; omega) (.int .i64 R.s.lo)).far (p := ⟨w.heap.size + 1 + 1, 5, none⟩) (by dsimp only; omega) (.int .i64 R.s.hi)).far (p := ⟨w.heap.size + 1 + 1, 6, none⟩) (by dsimp only; omega) (.int .i64 R.d.lo)).far (p := ⟨w.heap.size + 1 + 1, 7, none⟩) (by dsimp only; omega) (.int .i64 R.d.hi))
  have k3z := ((((((((k3.far (p := ⟨w.heap.size + 1 + 1, 0, none⟩) (by dsimp only; omega) (.int .i64 R.x.lo)).far (p := ⟨w.heap.size + 1 + 1, 1, none⟩) (by dsimp only; omega) (.int .i64 R.x.hi)).far (p := ⟨w.heap.size + 1 + 1, 2, none⟩) (by dsimp only; omega) (.int .i64 R.y.lo)).far (p := ⟨w.heap.size + 1 + 1, 3, none⟩) (by dsimp only; omega) (.int .i64 R.y.hi)).far (p := ⟨w.heap.size + 1 + 1, 4, none⟩) (by dsimp only; omega) (.int .i64 R.s.lo)).far (p := ⟨w.heap.size + 1 + 1, 5, none⟩) (by dsimp only; omega) (.int .i64 R.s.hi)).far (p := ⟨w.heap.size + 1 + 1, 6, none⟩) (by dsimp only; omega) (.int .i64 R.d.lo)).far (p := ⟨w.heap.size + 1 + 1, 7, none⟩) (by dsimp only; omega) (.int .i64 R.d.hi))
  obtain ⟨Xz, hwz⟩ : ∃ q0, q0 = ((((((((Y5.setCell ⟨w.heap.size + 1 + 1, 0, none⟩ (.int .i64 R.x.lo)).setCell ⟨w.heap.size + 1 + 1, 1, none⟩ (.int .i64 R.x.hi)).setCell ⟨w.heap.size + 1 + 1, 2, none⟩ (.int .i64 R.y.lo)).setCell ⟨w.heap.size + 1 + 1, 3, none⟩ (.int .i64 R.y.hi)).setCell ⟨w.heap.size + 1 + 1, 4, none⟩ (.int .i64 R.s.lo)).setCell ⟨w.heap.size + 1 + 1, 5, none⟩ (.int .i64 R.s.hi)).setCell ⟨w.heap.size + 1 + 1, 6, none⟩ (.int .i64 R.d.lo)).setCell ⟨w.heap.size + 1 + 1, 7, none⟩ (.int .i64 R.d.hi)) := ⟨_, rfl⟩
  rw [← hwz] at kz bz k2z k3z
  obtain ⟨c9, f9, l9⟩ := k4.rules
  refine hOne 11 fun K hK => ?_
  go_simp
  rw [← hwz]
  clear hwz c9 f9 l9 k4 b hS hSb hb9
  have k4 := kz
  have b := bz
  clear kz bz
  replace k2 := k2z
  clear k2z
  replace k3 := k3z
  clear k3z
  have hS : (fun w' : World => (∀ j, w'.cell? ⟨w.heap.size, j, none⟩ = #[Value.int .i64 ra.x.lo, .int .i64 ra.x.hi, .int .i64 ra.y.lo, .int .i64 ra.y.hi, .int .i64 ra.s.lo, .int .i64 ra.s.hi, .int .i64 ra.d.lo, .int .i64 ra.d.hi][j]?) ∧ (∀ j, w'.cell? ⟨w.heap.size + 1, j, none⟩ = #[Value.int .i64 rb.x.lo, .int .i64 rb.x.hi, .int .i64 rb.y.lo, .int .i64 rb.y.hi, .int .i64 rb.s.lo, .int .i64 rb.s.hi, .int .i64 rb.d.lo, .int .i64 rb.d.hi][j]?)) Xz := ⟨k2.cell, k3.cell⟩
  refine hK _ _ hS ?_
  clear hK K
  try simp only [Act.put, sA, sZ, sS]
  refine hTk 12 5 ?_
  refine wpAnyH_done (by kernel_rfl) (noPanic_normal ?_) _
  clear hS
  try clear hSb
  go_wp2
  obtain ⟨r1, r1f, r1l⟩ := k4.rules
  exact bodyPost_ret (v := .tuple #[.agg #[.int .i64 R.x.lo, .int .i64 R.x.hi, .int .i64 R.y.lo, .int .i64 R.y.hi, .int .i64 R.s.lo, .int .i64 R.s.hi, .int .i64 R.d.lo, .int .i64 R.d.hi], .int .i64 0]) (by simp [results, Tryz.results167, go_sem, r1]) rfl ⟨rfl, b⟩
theorem fcut_any (ra rb R : Reg) (w : World) (ha : okReg ra = true) (hb0 : okReg rb = true) (hc : okReg (zipR cutB ra rb) = true) (hR : tightO (zipR cutB ra rb) = some R) :
    Calls Tryz.prog 150 #[.agg #[.int .i64 ra.x.lo, .int .i64 ra.x.hi, .int .i64 ra.y.lo, .int .i64 ra.y.hi, .int .i64 ra.s.lo, .int .i64 ra.s.hi, .int .i64 ra.d.lo, .int .i64 ra.d.hi], .agg #[.int .i64 rb.x.lo, .int .i64 rb.x.hi, .int .i64 rb.y.lo, .int .i64 rb.y.hi, .int .i64 rb.s.lo, .int .i64 rb.s.hi, .int .i64 rb.d.lo, .int .i64 rb.d.hi]] w fun e w' => e = .returned (.agg #[.int .i64 R.x.lo, .int .i64 R.x.hi, .int .i64 R.y.lo, .int .i64 R.y.hi, .int .i64 R.s.lo, .int .i64 R.s.hi, .int .i64 R.d.lo, .int .i64 R.d.hi]) ∧ Below w.heap.size w w' := by
  have hm := fun W => Meet_any ra rb R W ha hb0 hc hR
  simp only [regA] at hm
  clear ha hb0 hc hR
  obtain ⟨W, hW⟩ : ∃ q0, q0 = (((w.alloc (.cells #[.int .i64 ra.x.lo, .int .i64 ra.x.hi, .int .i64 ra.y.lo, .int .i64 ra.y.hi, .int .i64 ra.s.lo, .int .i64 ra.s.hi, .int .i64 ra.d.lo, .int .i64 ra.d.hi] 68)).alloc (.cells #[.int .i64 rb.x.lo, .int .i64 rb.x.hi, .int .i64 rb.y.lo, .int .i64 rb.y.hi, .int .i64 rb.s.lo, .int .i64 rb.s.hi, .int .i64 rb.d.lo, .int .i64 rb.d.hi] 68)).alloc (.cells #[.int .i64 0, .int .i64 0, .int .i64 0, .int .i64 0, .int .i64 0, .int .i64 0, .int .i64 0, .int .i64 0] 68)) := ⟨_, rfl⟩
  have k2 : Blk W (w.heap.size) 68 #[.int .i64 ra.x.lo, .int .i64 ra.x.hi, .int .i64 ra.y.lo, .int .i64 ra.y.hi, .int .i64 ra.s.lo, .int .i64 ra.s.hi, .int .i64 ra.d.lo, .int .i64 ra.d.hi] := by rw [hW]; exact (((Blk.new _ _ _).alloc _).alloc _)
  have k3 : Blk W (w.heap.size + 1) 68 #[.int .i64 rb.x.lo, .int .i64 rb.x.hi, .int .i64 rb.y.lo, .int .i64 rb.y.hi, .int .i64 rb.s.lo, .int .i64 rb.s.hi, .int .i64 rb.d.lo, .int .i64 rb.d.hi] := by rw [hW]; exact ((Blk.newAt (by simp)).alloc _)
  have k4 : Blk W (w.heap.size + 1 + 1) 68 #[.int .i64 0, .int .i64 0, .int .i64 0, .int .i64 0, .int .i64 0, .int .i64 0, .int .i64 0, .int .i64 0] := by rw [hW]; exact (Blk.newAt (by simp))
  have b : Below w.heap.size w W := by rw [hW]; exact ((((Below.refl _ _).alloc (Nat.le_refl _) _).alloc (by simp) _).alloc (by simp; omega) _)
  go_enter Tryz.func150, Tryz.ntmps150
  go_upto_region 1 with fail
  rw [← hW]
  clear hW
  obtain ⟨c2, f2, l2⟩ := k2.rules
  obtain ⟨c3, f3, l3⟩ := k3.rules
  go_wp2_with fail
  refine (hm _).mono ?_
  rintro e W1 ⟨rfl, hb⟩
  clear c2 f2 l2 c3 f3 l3
  replace k4 := k4.below hb
  replace b := b.trans (hb.mono b.size)
  clear hb
  have hb := (Below.refl W1.heap.size W1).alloc (Nat.le_refl _) (.cells #[.int .i64 R.x.lo, .int .i64 R.x.hi, .int .i64 R.y.lo, .int .i64 R.y.hi, .int .i64 R.s.lo, .int .i64 R.s.hi, .int .i64 R.d.lo, .int .i64 R.d.hi] 68)
  have k5 := Blk.new W1 68 #[.int .i64 R.x.lo, .int .i64 R.x.hi, .int .i64 R.y.lo, .int .i64 R.y.hi, .int .i64 R.s.lo, .int .i64 R.s.hi, .int .i64 R.d.lo, .int .i64 R.d.hi]
  go_upto_region 4 with fail
  have h45 := k4.lt
  replace k4 := k4.below hb
  replace b := b.trans (hb.mono b.size)
  clear hb
  generalize W1.alloc (.cells #[.int .i64 R.x.lo, .int .i64 R.x.hi, .int .i64 R.y.lo, .int .i64 R.y.hi, .int .i64 R.s.lo, .int .i64 R.s.hi, .int .i64 R.d.lo, .int .i64 R.d.hi] 68) = W2 at *
  generalize W1.heap.size = g5 at *
  obtain ⟨c4, f4, l4⟩ := k4.rules
  obtain ⟨c5, f5, l5⟩ := k5.rules
  have kz := ((((((((k4.set_ 0 (.int .i64 R.x.lo)).set_ 1 (.int .i64 R.x.hi)).set_ 2 (.int .i64 R.y.lo)).set_ 3 (.int .i64 R.y.hi)).set_ 4 (.int .i64 R.s.lo)).set_ 5 (.int .i64 R.s.hi)).set_ 6 (.int .i64 R.d.lo)).set_ 7 (.int .i64 R.d.hi))
  simp only [sA, sZ, sS] at kz
  have bz := ((((((((b.setCell (p := ⟨w.heap.size + 1 + 1, 0, none⟩) (by dsimp only; omega) (.int .i64 R.x.lo)).setCell (p := ⟨w.heap.size + 1 + 1, 1, none⟩) (by dsimp only; omega) (.int .i64 R.x.hi)).setCell (p := ⟨w.heap.size + 1 + 1, 2, none⟩) (by dsimp only; omega) (.int .i64 R.y.lo)).setCell (p := ⟨w.heap.size + 1 + 1, 3, none⟩) (by dsimp only; omega) (.int .i64 R.y.hi)).setCell (p := ⟨w.heap.size + 1 + 1, 4, none⟩) (by dsimp only; omega) (.int .i64 R.s.lo)).setCell (p := ⟨w.heap.size + 1 + 1, 5, none⟩) (by dsimp only; omega) (.int .i64 R.s.hi)).setCell (p := ⟨w.heap.size + 1 + 1, 6, none⟩) (by dsimp only; omega) (.int .i64 R.d.lo)).setCell (p := ⟨w.heap.size + 1 + 1, 7, none⟩) (by dsimp only; omega) (.int .i64 R.d.hi))
  go_wp2
  clear c4 f4 l4 c5 f5 l5
  obtain ⟨r1, r1f, r1l⟩ := kz.rules
  exact bodyPost_ret (v := .agg #[.int .i64 R.x.lo, .int .i64 R.x.hi, .int .i64 R.y.lo, .int .i64 R.y.hi, .int .i64 R.s.lo, .int .i64 R.s.hi, .int .i64 R.d.lo, .int .i64 R.d.hi]) (by simp [results, Tryz.results150, go_sem, r1]) rfl ⟨rfl, bz⟩
theorem possible_any (w : World) : Calls Tryz.prog 153 #[.iface 242 (.agg #[.int .i64 0, .int .i64 1, .int .i64 0, .int .i64 2]), .agg #[.int .i64 0, .int .i64 0, .int .i64 0, .int .i64 0, .int .i64 0, .int .i64 0, .int .i64 0, .int .i64 0], .agg #[.int .i64 0, .int .i64 1, .int .i64 0, .int .i64 1, .int .i64 0, .int .i64 2, .int .i64 (-1), .int .i64 1]] w fun e w' => e = .returned (.bool true) ∧ Below w.heap.size w w' := by
  have hg := fun W => Gap_any noReg rg2 noReg rg2 W (by decide +kernel) (by decide +kernel) (by decide +kernel) (by decide +kernel)
  rw [show gapS noReg rg2 = ⟨0, 2⟩ from by decide +kernel] at hg
  simp only [regA, noReg, rg2] at hg
  have hta : ∀ W, (Instr.typeAssert (.iface 242 (.agg #[.int .i64 0, .int .i64 1, .int .i64 0, .int .i64 2])) 108 242 true).run Tryz.prog W = .ok (.tuple #[.agg #[.int .i64 0, .int .i64 1, .int .i64 0, .int .i64 2], .bool true]) W := fun W => by kernel_rfl
  obtain ⟨W, hW⟩ : ∃ q0, q0 = ((w.alloc (.cells #[.int .i64 0, .int .i64 0, .int .i64 0, .int .i64 0, .int .i64 0, .int .i64 0, .int .i64 0, .int .i64 0] 68)).alloc (.cells #[.int .i64 0, .int .i64 1, .int .i64 0, .int .i64 1, .int .i64 0, .int .i64 2, .int .i64 (-1), .int .i64 1] 68)) := ⟨_, rfl⟩
  have k4 : Blk W (w.heap.size) 68 #[.int .i64 0, .int .i64 0, .int .i64 0, .int .i64 0, .int .i64 0, .int .i64 0, .int .i64 0, .int .i64 0] := by rw [hW]; exact ((Blk.new _ _ _).alloc _)
  have k5 : Blk W (w.heap.size + 1) 68 #[.int .i64 0, .int .i64 1, .int .i64 0, .int .i64 1, .int .i64 0, .int .i64 2, .int .i64 (-1), .int .i64 1] := by rw [hW]; exact (Blk.newAt (by simp))
  have b : Below w.heap.size w W := by rw [hW]; exact (((Below.refl _ _).alloc (Nat.le_refl _) _).alloc (by simp) _)
  go_enter Tryz.func153, Tryz.ntmps153
  go_upto_region 1 with fail
  rw [← hW]
  clear hW
  have k7 := Blk.new W 242 #[.int .i64 0, .int .i64 1, .int .i64 0, .int .i64 2]
  have hb := (Below.refl W.heap.size W).alloc (Nat.le_refl _) (.cells #[.int .i64 0, .int .i64 1, .int .i64 0, .int .i64 2] 242)
  go_upto_region 6 with fail
  replace k4 := k4.below hb
  replace k5 := k5.below hb
  replace b := b.trans (hb.mono b.size)
  clear hb
  generalize W.alloc (.cells #[.int .i64 0, .int .i64 1, .int .i64 0, .int .i64 2] 242) = W1 at *
  generalize W.heap.size = g7 at *
  obtain ⟨c4, f4, l4⟩ := k4.rules
  obtain ⟨c5, f5, l5⟩ := k5.rules
  go_wp2_with fail
  refine (hg _).mono ?_
  rintro e W2 ⟨rfl, hb⟩
  clear c4 f4 l4 c5 f5 l5
  replace k7 := k7.below hb
  replace b := b.trans (hb.mono b.size)
  clear hb
  have k8 := Blk.new W2 26 #[.int .i64 0, .int .i64 2]
  have hb := (Below.refl W2.heap.size W2).alloc (Nat.le_refl _) (.cells #[.int .i64 0, .int .i64 2] 26)
  go_upto_region 7 with fail
  replace k7 := k7.below hb
  replace b := b.trans (hb.mono b.size)
  clear hb
  generalize W2.alloc (.cells #[.int .i64 0, .int .i64 2] 26) = W3 at *
  generalize W2.heap.size = g8 at *
  obtain ⟨c7, f7, l7⟩ := k7.rules
  obtain ⟨c8, f8, l8⟩ := k8.rules
  go_wp2
  go_ret
  exact ⟨rfl, b⟩
end Go.Proofs.YtcmbmmpihiekhaaGreat
