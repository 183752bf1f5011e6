/-
  Courses, walks: when a line is shot; what passages cost: at the example.
-/
import Derived.Test.YtcmbmmpihiekhaaGreatC7
set_option maxRecDepth 100000
set_option maxHeartbeats 16000000
set_option linter.unusedSimpArgs false
set_option linter.unusedVariables false
namespace Go.Proofs.YtcmbmmpihiekhaaGreat
open Go.RowKit Go.Shelf

theorem InvC.set_ {p : Pl} {w0 w : World} (h : InvC p w) (h0 : InvC p w0) {g o : Nat} (hg : w0.heap.size ≤ g) (v : Value) : InvC p (w.setCell ⟨g, o, none⟩ v) := by
  have q : ∀ {k : Nat}, k < w0.heap.size → (w.setCell ⟨g, o, none⟩ v).heap[k]? = w.heap[k]? := fun {k} hk => Below.heap_setCell w ⟨g, o, none⟩ v k (by dsimp only; omega)
  obtain ⟨f1, h1⟩ := h.kn
  obtain ⟨f2, h2⟩ := h.co
  exact ⟨(q h0.kc.lt).trans h.kc, (q h0.kL.lt).trans h.kL, (q h0.kO.lt).trans h.kO, (q h0.kB.lt).trans h.kB, ⟨f1, h1.block (q (h0.lt _ (.inl rfl)))⟩, ⟨f2, h2.block (q (h0.lt _ (.inr rfl)))⟩, h.ne⟩
theorem shotA_any (p : Pl) (w : World) (hI : InvC p w) :
    Calls Tryz.prog 146 #[.pointer (some ⟨p.c, 0, none⟩), .agg #[.int .i64 0, .int .i64 0], .int .i64 0] w fun e w' => e = .returned (.tuple #[.agg #[.int .i64 7, .int .i64 12], .bool true]) ∧ InvC p w' ∧ BelowH (HM p) w.heap.size w w' := by
  have b := ((Below.refl w.heap.size w).alloc (Nat.le_refl _) (.cells #[.int .i64 0, .int .i64 0] 224)).alloc (by simp) (.cells #[.int .i64 0, .int .i64 0] 26)
  have k4 := (Blk.new w 224 #[.int .i64 0, .int .i64 0]).alloc (.cells #[.int .i64 0, .int .i64 0] 26)
  have k6 : Blk ((w.alloc (.cells #[.int .i64 0, .int .i64 0] 224)).alloc (.cells #[.int .i64 0, .int .i64 0] 26)) (w.heap.size + 1) 26 #[.int .i64 0, .int .i64 0] := Blk.newAt (by simp)
  have hJ := hI.below b
  go_enter Tryz.func146, Tryz.ntmps146
  go_upto_region 1 with fail
  generalize (w.alloc (.cells #[.int .i64 0, .int .i64 0] 224)).alloc (.cells #[.int .i64 0, .int .i64 0] 26) = W at *
  obtain ⟨c4, f4, l4⟩ := k4.rules
  go_wp2_with fail
  refine (wayA_any p _ hJ).mono ?_
  rintro e W1 ⟨rfl, hb⟩
  clear c4 f4 l4
  replace k4 := k4.below hb
  replace k6 := k6.below hb
  replace hJ := hJ.below hb
  replace b := b.trans (hb.mono b.size)
  clear hb
  have hb := (Below.refl W1.heap.size W1).alloc (Nat.le_refl _) (.cells #[.int .i64 0, .int .i64 0, .int .i64 10, .int .i64 0] 285)
  have k8 := Blk.new W1 285 #[.int .i64 0, .int .i64 0, .int .i64 10, .int .i64 0]
  go_upto_region 2 with fail
  replace k4 := k4.below hb
  replace k6 := k6.below hb
  replace hJ := hJ.below hb
  replace b := b.trans (hb.mono b.size)
  clear hb
  generalize W1.alloc (.cells #[.int .i64 0, .int .i64 0, .int .i64 10, .int .i64 0] 285) = W2 at *
  generalize W1.heap.size = g8 at *
  obtain ⟨c8, f8, l8⟩ := k8.rules
  go_wp2_with fail
  refine (clearA_any p _ hJ).mono ?_
  rintro e W3 ⟨rfl, hJ3, hb⟩
  clear c8 f8 l8
  replace k4 := hb.blk k4 k4.lt (hJ.off k4)
  replace k6 := hb.blk k6 k6.lt (hJ.off k6)
  replace k8 := hb.blk k8 k8.lt (hJ.off k8)
  replace b := (belowH_of (H := HM p) b).trans (hb.mono b.size)
  clear hb hJ
  have hJ := hJ3
  clear hJ3
  obtain ⟨c8, f8, l8⟩ := k8.rules
  go_wp2_with fail
  refine (stepsA_any p _ hJ).mono ?_
  rintro e W4 ⟨rfl, hb⟩
  clear c8 f8 l8
  replace k4 := k4.below hb
  replace k6 := k6.below hb
  replace hJ := hJ.below hb
  replace b := b.trans (belowH_of (hb.mono b.size))
  clear hb k8
  go_upto_region 5 with fail
  obtain ⟨c4, f4, l4⟩ := k4.rules
  obtain ⟨cc, fc, lc⟩ := hJ.kc.rules
  obtain ⟨cO, fO, lO⟩ := hJ.kO.rules
  go_quiet (fail)
  clear c4 f4 l4 cc fc lc cO fO lO
  replace hJ := hJ.below (below_drewN (Below.refl W4.heap.size W4) nq)
  replace k6 := k6.drewN nq
  replace b := b.trans (belowH_of ((below_drewN (Below.refl W4.heap.size W4) nq).mono b.size))
  generalize W4.drewN nq = W5 at *
  obtain ⟨cB, fB, lB⟩ := hJ.kB.rules
  go_wp2_with fail
  refine wp_loop_rounds 1 ?_
  rw [rounds_succ]
  go_upto_region 8 with fail
  have hb := (Below.refl W5.heap.size W5).alloc (Nat.le_refl _) (.cells #[Value.int .i64 7, .int .i64 100] 26)
  have k11 := Blk.new W5 26 #[Value.int .i64 7, .int .i64 100]
  clear cB fB lB
  replace k6 := k6.below hb
  replace hJ := hJ.below hb
  replace b := b.trans (belowH_of (hb.mono b.size))
  clear hb
  generalize W5.alloc (.cells #[Value.int .i64 7, .int .i64 100] 26) = W6 at *
  generalize W5.heap.size = g11 at *
  obtain ⟨c11, f11, l11⟩ := k11.rules
  obtain ⟨c6, f6, l6⟩ := k6.rules
  have hn6 := hJ.off k6
  have kz := ((k6.set_ 0 (.int .i64 7)).set_ 1 (.int .i64 12))
  simp only [sA, sZ, sS] at kz
  have hbz : BelowH (HM p) w.heap.size w ((W6.setCell ⟨w.heap.size + 1, 0, none⟩ (.int .i64 7)).setCell ⟨w.heap.size + 1, 1, none⟩ (.int .i64 12)) := b.trans (belowH_of ((((Below.refl w.heap.size W6).setCell (p := ⟨w.heap.size + 1, 0, none⟩) (by dsimp only; omega) (.int .i64 7)).setCell (p := ⟨w.heap.size + 1, 1, none⟩) (by dsimp only; omega) (.int .i64 12))))
  have hJz : InvC p ((W6.setCell ⟨w.heap.size + 1, 0, none⟩ (.int .i64 7)).setCell ⟨w.heap.size + 1, 1, none⟩ (.int .i64 12)) := InvC.set_ (InvC.set_ hJ hI (by omega) _) hI (by omega) _
  go_wp2
  clear c11 f11 l11 c6 f6 l6
  obtain ⟨c6, f6, l6⟩ := kz.rules
  exact bodyPost_ret (v := .tuple #[.agg #[.int .i64 7, .int .i64 12], .bool true]) (by simp [results, Tryz.results146, go_sem, c6]) rfl ⟨rfl, hJz, hbz⟩
theorem shotB_any (p : Pl) (w : World) (hI : InvC p w) :
    Calls Tryz.prog 146 #[.pointer (some ⟨p.c, 0, none⟩), .agg #[.int .i64 0, .int .i64 1], .int .i64 14] w fun e w' => e = .returned (.tuple #[.agg #[.int .i64 14, .int .i64 19], .bool true]) ∧ InvC p w' ∧ BelowH (HM p) w.heap.size w w' := by
  have b := ((Below.refl w.heap.size w).alloc (Nat.le_refl _) (.cells #[.int .i64 0, .int .i64 1] 224)).alloc (by simp) (.cells #[.int .i64 0, .int .i64 0] 26)
  have k4 := (Blk.new w 224 #[.int .i64 0, .int .i64 1]).alloc (.cells #[.int .i64 0, .int .i64 0] 26)
  have k6 : Blk ((w.alloc (.cells #[.int .i64 0, .int .i64 1] 224)).alloc (.cells #[.int .i64 0, .int .i64 0] 26)) (w.heap.size + 1) 26 #[.int .i64 0, .int .i64 0] := Blk.newAt (by simp)
  have hJ := hI.below b
  go_enter Tryz.func146, Tryz.ntmps146
  go_upto_region 1 with fail
  generalize (w.alloc (.cells #[.int .i64 0, .int .i64 1] 224)).alloc (.cells #[.int .i64 0, .int .i64 0] 26) = W at *
  obtain ⟨c4, f4, l4⟩ := k4.rules
  go_wp2_with fail
  refine (wayB_any p _ hJ).mono ?_
  rintro e W1 ⟨rfl, hb⟩
  clear c4 f4 l4
  replace k4 := k4.below hb
  replace k6 := k6.below hb
  replace hJ := hJ.below hb
  replace b := b.trans (hb.mono b.size)
  clear hb
  have hb := (Below.refl W1.heap.size W1).alloc (Nat.le_refl _) (.cells #[.int .i64 10, .int .i64 0, .int .i64 0, .int .i64 0] 285)
  have k8 := Blk.new W1 285 #[.int .i64 10, .int .i64 0, .int .i64 0, .int .i64 0]
  go_upto_region 2 with fail
  replace k4 := k4.below hb
  replace k6 := k6.below hb
  replace hJ := hJ.below hb
  replace b := b.trans (hb.mono b.size)
  clear hb
  generalize W1.alloc (.cells #[.int .i64 10, .int .i64 0, .int .i64 0, .int .i64 0] 285) = W2 at *
  generalize W1.heap.size = g8 at *
  obtain ⟨c8, f8, l8⟩ := k8.rules
  go_wp2_with fail
  refine (clearB_any p _ hJ).mono ?_
  rintro e W3 ⟨rfl, hJ3, hb⟩
  clear c8 f8 l8
  replace k4 := hb.blk k4 k4.lt (hJ.off k4)
  replace k6 := hb.blk k6 k6.lt (hJ.off k6)
  replace k8 := hb.blk k8 k8.lt (hJ.off k8)
  replace b := (belowH_of (H := HM p) b).trans (hb.mono b.size)
  clear hb hJ
  have hJ := hJ3
  clear hJ3
  obtain ⟨c8, f8, l8⟩ := k8.rules
  go_wp2_with fail
  refine (stepsB_any p _ hJ).mono ?_
  rintro e W4 ⟨rfl, hb⟩
  clear c8 f8 l8
  replace k4 := k4.below hb
  replace k6 := k6.below hb
  replace hJ := hJ.below hb
  replace b := b.trans (belowH_of (hb.mono b.size))
  clear hb k8
  go_upto_region 5 with fail
  obtain ⟨c4, f4, l4⟩ := k4.rules
  obtain ⟨cc, fc, lc⟩ := hJ.kc.rules
  obtain ⟨cO, fO, lO⟩ := hJ.kO.rules
  go_quiet (fail)
  clear c4 f4 l4 cc fc lc cO fO lO
  replace hJ := hJ.below (below_drewN (Below.refl W4.heap.size W4) nq)
  replace k6 := k6.drewN nq
  replace b := b.trans (belowH_of ((below_drewN (Below.refl W4.heap.size W4) nq).mono b.size))
  generalize W4.drewN nq = W5 at *
  obtain ⟨cB, fB, lB⟩ := hJ.kB.rules
  go_wp2_with fail
  refine wp_loop_rounds 1 ?_
  rw [rounds_succ]
  go_upto_region 8 with fail
  have hb := (Below.refl W5.heap.size W5).alloc (Nat.le_refl _) (.cells #[Value.int .i64 7, .int .i64 100] 26)
  have k11 := Blk.new W5 26 #[Value.int .i64 7, .int .i64 100]
  clear cB fB lB
  replace k6 := k6.below hb
  replace hJ := hJ.below hb
  replace b := b.trans (belowH_of (hb.mono b.size))
  clear hb
  generalize W5.alloc (.cells #[Value.int .i64 7, .int .i64 100] 26) = W6 at *
  generalize W5.heap.size = g11 at *
  obtain ⟨c11, f11, l11⟩ := k11.rules
  obtain ⟨c6, f6, l6⟩ := k6.rules
  have hn6 := hJ.off k6
  have kz := ((k6.set_ 0 (.int .i64 14)).set_ 1 (.int .i64 19))
  simp only [sA, sZ, sS] at kz
  have hbz : BelowH (HM p) w.heap.size w ((W6.setCell ⟨w.heap.size + 1, 0, none⟩ (.int .i64 14)).setCell ⟨w.heap.size + 1, 1, none⟩ (.int .i64 19)) := b.trans (belowH_of ((((Below.refl w.heap.size W6).setCell (p := ⟨w.heap.size + 1, 0, none⟩) (by dsimp only; omega) (.int .i64 14)).setCell (p := ⟨w.heap.size + 1, 1, none⟩) (by dsimp only; omega) (.int .i64 19))))
  have hJz : InvC p ((W6.setCell ⟨w.heap.size + 1, 0, none⟩ (.int .i64 14)).setCell ⟨w.heap.size + 1, 1, none⟩ (.int .i64 19)) := InvC.set_ (InvC.set_ hJ hI (by omega) _) hI (by omega) _
  go_wp2
  clear c11 f11 l11 c6 f6 l6
  obtain ⟨c6, f6, l6⟩ := kz.rules
  exact bodyPost_ret (v := .tuple #[.agg #[.int .i64 14, .int .i64 19], .bool true]) (by simp [results, Tryz.results146, go_sem, c6]) rfl ⟨rfl, hJz, hbz⟩
theorem costA_any (p : Pl) (L : Option Addr) (c : Nat) (w : World) (hI : InvC p w) (hs : SlAt w 0 2 Pnt.cells L 1 c [⟨0, 0⟩]) :
    Calls Tryz.prog 175 #[.pointer (some ⟨p.c, 0, none⟩), .slice L 1 c, .int .i64 0, .int .i64 0] w fun e w' => e = .returned (.tuple #[.int .i64 0, .bool true]) ∧ InvC p w' ∧ BelowH (HM p) w.heap.size w w' := by
  obtain ⟨cc, fc, lc⟩ := hI.kc.rules
  go_enter Tryz.func175, Tryz.ntmps175
  go_wp2_with fail
  refine wp_loop_rounds 1 ?_
  rw [rounds_succ]
  go_wp2_with fail
  go_quiet (with_reducible exact Calls.quiet_of_same (flip_w (turnedA_any _)))
  go_wp2
  go_ret2
  exact ⟨rfl, hI.below (below_drewN (Below.refl _ _) _), belowH_of (below_drewN (Below.refl _ _) _)⟩
theorem costB_any (p : Pl) (L : Option Addr) (c : Nat) (w : World) (hI : InvC p w) (hs : SlAt w 0 2 Pnt.cells L 2 c [⟨0, 0⟩, ⟨0, 0⟩]) :
    Calls Tryz.prog 175 #[.pointer (some ⟨p.c, 0, none⟩), .slice L 2 c, .int .i64 0, .int .i64 0] w fun e w' => e = .returned (.tuple #[.int .i64 0, .bool false]) ∧ InvC p w' ∧ BelowH (HM p) w.heap.size w w' := by
  obtain ⟨bl, ol, hA, -, hbl, x0, x1⟩ := hs.pnt (k := 0) rfl
  obtain ⟨b2, o2, hA2, -, -, y0, y1⟩ := hs.pnt (k := 1) rfl
  have hw0 : IntKind.i64.wrap 0 = 0 := by decide
  have hw5 : IntKind.i64.wrap 5 = 5 := by decide
  subst hA
  cases hA2
  simp only [Nat.zero_mul, Nat.one_mul, Nat.add_zero] at x0 x1 y0 y1
  go_enter Tryz.func175, Tryz.ntmps175
  go_wp2_with fail
  refine wp_loop_rounds 2 ?_
  rw [rounds_succ]
  go_wp2_with fail
  refine hOpn (fun w' : World => w'.cell? ⟨bl, ol, none⟩ = some (.int .i64 0) ∧ w'.cell? ⟨bl, ol + 1, none⟩ = some (.int .i64 0) ∧ w'.cell? ⟨bl, ol + 2, none⟩ = some (.int .i64 0) ∧ w'.cell? ⟨bl, ol + 2 + 1, none⟩ = some (.int .i64 0)) (fun W' hbb => ⟨(hbb.cell (p := ⟨bl, ol, none⟩) hbl).trans x0, (hbb.cell (p := ⟨bl, ol + 1, none⟩) hbl).trans x1, (hbb.cell (p := ⟨bl, ol + 2, none⟩) hbl).trans y0, (hbb.cell (p := ⟨bl, ol + 2 + 1, none⟩) hbl).trans y1⟩) fun hSb hb9 hS hg9 => ?_
  generalize w.drew = wd at *
  refine hTk 0 20 ?_
  refine hTk 1 21 ?_
  refine hTk 2 22 ?_
  refine hTk 3 23 ?_
  refine hTk 4 24 ?_
  refine hTk 5 25 ?_
  refine hTk 6 26 ?_
  refine hTk 7 27 ?_
  refine hTk 8 28 ?_
  refine hTk 9 29 ?_
  refine hOne 10 fun K hK => ?_
  go_simp
  have k12 := Blk.new wd 285 #[.int .i64 0, .int .i64 0, .int .i64 0, .int .i64 0]
  have hg_g12 := hb9.size
  replace hb9 := hb9.alloc hb9.size (.cells #[.int .i64 0, .int .i64 0, .int .i64 0, .int .i64 0] 285)
  refine hK _ _ (hSb.out _ hb9) ?_
  clear hK K
  try simp only [Act.put, sA, sZ, sS]
  clear hS
  have hS := hSb.out _ hb9
  generalize wd.heap.size = g12 at *
  generalize wd.alloc (.cells #[.int .i64 0, .int .i64 0, .int .i64 0, .int .i64 0] 285) = w5 at *
  have kz := ((((k12.set_ 0 (.int .i64 0)).set_ 1 (.int .i64 0)).set_ 2 (.int .i64 0)).set_ 3 (.int .i64 0))
  simp only [sA, sZ, sS] at kz
  have bz := ((((hb9.setCell (p := ⟨g12, 0, none⟩) (by dsimp only; omega) (.int .i64 0)).setCell (p := ⟨g12, 1, none⟩) (by dsimp only; omega) (.int .i64 0)).setCell (p := ⟨g12, 2, none⟩) (by dsimp only; omega) (.int .i64 0)).setCell (p := ⟨g12, 3, none⟩) (by dsimp only; omega) (.int .i64 0))
  obtain ⟨w6, hwz⟩ : ∃ x, x = ((((w5.setCell ⟨g12, 0, none⟩ (.int .i64 0)).setCell ⟨g12, 1, none⟩ (.int .i64 0)).setCell ⟨g12, 2, none⟩ (.int .i64 0)).setCell ⟨g12, 3, none⟩ (.int .i64 0)) := ⟨_, rfl⟩
  rw [← hwz] at kz bz
  obtain ⟨c9, f9, l9⟩ := k12.rules
  refine hOne 11 fun K hK => ?_
  go_simp
  rw [← hwz]
  clear hwz c9 f9 l9 hb9 k12
  have hb9 := bz
  have k12 := kz
  clear bz kz
  refine hK _ _ (hSb.out _ hb9) ?_
  clear hK K
  try simp only [Act.put, sA, sZ, sS]
  clear hS
  have hS := hSb.out _ hb9
  refine wpAnyH_done (by kernel_rfl) (noPanic_normal ?_) _
  clear hS hSb x0 x1 y0 y1
  have hJ := hI.below hb9
  have b := belowH_of (H := HM p) hb9
  clear hb9
  obtain ⟨c12, f12, l12⟩ := k12.rules
  go_wp2
  go_ret2
  exact ⟨rfl, hJ, b⟩
theorem costC_any (p : Pl) (L : Option Addr) (c : Nat) (w : World) (hI : InvC p w) (hs : SlAt w 0 2 Pnt.cells L 2 c [⟨0, 0⟩, ⟨10, 0⟩]) :
    Calls Tryz.prog 175 #[.pointer (some ⟨p.c, 0, none⟩), .slice L 2 c, .int .i64 0, .int .i64 3] w fun e w' => e = .returned (.tuple #[.int .i64 14, .bool true]) ∧ InvC p w' ∧ BelowH (HM p) w.heap.size w w' := by
  obtain ⟨bl, ol, hA, -, hbl, x0, x1⟩ := hs.pnt (k := 0) rfl
  obtain ⟨b2, o2, hA2, -, -, y0, y1⟩ := hs.pnt (k := 1) rfl
  have hw0 : IntKind.i64.wrap 0 = 0 := by decide
  have hw5 : IntKind.i64.wrap 5 = 5 := by decide
  subst hA
  cases hA2
  simp only [Nat.zero_mul, Nat.one_mul, Nat.add_zero] at x0 x1 y0 y1
  go_enter Tryz.func175, Tryz.ntmps175
  go_wp2_with fail
  refine wp_loop_rounds 2 ?_
  rw [rounds_succ]
  go_wp2_with fail
  refine hOpn (fun w' : World => w'.cell? ⟨bl, ol, none⟩ = some (.int .i64 0) ∧ w'.cell? ⟨bl, ol + 1, none⟩ = some (.int .i64 0) ∧ w'.cell? ⟨bl, ol + 2, none⟩ = some (.int .i64 10) ∧ w'.cell? ⟨bl, ol + 2 + 1, none⟩ = some (.int .i64 0)) (fun W' hbb => ⟨(hbb.cell (p := ⟨bl, ol, none⟩) hbl).trans x0, (hbb.cell (p := ⟨bl, ol + 1, none⟩) hbl).trans x1, (hbb.cell (p := ⟨bl, ol + 2, none⟩) hbl).trans y0, (hbb.cell (p := ⟨bl, ol + 2 + 1, none⟩) hbl).trans y1⟩) fun hSb hb9 hS hg9 => ?_
  generalize w.drew = wd at *
  refine hTk 0 20 ?_
  refine hTk 1 21 ?_
  refine hTk 2 22 ?_
  refine hTk 3 23 ?_
  refine hTk 4 24 ?_
  refine hTk 5 25 ?_
  refine hTk 6 26 ?_
  refine hTk 7 27 ?_
  refine hTk 8 28 ?_
  refine hTk 9 29 ?_
  refine hOne 10 fun K hK => ?_
  go_simp
  have k12 := Blk.new wd 285 #[.int .i64 0, .int .i64 0, .int .i64 0, .int .i64 0]
  have hg_g12 := hb9.size
  replace hb9 := hb9.alloc hb9.size (.cells #[.int .i64 0, .int .i64 0, .int .i64 0, .int .i64 0] 285)
  refine hK _ _ (hSb.out _ hb9) ?_
  clear hK K
  try simp only [Act.put, sA, sZ, sS]
  clear hS
  have hS := hSb.out _ hb9
  generalize wd.heap.size = g12 at *
  generalize wd.alloc (.cells #[.int .i64 0, .int .i64 0, .int .i64 0, .int .i64 0] 285) = w5 at *
  have kz := ((((k12.set_ 0 (.int .i64 0)).set_ 1 (.int .i64 0)).set_ 2 (.int .i64 10)).set_ 3 (.int .i64 0))
  simp only [sA, sZ, sS] at kz
  have bz := ((((hb9.setCell (p := ⟨g12, 0, none⟩) (by dsimp only; omega) (.int .i64 0)).setCell (p := ⟨g12, 1, none⟩) (by dsimp only; omega) (.int .i64 0)).setCell (p := ⟨g12, 2, none⟩) (by dsimp only; omega) (.int .i64 10)).setCell (p := ⟨g12, 3, none⟩) (by dsimp only; omega) (.int .i64 0))
  obtain ⟨w6, hwz⟩ : ∃ x, x = ((((w5.setCell ⟨g12, 0, none⟩ (.int .i64 0)).setCell ⟨g12, 1, none⟩ (.int .i64 0)).setCell ⟨g12, 2, none⟩ (.int .i64 10)).setCell ⟨g12, 3, none⟩ (.int .i64 0)) := ⟨_, rfl⟩
  rw [← hwz] at kz bz
  obtain ⟨c9, f9, l9⟩ := k12.rules
  refine hOne 11 fun K hK => ?_
  go_simp
  rw [← hwz]
  clear hwz c9 f9 l9 hb9 k12
  have hb9 := bz
  have k12 := kz
  clear bz kz
  refine hK _ _ (hSb.out _ hb9) ?_
  clear hK K
  try simp only [Act.put, sA, sZ, sS]
  clear hS
  have hS := hSb.out _ hb9
  refine wpAnyH_done (by kernel_rfl) (noPanic_normal ?_) _
  clear hS hSb x0 x1 y0 y1
  have hJ := hI.below hb9
  have b := belowH_of (H := HM p) hb9
  clear hb9
  obtain ⟨c12, f12, l12⟩ := k12.rules
  go_wp2_with fail
  refine (clearA_any p _ hJ).mono ?_
  rintro e W3 ⟨rfl, hJ3, hb⟩
  clear c12 f12 l12
  replace k12 := hb.blk k12 k12.lt (hJ.off k12)
  replace b := b.trans (hb.mono b.size)
  clear hb hJ
  have hJ := hJ3
  clear hJ3
  obtain ⟨c12, f12, l12⟩ := k12.rules
  go_wp2_with fail
  refine (octA_any _).mono ?_
  rintro e W4 ⟨rfl, hb⟩
  clear c12 f12 l12
  replace k12 := k12.below hb
  replace hJ := hJ.below hb
  replace b := b.trans (belowH_of (hb.mono b.size))
  clear hb
  go_upto_region 9 with fail
  refine hOpn (fun w' : World => (∀ j, w'.cell? ⟨p.c, j, none⟩ = #[.slice (some ⟨p.bL, 0, none⟩) 1 1, .slice none 0 0, .slice none 0 0, .int .i64 0, .int .i64 0, .int .i64 0, .int .i64 0, .int .i64 0, .int .i64 0, .int .i64 0, .int .i64 0, .int .i64 0, .int .i64 0, .int .i64 0, .int .i64 2, .int .i64 3, .slice (some ⟨p.bO, 0, none⟩) 1 1, .map (some p.m1)][j]?) ∧ (∀ j, w'.cell? ⟨g12, j, none⟩ = #[Value.int .i64 0, .int .i64 0, .int .i64 10, .int .i64 0][j]?)) (fun W' hbb => ⟨(hJ.kc.below hbb).cell, (k12.below hbb).cell⟩) fun hSb hb9 hS hg9 => ?_
  generalize W4.drew = we at *
  refine hTk 0 57 ?_
  refine hTk 1 58 ?_
  refine hTk 2 59 ?_
  refine hTk 4 61 ?_
  refine hTk 5 62 ?_
  refine hTk 6 63 ?_
  refine hTk 7 64 ?_
  refine hTk 8 65 ?_
  refine hTk 9 66 ?_
  refine hTk 10 67 ?_
  refine hOne 3 fun K hK => ?_
  go_simp
  refine (stepsA_any p _ (hJ.below hb9)).mono ?_
  rintro e X1 ⟨rfl, hbel⟩
  replace hb9 := hb9.trans (hbel.mono hb9.size)
  clear hbel
  refine hK _ _ (hSb.out _ hb9) ?_
  clear hK K
  try simp only [Act.put, sA, sZ, sS]
  clear hS
  have hS := hSb.out _ hb9
  refine hOne 11 fun K hK => ?_
  go_simp
  refine (turnedA_any _).mono ?_
  rintro e w' ⟨rfl, rfl⟩
  refine hK _ _ (hSb.out _ hb9) ?_
  clear hK K
  try simp only [Act.put, sA, sZ, sS]
  clear hS
  have hS := hSb.out _ hb9
  refine hTk 12 69 ?_
  refine hTk 13 70 ?_
  refine hTk 14 71 ?_
  refine hTk 15 10 ?_
  refine wpAnyH_done (by kernel_rfl) (noPanic_normal ?_) _
  clear hS hSb
  replace hJ := hJ.below hb9
  replace b := b.trans (belowH_of (hb9.mono b.size))
  clear hb9 hg9 k12
  go_wp2_with fail
  rw [rounds_succ]
  go_wp2_with fail
  obtain ⟨cc, fc, lc⟩ := hJ.kc.rules
  go_quiet (with_reducible exact Calls.quiet_of_same (flip_w (turnedB_any _)))
  go_wp2
  go_ret2
  exact ⟨rfl, hJ.below (below_drewN (Below.refl _ _) _), b.trans (belowH_of ((below_drewN (Below.refl _ _) _).mono b.size))⟩
end Go.Proofs.YtcmbmmpihiekhaaGreat
