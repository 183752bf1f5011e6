/-
  Courses, walks: the table at the example.
-/
import Derived.Test.YtcmbmmpihiekhaaGreatC17
import Derived.Carry
set_option maxRecDepth 100000
set_option maxHeartbeats 16000000
set_option linter.unusedSimpArgs false
set_option linter.unusedVariables false
namespace Go.Proofs.YtcmbmmpihiekhaaGreat
open Go.RowKit Go.Shelf
attribute [local go_sem] Oper.semAt_some

theorem own_blk4 {w : World} {g : Nat} {t : TypeId} {a b c d : Value} (h : w.ownsRow g t 1 (.slice (some ⟨g, 0, none⟩) 4 4) 4 [a, b, c, d]) : Blk w g t #[a, b, c, d] := by
  obtain ⟨-, h⟩ := h
  rcases h with ⟨h, -⟩ | ⟨g', cap, cur, hv, -, hh, h1, h2, h3, h4⟩
  · cases h
  · simp only [Value.slice.injEq, Option.some.injEq, Addr.mk.injEq, and_true, true_and] at hv
    obtain ⟨rfl, rfl⟩ := hv
    obtain ⟨l⟩ := cur
    have hl : l.length = 4 := by simpa using h3
    try simp only [Nat.mul_one] at h4
    rw [List.take_of_length_le (by simp [hl])] at h4
    subst h4
    exact hh
/-- What the table's loop keeps: the table, its variable, the plan, the set, a mark of the loop before. -/
def TabI (p : Pl) (w : World) (gv g gp gs D1 : Nat) (a b : Int) (A : World) : Prop :=
  BelowH (HM p) w.heap.size w A ∧ Blk A g 3 #[.int .i64 (-1), .int .i64 (-1), .int .i64 a, .int .i64 b] ∧ Blk A gv 33 #[.slice (some ⟨g, 0, none⟩) 4 4] ∧ Blk A gp 214 #[.pointer (some ⟨p.c, 0, none⟩), .map (some p.m2)] ∧ Blk A gs 3 #[.int .i64 1] ∧ A.heap[D1]? = some (.deferred (some []))
theorem TabI.calm {p : Pl} {w A B : World} {gv g gp gs D1 B0 : Nat} {a b : Int} (h : TabI p w gv g gp gs D1 a b A) (hc : CalmH (HM p) B0 A B) (hB : w.heap.size ≤ B0) (hD : D1 < B0) (hH : ∀ k, HM p k → k < w.heap.size) (h1 : w.heap.size ≤ g) (h2 : w.heap.size ≤ gv) (h3 : w.heap.size ≤ gp) (h4 : w.heap.size ≤ gs) (h5 : w.heap.size ≤ D1) : TabI p w gv g gp gs D1 a b B := by
  have n : ∀ {k : Nat}, w.heap.size ≤ k → ¬ HM p k := fun hk h => by have := hH _ h; omega
  exact ⟨h.1.trans (hc.1.mono hB), calmH_blk hc h.2.1 (n h1), calmH_blk hc h.2.2.1 (n h2), calmH_blk hc h.2.2.2.1 (n h3), calmH_blk hc h.2.2.2.2.1 (n h4), (hc.1.block D1 hD (n h5)).trans h.2.2.2.2.2⟩
theorem table_any (p : Pl) (w : World) (hI : InvC p w) :
    Calls Tryz.prog 112 #[.agg #[.pointer (some ⟨p.c, 0, none⟩), .map (some p.m2)]] w fun e w' => ∃ g, e = .returned (.slice (some ⟨g, 0, none⟩) 4 4) ∧ Blk w' g 3 #[.int .i64 (-1), .int .i64 (-1), .int .i64 12, .int .i64 19] ∧ w.heap.size ≤ g ∧ InvC p w' ∧ BelowH (HM p) w.heap.size w w' := by
  have hlt := hI.lt
  refine (callsIn_wide (n := 9)).1 ?_
  refine callsIn_of_wp_marks Tryz.func112 rfl trivial ?_ rfl
  simp only [Tryz.ntmps112, List.size_toArray, List.length_cons, List.length_nil, Nat.reduceAdd, Nat.reduceSub, Array.replicate_succ, Array.replicate_zero, List.push_toArray, List.append_toArray, List.nil_append, List.cons_append]
  refine wpIn_wide.2 ?_
  have kp := Blk.new w 214 #[.pointer (some ⟨p.c, 0, none⟩), .map (some p.m2)]
  have b := (Below.refl w.heap.size w).alloc (Nat.le_refl _) (.cells #[.pointer (some ⟨p.c, 0, none⟩), .map (some p.m2)] 214)
  have hJ := hI.below b
  go_upto_region 1 with fail
  have hsz : (w.alloc (.cells #[.pointer (some ⟨p.c, 0, none⟩), .map (some p.m2)] 214)).heap.size = w.heap.size + 1 := by simp
  generalize w.alloc (.cells #[.pointer (some ⟨p.c, 0, none⟩), .map (some p.m2)] 214) = W at *
  have hsz1 := Nat.le_of_eq hsz
  have hsz2 := Nat.le_of_eq hsz.symm
  clear hsz
  obtain ⟨cp, fp, lp⟩ := kp.rules
  obtain ⟨cc, fc, lc⟩ := hJ.kc.rules
  obtain ⟨ii, iih, ii0, ii1, ii2⟩ := info_parts Tryz.infoInt
  obtain ⟨wm, hrun, r1, r2⟩ := run_make_full (P := Tryz.prog) W W.heap.size 33 3 ii (.int .i64 0) 1 Tryz.underlying33 iih ii0 ii1 .i64 .i64 4 (by rw [ii2]; decide) (by decide) (Nat.le_refl _)
  have hrun2 : Sem.run Tryz.prog (Instr.makeSlice 33 (.int .i64 4) (.int .i64 4)) W = _ := hrun
  go_upto_region 3 with fail
  clear cp fp lp cc fc lc hrun hrun2
  rw [show (madeCells (Value.int .i64 0).cells (4 * 1)).toList = [.int .i64 0, .int .i64 0, .int .i64 0, .int .i64 0] from by kernel_rfl] at r1
  have kt0 := own_blk4 r1
  have bm : Below W.heap.size W wm := ⟨r2.os, r2.tape, r2.output, r2.size, fun k hk => r2.block k hk (by simp)⟩
  have hszm : W.heap.size < wm.heap.size := kt0.lt
  have bv := (Below.refl wm.heap.size wm).alloc (Nat.le_refl _) (.cells #[.slice (some ⟨W.heap.size, 0, none⟩) 4 4] 33)
  have kv := Blk.new wm 33 #[.slice (some ⟨W.heap.size, 0, none⟩) 4 4]
  replace kp := (kp.below bm).below bv
  replace hJ := (hJ.below bm).below bv
  have kt := kt0.below bv
  have bH := (belowH_of (H := HM p) b).trans (((belowH_of bm).mono b.size).trans ((belowH_of bv).mono (Nat.le_trans b.size bm.size)))
  clear bm bv r1 r2 kt0 b ii0 ii1 ii2 iih
  generalize wm.alloc (.cells #[.slice (some ⟨W.heap.size, 0, none⟩) 4 4] 33) = V at *
  obtain ⟨g, hg⟩ : ∃ g, W.heap.size = g := ⟨_, rfl⟩
  rw [hg] at kt kv hszm hsz1 hsz2
  rw [hg]
  clear hg
  generalize wm.heap.size = gv at *
  have hgw : w.heap.size < g := by omega
  clear hsz1
  obtain ⟨cv, fv, lv⟩ := kv.rules
  go_wp2_with fail
  clear cv fv lv
  refine wp_loop_rounds 5 ?_
  rw [rounds_succ]
  obtain ⟨cv, fv, lv⟩ := kv.rules
  obtain ⟨ct, ft, lt⟩ := kt.rules
  go_upto_region 7 with fail
  clear cv fv lv ct ft lt
  replace kt := kt.set_ 0 (.int .i64 (-1))
  simp only [sA, sZ, sS] at kt
  replace kv := kv.far (p := ⟨g, 0, none⟩) (by dsimp only; omega) (.int .i64 (-1))
  replace kp := kp.far (p := ⟨g, 0, none⟩) (by dsimp only; omega) (.int .i64 (-1))
  replace hJ := hJ.set_ hI (g := g) (o := 0) (by omega) (.int .i64 (-1))
  replace bH := bH.trans (belowH_of ((Below.refl w.heap.size V).setCell (p := ⟨g, 0, none⟩) (by dsimp only; omega) (.int .i64 (-1))))
  generalize V.setCell ⟨g, 0, none⟩ (.int .i64 (-1)) = V0 at *
  go_wp2_with fail
  rw [rounds_succ]
  obtain ⟨cv, fv, lv⟩ := kv.rules
  obtain ⟨ct, ft, lt⟩ := kt.rules
  go_upto_region 7 with fail
  clear cv fv lv ct ft lt
  replace kt := kt.set_ 1 (.int .i64 (-1))
  simp only [sA, sZ, sS] at kt
  replace kv := kv.far (p := ⟨g, 1, none⟩) (by dsimp only; omega) (.int .i64 (-1))
  replace kp := kp.far (p := ⟨g, 1, none⟩) (by dsimp only; omega) (.int .i64 (-1))
  replace hJ := hJ.set_ hI (g := g) (o := 1) (by omega) (.int .i64 (-1))
  replace bH := bH.trans (belowH_of ((Below.refl w.heap.size V0).setCell (p := ⟨g, 1, none⟩) (by dsimp only; omega) (.int .i64 (-1))))
  generalize V0.setCell ⟨g, 1, none⟩ (.int .i64 (-1)) = V1 at *
  go_wp2_with fail
  rw [rounds_succ]
  obtain ⟨cv, fv, lv⟩ := kv.rules
  obtain ⟨ct, ft, lt⟩ := kt.rules
  go_upto_region 7 with fail
  clear cv fv lv ct ft lt
  replace kt := kt.set_ 2 (.int .i64 (-1))
  simp only [sA, sZ, sS] at kt
  replace kv := kv.far (p := ⟨g, 2, none⟩) (by dsimp only; omega) (.int .i64 (-1))
  replace kp := kp.far (p := ⟨g, 2, none⟩) (by dsimp only; omega) (.int .i64 (-1))
  replace hJ := hJ.set_ hI (g := g) (o := 2) (by omega) (.int .i64 (-1))
  replace bH := bH.trans (belowH_of ((Below.refl w.heap.size V1).setCell (p := ⟨g, 2, none⟩) (by dsimp only; omega) (.int .i64 (-1))))
  generalize V1.setCell ⟨g, 2, none⟩ (.int .i64 (-1)) = V2 at *
  go_wp2_with fail
  rw [rounds_succ]
  obtain ⟨cv, fv, lv⟩ := kv.rules
  obtain ⟨ct, ft, lt⟩ := kt.rules
  go_upto_region 7 with fail
  clear cv fv lv ct ft lt
  replace kt := kt.set_ 3 (.int .i64 (-1))
  simp only [sA, sZ, sS] at kt
  replace kv := kv.far (p := ⟨g, 3, none⟩) (by dsimp only; omega) (.int .i64 (-1))
  replace kp := kp.far (p := ⟨g, 3, none⟩) (by dsimp only; omega) (.int .i64 (-1))
  replace hJ := hJ.set_ hI (g := g) (o := 3) (by omega) (.int .i64 (-1))
  replace bH := bH.trans (belowH_of ((Below.refl w.heap.size V2).setCell (p := ⟨g, 3, none⟩) (by dsimp only; omega) (.int .i64 (-1))))
  generalize V2.setCell ⟨g, 3, none⟩ (.int .i64 (-1)) = V3 at *
  go_wp2_with fail
  rw [rounds_succ]
  go_wp2_with fail
  refine wp_loop_rounds 3 ?_
  rw [rounds_succ]
  have hgs0 := bH.size
  have bs := (Below.refl V3.heap.size V3).alloc (Nat.le_refl _) (.cells #[.int .i64 0] 3)
  have ks := Blk.new V3 3 #[.int .i64 0]
  go_upto_region 11 with fail
  replace kt := kt.below bs
  replace kv := kv.below bs
  replace kp := kp.below bs
  replace hJ := hJ.below bs
  replace bH := bH.trans ((belowH_of bs).mono bH.size)
  clear bs
  generalize V3.alloc (.cells #[.int .i64 0] 3) = U0 at *
  generalize hg6 : V3.heap.size = gs0 at *
  have hgsU0 := ks.lt
  obtain ⟨cp, fp, lp⟩ := kp.rules
  obtain ⟨cs, fs, ls⟩ := ks.rules
  go_wp2_with fail
  refine (shoots_any p 0 _).mono ?_
  rintro e X0 ⟨rfl, hX⟩
  clear cp fp lp cs fs ls
  have bs : Below U0.heap.size U0 X0 := by rw [hX]; exact ((Below.refl _ _).alloc (Nat.le_refl _) _).alloc (by simp) _
  have hSh : ShoL p U0.heap.size (U0.heap.size + 1) 0 X0 := ⟨hJ.below bs, by rw [hX]; exact (Blk.new _ _ _).alloc _, by rw [hX]; exact Blk.newAt (by simp)⟩
  clear hX
  replace kt := kt.below bs
  replace kv := kv.below bs
  replace kp := kp.below bs
  replace ks := ks.below bs
  replace hJ := hJ.below bs
  replace bH := bH.trans ((belowH_of bs).mono bH.size)
  have hUX := bs.size
  clear bs
  go_wp2_with fail
  have hw0 := bH.size
  have hgv0 := kv.lt
  clear ks
  have ng : ∀ {k : Nat}, w.heap.size ≤ k → ¬ HM p k := fun hk h => by have := hlt _ h; omega
  refine (wpIn_wide (n := 9)).1 ?_
  refine wp_rangeH rfl (by decide) (gf := 142) (lb := #[.pointer (some ⟨U0.heap.size, 0, none⟩), .pointer (some ⟨U0.heap.size + 1, 0, none⟩)]) rfl trivial eg_sho (sho0_iter _ p _ _) (fun k vs W e => by rw [e]; rfl)
    (fun _ A => BelowH (HM p) w.heap.size w A ∧ Blk A g 3 #[.int .i64 (-1), .int .i64 (-1), .int .i64 (-1), .int .i64 (-1)] ∧ Blk A gv 33 #[.slice (some ⟨g, 0, none⟩) 4 4] ∧ Blk A w.heap.size 214 #[.pointer (some ⟨p.c, 0, none⟩), .map (some p.m2)]) (fun _ _ => False) (fun k A B h hc => ⟨h.1.trans (hc.1.mono bH.size), calmH_blk hc h.2.1 (ng (by omega)), calmH_blk hc h.2.2.1 (ng (by omega)), calmH_blk hc h.2.2.2 (ng (Nat.le_refl _))⟩) (fun _ _ _ h _ => h) (fun A B h hc => h.calm hJ hc) hJ.lt ⟨bH, kt, kv, kp⟩ hSh ?round ?done ?stop
  case stop => exact fun _ _ _ _ h _ _ => h.elim
  case round => exact fun _ _ _ _ _ h => absurd h (by omega)
  case done =>
    rintro D1 W1 hD1g ⟨bH1, kt, kv, kp⟩ hSh1 hD1
    have hJ := hSh1.inv
    have bH := bH1
    clear bH1 hSh1 hSh
    have hD1l : D1 < W1.heap.size := (Array.getElem?_eq_some_iff.1 hD1).1
    have hD1w : w.heap.size ≤ D1 := by omega
    go_wp2_with fail
    rw [rounds_succ]
    have hgs1 := bH.size
    have hgvl := kv.lt
    have hgl := kt.lt
    have bs := (Below.refl W1.heap.size W1).alloc (Nat.le_refl _) (.cells #[.int .i64 1] 3)
    have ks := Blk.new W1 3 #[.int .i64 1]
    go_upto_region 11 with fail
    replace kt := kt.below bs
    replace kv := kv.below bs
    replace kp := kp.below bs
    replace hJ := hJ.below bs
    replace bH := bH.trans ((belowH_of bs).mono bH.size)
    replace hD1 := (bs.block D1 hD1l).trans hD1
    replace hD1l := Nat.lt_of_lt_of_le hD1l bs.size
    clear bs
    generalize W1.alloc (.cells #[.int .i64 1] 3) = U1 at *
    generalize hg6 : W1.heap.size = gs1 at *
    have hgsU1 := ks.lt
    obtain ⟨cp, fp, lp⟩ := kp.rules
    obtain ⟨cs, fs, ls⟩ := ks.rules
    go_wp2_with fail
    refine (shoots_any p 1 _).mono ?_
    rintro e X1 ⟨rfl, hX⟩
    clear cp fp lp cs fs ls
    have bs : Below U1.heap.size U1 X1 := by rw [hX]; exact ((Below.refl _ _).alloc (Nat.le_refl _) _).alloc (by simp) _
    have hSh : ShoL p U1.heap.size (U1.heap.size + 1) 1 X1 := ⟨hJ.below bs, by rw [hX]; exact (Blk.new _ _ _).alloc _, by rw [hX]; exact Blk.newAt (by simp)⟩
    clear hX
    replace kt := kt.below bs
    replace kv := kv.below bs
    replace kp := kp.below bs
    replace ks := ks.below bs
    replace hJ := hJ.below bs
    replace bH := bH.trans ((belowH_of bs).mono bH.size)
    replace hD1 := (bs.block D1 hD1l).trans hD1
    replace hD1l := Nat.lt_of_lt_of_le hD1l bs.size
    have hUX := bs.size
    clear bs
    go_wp2_with fail
    refine (wpIn_wide (n := 9)).1 ?_
    have hgsl := ks.lt
    have hT0 : TabI p w gv g w.heap.size gs1 D1 (-1) (-1) X1 := ⟨bH, kt, kv, kp, ks, hD1⟩
    have hgsw : w.heap.size ≤ gs1 := hgs1
    refine wp_rangeH rfl (by decide) (gf := 142) (lb := #[.pointer (some ⟨U1.heap.size, 0, none⟩), .pointer (some ⟨U1.heap.size + 1, 0, none⟩)]) rfl trivial eg_sho (sho1_iter _ p _ _) (fun k vs W e => by rw [e]; rfl)
      (fun k A => TabI p w gv g w.heap.size gs1 D1 (if k = 0 then -1 else 12) (if k < 2 then -1 else 19) A) (fun _ _ => False) (fun k A B h hc => h.calm hc bH.size hD1l hlt (by omega) (by omega) (Nat.le_refl _) hgsw hD1w) (fun _ _ _ h _ => h) (fun A B h hc => h.calm hJ hc) hJ.lt hT0 hSh ?round2 ?done2 ?stop2
    case stop2 => exact fun _ _ _ _ h _ _ => h.elim
    case done2 =>
      rintro D2 W2 hD2 ⟨bH2, kt2, kv2, kp2, ks2, hD12⟩ hSh2 hD22
      simp only [show ¬ (2 : Nat) = 0 from by decide, show ¬ (2 : Nat) < 2 from by decide, if_false, reduceIte] at kt2
      obtain ⟨cv, fv, lv⟩ := kv2.rules
      go_wp2_with fail
      rw [rounds_succ]
      go_wp2_with fail
      have hD2l : D2 < W2.heap.size := (Array.getElem?_eq_some_iff.1 hD22).1
      have hDne : D1 ≠ D2 := by omega
      have hE : (W2.putObj D2 (.deferred none)).heap[D1]? = some (.deferred (some [])) := (World.putObj_heap_other (by omega)).trans hD12
      refine ⟨by simp, .inl ⟨_, _, rfl, run_takeDeferred hD22, ⟨by simp, .inl ⟨_, _, rfl, run_takeDeferred hE, ?_⟩⟩⟩⟩
      have hc1 := calm_put (B := w.heap.size) (.deferred none) hD22 rfl (by omega)
      have hc2 := calm_put (B := w.heap.size) (.deferred none) hE rfl (by omega)
      have hcc := hc1.1.trans hc2.1
      exact ⟨.slice (some ⟨g, 0, none⟩) 4 4, by simp [results, Tryz.results112, go_sem], g, rfl, calm_blk hc2 (calm_blk hc1 kt2), by omega, InvC.via hI hSh2.inv hcc, bH2.trans (belowH_of hcc)⟩
    case round2 =>
      rintro l k vs Y0 hY0 hk hT hSo rfl
      obtain rfl | rfl : k = 0 ∨ k = 1 := by omega
      · have hT : TabI p w gv g w.heap.size gs1 D1 (-1) (-1) Y0 := hT
        gi_wp2_with fail
        refine ⟨(Below.refl _ _).alloc (Nat.le_refl _) _, fun Y1 hc => ?_⟩
        have hc3 : Calm X1.heap.size Y0 Y1 := (calm_of_below ((Below.refl _ _).alloc (Nat.le_refl _) _) hY0).trans hc
        have k7 : Blk Y1 Y0.heap.size 224 #[.int .i64 0, .int .i64 0] := calm_blk hc (Blk.new _ _ _)
        replace hT := hT.calm hc3.h bH.size hD1l hlt (by omega) (by omega) (Nat.le_refl _) hgsw hD1w
        replace hSo := hSo.calm hJ hc3
        have hY1 : X1.heap.size ≤ Y1.heap.size := by have := k7.lt; omega
        clear hc hc3
        obtain ⟨tb, tt, tv, tp, ts, td⟩ := hT
        obtain ⟨cp, fp, lp⟩ := tp.rules
        obtain ⟨cv, fv, lv⟩ := tv.rules
        obtain ⟨cs, fs, ls⟩ := ts.rules
        obtain ⟨c7, f7, l7⟩ := k7.rules
        gi_wp2_with fail
        clear cp fp lp cv fv lv cs fs ls c7 f7 l7
        refine ⟨trivial, ?_⟩
        refine (CallsIn.inRound l (callsIn_wide.2 (earliest_any p 0 _ 4 4 _))).mono ?_
        rintro e Y2 ⟨rfl, hX⟩
        have bs : Below Y1.heap.size Y1 Y2 := by rw [hX]; exact ((((Below.refl _ _).alloc (Nat.le_refl _) _).alloc (by simp) _).alloc (by simp; omega) _).alloc (by simp; omega) _
        have hBf : BefL p (Y1.heap.size + 2) (Y1.heap.size + 3) Y1.heap.size (Y1.heap.size + 1) 0 (some ⟨g, 0, none⟩) 4 4 Y2 := ⟨hSo.inv.below bs, by rw [hX]; exact (((Blk.new _ _ _).alloc _).alloc _).alloc _, by rw [hX]; exact (Blk.newAt (by simp)).alloc _, by rw [hX]; exact Blk.newAt (by simp), by rw [hX]; exact ((Blk.newAt (by simp)).alloc _).alloc _⟩
        clear hX
        gi_wp2_with fail
        refine ⟨trivial, ?_⟩
        refine (CallsIn.inRound l (callsIn_wide.2 (firstIA_any p _ _ _ _ (some ⟨g, 0, none⟩) 4 4 _ hBf))).mono ?_
        rintro e Y3 ⟨rfl, hI3, hb3⟩
        have hb13 : BelowH (HM p) Y1.heap.size Y1 Y3 := (belowH_of bs).trans (hb3.mono bs.size)
        replace tt := hb13.blk tt tt.lt (hSo.inv.off tt)
        replace tv := hb13.blk tv tv.lt (hSo.inv.off tv)
        replace tp := hb13.blk tp tp.lt (hSo.inv.off tp)
        replace ts := hb13.blk ts ts.lt (hSo.inv.off ts)
        replace k7 := hb13.blk k7 k7.lt (hSo.inv.off k7)
        replace td := (hb13.block D1 (by omega) (ng hD1w)).trans td
        replace tb := tb.trans (hb13.mono tb.size)
        have hn13 : NC X1.heap.size Y1 Y3 := ncH_of hb13 hJ.lt
        replace hSo := hSo.next hI3 hb13
        replace hY1 := Nat.le_trans hY1 hb13.size
        clear hb3 hb13 bs hBf
        gi_wp2_with fail
        refine wpIn_held_round (fun w' : World => (∀ j, w'.cell? ⟨gv, j, none⟩ = #[Value.slice (some ⟨g, 0, none⟩) 4 4][j]?) ∧ (∀ j, w'.cell? ⟨w.heap.size, j, none⟩ = #[Value.pointer (some ⟨p.c, 0, none⟩), .map (some p.m2)][j]?) ∧ (∀ j, w'.cell? ⟨gs1, j, none⟩ = #[Value.int .i64 1][j]?) ∧ (∀ j, w'.cell? ⟨Y0.heap.size, j, none⟩ = #[Value.int .i64 0, .int .i64 0][j]?)) (by kernel_rfl) (by kernel_rfl) (by rintro ⟨_, _, h⟩; exact h) ?_
        have hSb : Hid (∀ W', Below Y3.heap.size Y3 W' → (fun w' : World => (∀ j, w'.cell? ⟨gv, j, none⟩ = #[Value.slice (some ⟨g, 0, none⟩) 4 4][j]?) ∧ (∀ j, w'.cell? ⟨w.heap.size, j, none⟩ = #[Value.pointer (some ⟨p.c, 0, none⟩), .map (some p.m2)][j]?) ∧ (∀ j, w'.cell? ⟨gs1, j, none⟩ = #[Value.int .i64 1][j]?) ∧ (∀ j, w'.cell? ⟨Y0.heap.size, j, none⟩ = #[Value.int .i64 0, .int .i64 0][j]?)) W') := by
          show ∀ _, _
          intro W' hbb
          exact ⟨(tv.below hbb).cell, (tp.below hbb).cell, (ts.below hbb).cell, (k7.below hbb).cell⟩
        have hb9 : Below Y3.heap.size Y3 Y3.drew := (Below.refl _ _).drew
        have hS := hSb.out _ hb9
        generalize Y3.drew = wd at *
        refine hTk 0 50 ?_
        refine hTk 1 51 ?_
        refine hTk 2 52 ?_
        refine hTk 3 53 ?_
        refine hTk 5 55 ?_
        refine hOne 4 fun K hK => ?_
        go_simp
        refine (placeA_any p _ (hI3.below hb9)).mono ?_
        rintro e Y4 ⟨rfl, hbel⟩
        replace hb9 := hb9.trans (hbel.mono hb9.size)
        clear hbel
        refine hK _ _ (hSb.out _ hb9) ?_
        clear hK K
        try simp only [Act.put, sA, sZ, sS]
        clear hS
        have hS := hSb.out _ hb9
        refine hTk 6 56 ?_
        replace tt := tt.below hb9
        replace tv := tv.below hb9
        replace tp := tp.below hb9
        replace ts := ts.below hb9
        replace k7 := k7.below hb9
        replace td := (hb9.block D1 (by omega)).trans td
        replace tb := tb.trans ((belowH_of hb9).mono tb.size)
        replace hn13 := hn13.trans (nc_of_below hb9)
        replace hSo := hSo.below hb9
        have tz := tt.set_ 2 (.int .i64 12)
        simp only [sA, sZ, sS] at tz
        obtain ⟨ct, ft, lt⟩ := tt.rules
        refine hOne 7 fun K hK => ?_
        go_simp
        have hS2 : (fun w' : World => (∀ j, w'.cell? ⟨gv, j, none⟩ = #[Value.slice (some ⟨g, 0, none⟩) 4 4][j]?) ∧ (∀ j, w'.cell? ⟨w.heap.size, j, none⟩ = #[Value.pointer (some ⟨p.c, 0, none⟩), .map (some p.m2)][j]?) ∧ (∀ j, w'.cell? ⟨gs1, j, none⟩ = #[Value.int .i64 1][j]?) ∧ (∀ j, w'.cell? ⟨Y0.heap.size, j, none⟩ = #[Value.int .i64 0, .int .i64 0][j]?)) (Y4.setCell ⟨g, 2, none⟩ (.int .i64 12)) := ⟨(tv.far (by dsimp only; omega) _).cell, (tp.far (by dsimp only; omega) _).cell, (ts.far (by dsimp only; omega) _).cell, (k7.far (by dsimp only; omega) _).cell⟩
        refine hK _ _ hS2 ?_
        clear hK K hS2 hS ct ft lt
        try simp only [Act.put, sA, sZ, sS]
        refine wpAnyH_done (by kernel_rfl) ?_ _
        exact ⟨hn13.trans (nc_setCell _ _ _ (by dsimp only; omega)), ⟨tb.trans (belowH_of ((Below.refl w.heap.size Y4).setCell (by dsimp only; omega) _)), tz, tv.far (by dsimp only; omega) _, tp.far (by dsimp only; omega) _, ts.far (by dsimp only; omega) _, (Below.heap_setCell _ _ _ _ (by dsimp only; omega)).trans td⟩, ⟨hSo.inv.set_ hI (by omega) _, hSo.kp.far (by dsimp only; omega) _, hSo.ks.far (by dsimp only; omega) _⟩⟩
      · have hT : TabI p w gv g w.heap.size gs1 D1 (12) (-1) Y0 := hT
        gi_wp2_with fail
        refine ⟨(Below.refl _ _).alloc (Nat.le_refl _) _, fun Y1 hc => ?_⟩
        have hc3 : Calm X1.heap.size Y0 Y1 := (calm_of_below ((Below.refl _ _).alloc (Nat.le_refl _) _) hY0).trans hc
        have k7 : Blk Y1 Y0.heap.size 224 #[.int .i64 0, .int .i64 1] := calm_blk hc (Blk.new _ _ _)
        replace hT := hT.calm hc3.h bH.size hD1l hlt (by omega) (by omega) (Nat.le_refl _) hgsw hD1w
        replace hSo := hSo.calm hJ hc3
        have hY1 : X1.heap.size ≤ Y1.heap.size := by have := k7.lt; omega
        clear hc hc3
        obtain ⟨tb, tt, tv, tp, ts, td⟩ := hT
        obtain ⟨cp, fp, lp⟩ := tp.rules
        obtain ⟨cv, fv, lv⟩ := tv.rules
        obtain ⟨cs, fs, ls⟩ := ts.rules
        obtain ⟨c7, f7, l7⟩ := k7.rules
        gi_wp2_with fail
        clear cp fp lp cv fv lv cs fs ls c7 f7 l7
        refine ⟨trivial, ?_⟩
        refine (CallsIn.inRound l (callsIn_wide.2 (earliest_any p 1 _ 4 4 _))).mono ?_
        rintro e Y2 ⟨rfl, hX⟩
        have bs : Below Y1.heap.size Y1 Y2 := by rw [hX]; exact ((((Below.refl _ _).alloc (Nat.le_refl _) _).alloc (by simp) _).alloc (by simp; omega) _).alloc (by simp; omega) _
        have hBf : BefL p (Y1.heap.size + 2) (Y1.heap.size + 3) Y1.heap.size (Y1.heap.size + 1) 1 (some ⟨g, 0, none⟩) 4 4 Y2 := ⟨hSo.inv.below bs, by rw [hX]; exact (((Blk.new _ _ _).alloc _).alloc _).alloc _, by rw [hX]; exact (Blk.newAt (by simp)).alloc _, by rw [hX]; exact Blk.newAt (by simp), by rw [hX]; exact ((Blk.newAt (by simp)).alloc _).alloc _⟩
        clear hX
        gi_wp2_with fail
        refine ⟨trivial, ?_⟩
        refine (CallsIn.inRound l (callsIn_wide.2 (firstIB_any p _ _ _ _ (some ⟨g, 0, none⟩) 4 4 _ hBf))).mono ?_
        rintro e Y3 ⟨rfl, hI3, hb3⟩
        have hb13 : BelowH (HM p) Y1.heap.size Y1 Y3 := (belowH_of bs).trans (hb3.mono bs.size)
        replace tt := hb13.blk tt tt.lt (hSo.inv.off tt)
        replace tv := hb13.blk tv tv.lt (hSo.inv.off tv)
        replace tp := hb13.blk tp tp.lt (hSo.inv.off tp)
        replace ts := hb13.blk ts ts.lt (hSo.inv.off ts)
        replace k7 := hb13.blk k7 k7.lt (hSo.inv.off k7)
        replace td := (hb13.block D1 (by omega) (ng hD1w)).trans td
        replace tb := tb.trans (hb13.mono tb.size)
        have hn13 : NC X1.heap.size Y1 Y3 := ncH_of hb13 hJ.lt
        replace hSo := hSo.next hI3 hb13
        replace hY1 := Nat.le_trans hY1 hb13.size
        clear hb3 hb13 bs hBf
        gi_wp2_with fail
        refine wpIn_held_round (fun w' : World => (∀ j, w'.cell? ⟨gv, j, none⟩ = #[Value.slice (some ⟨g, 0, none⟩) 4 4][j]?) ∧ (∀ j, w'.cell? ⟨w.heap.size, j, none⟩ = #[Value.pointer (some ⟨p.c, 0, none⟩), .map (some p.m2)][j]?) ∧ (∀ j, w'.cell? ⟨gs1, j, none⟩ = #[Value.int .i64 1][j]?) ∧ (∀ j, w'.cell? ⟨Y0.heap.size, j, none⟩ = #[Value.int .i64 0, .int .i64 1][j]?)) (by kernel_rfl) (by kernel_rfl) (by rintro ⟨_, _, h⟩; exact h) ?_
        have hSb : Hid (∀ W', Below Y3.heap.size Y3 W' → (fun w' : World => (∀ j, w'.cell? ⟨gv, j, none⟩ = #[Value.slice (some ⟨g, 0, none⟩) 4 4][j]?) ∧ (∀ j, w'.cell? ⟨w.heap.size, j, none⟩ = #[Value.pointer (some ⟨p.c, 0, none⟩), .map (some p.m2)][j]?) ∧ (∀ j, w'.cell? ⟨gs1, j, none⟩ = #[Value.int .i64 1][j]?) ∧ (∀ j, w'.cell? ⟨Y0.heap.size, j, none⟩ = #[Value.int .i64 0, .int .i64 1][j]?)) W') := by
          show ∀ _, _
          intro W' hbb
          exact ⟨(tv.below hbb).cell, (tp.below hbb).cell, (ts.below hbb).cell, (k7.below hbb).cell⟩
        have hb9 : Below Y3.heap.size Y3 Y3.drew := (Below.refl _ _).drew
        have hS := hSb.out _ hb9
        generalize Y3.drew = wd at *
        refine hTk 0 50 ?_
        refine hTk 1 51 ?_
        refine hTk 2 52 ?_
        refine hTk 3 53 ?_
        refine hTk 5 55 ?_
        refine hOne 4 fun K hK => ?_
        go_simp
        refine (placeB_any p _ (hI3.below hb9)).mono ?_
        rintro e Y4 ⟨rfl, hbel⟩
        replace hb9 := hb9.trans (hbel.mono hb9.size)
        clear hbel
        refine hK _ _ (hSb.out _ hb9) ?_
        clear hK K
        try simp only [Act.put, sA, sZ, sS]
        clear hS
        have hS := hSb.out _ hb9
        refine hTk 6 56 ?_
        replace tt := tt.below hb9
        replace tv := tv.below hb9
        replace tp := tp.below hb9
        replace ts := ts.below hb9
        replace k7 := k7.below hb9
        replace td := (hb9.block D1 (by omega)).trans td
        replace tb := tb.trans ((belowH_of hb9).mono tb.size)
        replace hn13 := hn13.trans (nc_of_below hb9)
        replace hSo := hSo.below hb9
        have tz := tt.set_ 3 (.int .i64 19)
        simp only [sA, sZ, sS] at tz
        obtain ⟨ct, ft, lt⟩ := tt.rules
        refine hOne 7 fun K hK => ?_
        go_simp
        have hS2 : (fun w' : World => (∀ j, w'.cell? ⟨gv, j, none⟩ = #[Value.slice (some ⟨g, 0, none⟩) 4 4][j]?) ∧ (∀ j, w'.cell? ⟨w.heap.size, j, none⟩ = #[Value.pointer (some ⟨p.c, 0, none⟩), .map (some p.m2)][j]?) ∧ (∀ j, w'.cell? ⟨gs1, j, none⟩ = #[Value.int .i64 1][j]?) ∧ (∀ j, w'.cell? ⟨Y0.heap.size, j, none⟩ = #[Value.int .i64 0, .int .i64 1][j]?)) (Y4.setCell ⟨g, 3, none⟩ (.int .i64 19)) := ⟨(tv.far (by dsimp only; omega) _).cell, (tp.far (by dsimp only; omega) _).cell, (ts.far (by dsimp only; omega) _).cell, (k7.far (by dsimp only; omega) _).cell⟩
        refine hK _ _ hS2 ?_
        clear hK K hS2 hS ct ft lt
        try simp only [Act.put, sA, sZ, sS]
        refine wpAnyH_done (by kernel_rfl) ?_ _
        exact ⟨hn13.trans (nc_setCell _ _ _ (by dsimp only; omega)), ⟨tb.trans (belowH_of ((Below.refl w.heap.size Y4).setCell (by dsimp only; omega) _)), tz, tv.far (by dsimp only; omega) _, tp.far (by dsimp only; omega) _, ts.far (by dsimp only; omega) _, (Below.heap_setCell _ _ _ _ (by dsimp only; omega)).trans td⟩, ⟨hSo.inv.set_ hI (by omega) _, hSo.kp.far (by dsimp only; omega) _, hSo.ks.far (by dsimp only; omega) _⟩⟩
end Go.Proofs.YtcmbmmpihiekhaaGreat
