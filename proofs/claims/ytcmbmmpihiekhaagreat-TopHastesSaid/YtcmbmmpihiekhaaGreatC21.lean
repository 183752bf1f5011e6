/-
  Courses, walks: the best order at the example.
-/
import Derived.Test.YtcmbmmpihiekhaaGreatC20
set_option maxRecDepth 100000
set_option maxHeartbeats 16000000
set_option linter.unusedSimpArgs false
set_option linter.unusedVariables false
namespace Go.Proofs.YtcmbmmpihiekhaaGreat
open Go.RowKit Go.Shelf
attribute [local go_sem] Oper.semAt_some

/-- What the loop over the last lines keeps. -/
structure BesI (p : Pl) (w : World) (ge gp ga gt g : Nat) (v : Int) (A : World) : Prop where
  b : BelowH (HM p) w.heap.size w A
  ke : Blk A ge 3 #[.int .i64 v]
  kp : Blk A gp 214 #[.pointer (some ⟨p.c, 0, none⟩), .map (some p.m2)]
  ka : Blk A ga 3 #[.int .i64 1]
  kt : Blk A gt 33 #[.slice (some ⟨g, 0, none⟩) 4 4]
  kg : Blk A g 3 #[.int .i64 (-1), .int .i64 (-1), .int .i64 12, .int .i64 19]
structure OffB (p : Pl) (ge gp ga gt g : Nat) : Prop where
  ke : ¬ HM p ge
  kp : ¬ HM p gp
  ka : ¬ HM p ga
  kt : ¬ HM p gt
  kg : ¬ HM p g
theorem BesI.calm {p : Pl} {w A B : World} {ge gp ga gt g B0 : Nat} {v : Int} (h : BesI p w ge gp ga gt g v A) (ho : OffB p ge gp ga gt g) (hB : w.heap.size ≤ B0) (hc : CalmH (HM p) B0 A B) : BesI p w ge gp ga gt g v B :=
  ⟨h.b.trans (hc.1.mono hB), calmH_blk hc h.ke ho.ke, calmH_blk hc h.kp ho.kp, calmH_blk hc h.ka ho.ka, calmH_blk hc h.kt ho.kt, calmH_blk hc h.kg ho.kg⟩
def bev : Nat → Int
  | 0 => -1
  | _ => 12
theorem ShoL.setX {p : Pl} {g5 g6 : Nat} {st : Int} {w : World} (h : ShoL p g5 g6 st w) {g o : Nat} (h5 : g5 ≠ g) (h6 : g6 ≠ g) (hnc : p.c ≠ g) (hnL : p.bL ≠ g) (hnO : p.bO ≠ g) (hnB : p.bB ≠ g) (hm : ¬ HM p g) (v : Value) : ShoL p g5 g6 st (w.setCell ⟨g, o, none⟩ v) := by
  have q : ∀ {k : Nat} (hn : k ≠ g), (w.setCell ⟨g, o, none⟩ v).heap[k]? = w.heap[k]? := fun {k} hn => Below.heap_setCell _ _ _ _ (by dsimp only; exact hn)
  obtain ⟨f1, h1⟩ := h.inv.kn
  obtain ⟨f2, h2⟩ := h.inv.co
  exact ⟨⟨(q hnc).trans h.inv.kc, (q hnL).trans h.inv.kL, (q hnO).trans h.inv.kO, (q hnB).trans h.inv.kB, ⟨f1, h1.block (q fun e => hm (.inl e.symm))⟩, ⟨f2, h2.block (q fun e => hm (.inr e.symm))⟩, h.inv.ne⟩, (q h5).trans h.kp, (q h6).trans h.ks⟩
theorem Best_any (bL bO bB : Nat) (w : World) (kL : Blk w bL 149 #[Value.int .i64 0, .int .i64 0, .int .i64 10, .int .i64 0]) (kO : Blk w bO 29 #[Value.slice (some ⟨bB, 0, none⟩) 1 1]) (kB : Blk w bB 26 #[Value.int .i64 7, .int .i64 100]) :
    Calls Tryz.prog 62 #[.agg #[.slice (some ⟨bL, 0, none⟩) 1 1, .slice none 0 0, .slice none 0 0, .int .i64 0, .int .i64 0, .int .i64 0, .int .i64 0, .int .i64 0, .int .i64 0, .int .i64 0, .int .i64 0, .int .i64 0, .int .i64 0, .int .i64 0, .int .i64 2, .int .i64 3, .slice (some ⟨bO, 0, none⟩) 1 1]] w fun e w' => ∃ A n c, e = .returned (.tuple #[.slice A n c, .int .i64 12, .int .i64 0]) ∧ Below w.heap.size w w' := by
  have hst := @hstT Tryz.prog
  have hmf := @hmfT Tryz.prog
  refine (callsIn_wide (n := 9)).1 ?_
  refine callsIn_of_wp_marks Tryz.func62 rfl trivial ?_ rfl
  simp only [Tryz.ntmps62, List.size_toArray, List.length_cons, List.length_nil, Nat.reduceAdd, Nat.reduceSub, Array.replicate_succ, Array.replicate_zero, List.push_toArray, List.append_toArray, List.nil_append, List.cons_append]
  refine wpIn_wide.2 ?_
  have b := ((Below.refl w.heap.size w).alloc (Nat.le_refl _) (.cells #[.slice (some ⟨bL, 0, none⟩) 1 1, .slice none 0 0, .slice none 0 0, .int .i64 0, .int .i64 0, .int .i64 0, .int .i64 0, .int .i64 0, .int .i64 0, .int .i64 0, .int .i64 0, .int .i64 0, .int .i64 0, .int .i64 0, .int .i64 2, .int .i64 3, .slice (some ⟨bO, 0, none⟩) 1 1] 155)).alloc (by simp) (.cells #[.int .i64 0] 3)
  have k1 := (Blk.new w 155 #[.slice (some ⟨bL, 0, none⟩) 1 1, .slice none 0 0, .slice none 0 0, .int .i64 0, .int .i64 0, .int .i64 0, .int .i64 0, .int .i64 0, .int .i64 0, .int .i64 0, .int .i64 0, .int .i64 0, .int .i64 0, .int .i64 0, .int .i64 2, .int .i64 3, .slice (some ⟨bO, 0, none⟩) 1 1]).alloc (.cells #[.int .i64 0] 3)
  have ke : Blk ((w.alloc (.cells #[.slice (some ⟨bL, 0, none⟩) 1 1, .slice none 0 0, .slice none 0 0, .int .i64 0, .int .i64 0, .int .i64 0, .int .i64 0, .int .i64 0, .int .i64 0, .int .i64 0, .int .i64 0, .int .i64 0, .int .i64 0, .int .i64 0, .int .i64 2, .int .i64 3, .slice (some ⟨bO, 0, none⟩) 1 1] 155)).alloc (.cells #[.int .i64 0] 3)) (w.heap.size + 1) 3 #[.int .i64 0] := Blk.newAt (by simp)
  replace kL := kL.below b
  replace kO := kO.below b
  replace kB := kB.below b
  go_upto_region 1 with fail
  generalize (w.alloc (.cells #[.slice (some ⟨bL, 0, none⟩) 1 1, .slice none 0 0, .slice none 0 0, .int .i64 0, .int .i64 0, .int .i64 0, .int .i64 0, .int .i64 0, .int .i64 0, .int .i64 0, .int .i64 0, .int .i64 0, .int .i64 0, .int .i64 0, .int .i64 2, .int .i64 3, .slice (some ⟨bO, 0, none⟩) 1 1] 155)).alloc (.cells #[.int .i64 0] 3) = W at *
  obtain ⟨c1, f1, l1⟩ := k1.rules
  go_wp2_with fail
  refine (planOf_any bL bO bB _ kL kO kB).mono ?_
  rintro e W1 ⟨p, rfl, hI, -, hm1, hm2, hb⟩
  clear c1 f1 l1 k1 kL kO kB
  have hoff : ∀ k, HM p k → w.heap.size ≤ k := by rintro k (rfl | rfl) <;> (have := b.size; omega)
  replace ke := ke.below hb
  replace b := b.trans (hb.mono b.size)
  clear hb hm1 hm2
  have hb := (Below.refl W1.heap.size W1).alloc (Nat.le_refl _) (.cells #[.pointer (some ⟨p.c, 0, none⟩), .map (some p.m2)] 214)
  have kp := Blk.new W1 214 #[.pointer (some ⟨p.c, 0, none⟩), .map (some p.m2)]
  go_upto_region 2 with fail
  replace ke := ke.below hb
  replace hI := hI.below hb
  replace b := b.trans (hb.mono b.size)
  clear hb
  generalize W1.alloc (.cells #[.pointer (some ⟨p.c, 0, none⟩), .map (some p.m2)] 214) = W2 at *
  generalize W1.heap.size = gp at *
  obtain ⟨cp, fp, lp⟩ := kp.rules
  obtain ⟨cc, fc, lc⟩ := hI.kc.rules
  have hb := (Below.refl W2.heap.size W2).alloc (Nat.le_refl _) (.cells #[.int .i64 1] 3)
  have ka := Blk.new W2 3 #[.int .i64 1]
  go_upto_region 5 with fail
  clear cp fp lp cc fc lc
  replace ke := ke.below hb
  replace kp := kp.below hb
  replace hI := hI.below hb
  replace b := b.trans (hb.mono b.size)
  clear hb
  generalize W2.alloc (.cells #[.int .i64 1] 3) = W3 at *
  generalize W2.heap.size = ga at *
  obtain ⟨cp, fp, lp⟩ := kp.rules
  go_wp2_with fail
  refine (table_any p _ hI).mono ?_
  rintro e W4 ⟨g, rfl, kg, hgl, hI2, hb⟩
  clear cp fp lp
  have bH := (belowH_of (H := HM p) b).trans (hb.mono b.size)
  replace ke := hb.blk ke ke.lt (hI.off ke)
  replace kp := hb.blk kp kp.lt (hI.off kp)
  replace ka := hb.blk ka ka.lt (hI.off ka)
  clear hI hb
  have hI := hI2
  clear hI2
  have hb := (Below.refl W4.heap.size W4).alloc (Nat.le_refl _) (.cells #[.slice (some ⟨g, 0, none⟩) 4 4] 33)
  have kt := Blk.new W4 33 #[.slice (some ⟨g, 0, none⟩) 4 4]
  go_upto_region 6 with fail
  replace ke := ke.below hb
  replace kp := kp.below hb
  replace ka := ka.below hb
  replace kg := kg.below hb
  replace hI := hI.below hb
  replace bH := bH.trans ((belowH_of hb).mono bH.size)
  clear hb b
  generalize W4.alloc (.cells #[.slice (some ⟨g, 0, none⟩) 4 4] 33) = W5 at *
  generalize W4.heap.size = gt at *
  have hge : w.heap.size + 1 ≠ gp := blk_ne ke kp (by decide)
  have hge2 : w.heap.size + 1 ≠ gt := blk_ne ke kt (by decide)
  have hcs := ke.lt
  have hga : w.heap.size + 1 ≠ ga := fun e => by rw [← e] at ka; exact absurd (congrArg (fun o => o) (Option.some.inj (ke.symm.trans ka))) (by simp)
  have hgg : w.heap.size + 1 ≠ g := fun e => by rw [← e] at kg; exact absurd (Option.some.inj (ke.symm.trans kg)) (by simp)
  have hnc : p.c ≠ w.heap.size + 1 := blk_ne hI.kc ke (by decide)
  have hnL : p.bL ≠ w.heap.size + 1 := blk_ne hI.kL ke (by decide)
  have hnO : p.bO ≠ w.heap.size + 1 := blk_ne hI.kO ke (by decide)
  have hnB : p.bB ≠ w.heap.size + 1 := blk_ne hI.kB ke (by decide)
  have hoe : ¬ HM p (w.heap.size + 1) := hI.off ke
  obtain ⟨ce, fe, le⟩ := ke.rules
  go_upto_region 7 with fail
  clear ce fe le
  replace ke := ke.set_ 0 (.int .i64 (-1))
  simp only [sA, sZ, sS] at ke
  replace kp := kp.far (p := ⟨w.heap.size + 1, 0, none⟩) (by dsimp only; omega) (.int .i64 (-1))
  replace ka := ka.far (p := ⟨w.heap.size + 1, 0, none⟩) (by dsimp only; omega) (.int .i64 (-1))
  replace kt := kt.far (p := ⟨w.heap.size + 1, 0, none⟩) (by dsimp only; omega) (.int .i64 (-1))
  replace kg := kg.far (p := ⟨w.heap.size + 1, 0, none⟩) (by dsimp only; omega) (.int .i64 (-1))
  have hIz : InvC p (W5.setCell ⟨w.heap.size + 1, 0, none⟩ (.int .i64 (-1))) := by
    have q : ∀ {k : Nat} (hn : k ≠ w.heap.size + 1), (W5.setCell ⟨w.heap.size + 1, 0, none⟩ (.int .i64 (-1))).heap[k]? = W5.heap[k]? := fun {k} hn => Below.heap_setCell _ _ _ _ (by dsimp only; exact hn)
    obtain ⟨f1, h1⟩ := hI.kn
    obtain ⟨f2, h2⟩ := hI.co
    exact ⟨(q hnc).trans hI.kc, (q hnL).trans hI.kL, (q hnO).trans hI.kO, (q hnB).trans hI.kB, ⟨f1, h1.block (q fun e => hoe (.inl e.symm))⟩, ⟨f2, h2.block (q fun e => hoe (.inr e.symm))⟩, hI.ne⟩
  replace bH := bH.trans (belowH_of ((Below.refl w.heap.size W5).setCell (p := ⟨w.heap.size + 1, 0, none⟩) (by dsimp only; omega) (.int .i64 (-1))))
  clear hI
  have hI := hIz
  clear hIz
  generalize W5.setCell ⟨w.heap.size + 1, 0, none⟩ (.int .i64 (-1)) = W6 at *
  obtain ⟨cp, fp, lp⟩ := kp.rules
  obtain ⟨cs, fs, ls⟩ := ka.rules
  go_wp2_with fail
  refine (shoots_any p 1 _).mono ?_
  rintro e X ⟨rfl, hX⟩
  clear cp fp lp cs fs ls
  have bs : Below W6.heap.size W6 X := by rw [hX]; exact ((Below.refl _ _).alloc (Nat.le_refl _) _).alloc (by simp) _
  have hSh : ShoL p W6.heap.size (W6.heap.size + 1) 1 X := ⟨hI.below bs, by rw [hX]; exact (Blk.new _ _ _).alloc _, by rw [hX]; exact Blk.newAt (by simp)⟩
  clear hX
  have h6ke := ke.lt
  replace ke := ke.below bs
  have h6kp := kp.lt
  replace kp := kp.below bs
  have h6ka := ka.lt
  replace ka := ka.below bs
  have h6kt := kt.lt
  replace kt := kt.below bs
  have h6kg := kg.lt
  replace kg := kg.below bs
  replace bH := bH.trans ((belowH_of bs).mono bH.size)
  have hJX := hSh.inv
  have hWX := bs.size
  clear bs hI
  go_wp2_with fail
  have hX0 := bH.size
  have hI0 : BesI p w (w.heap.size + 1) gp ga gt g (bev 0) X := ⟨bH, ke, kp, ka, kt, kg⟩
  have hoB : OffB p (w.heap.size + 1) gp ga gt g := ⟨hJX.off ke, hJX.off kp, hJX.off ka, hJX.off kt, hJX.off kg⟩
  clear ke kp ka kt kg
  refine (wpIn_wide (n := 9)).1 ?_
  refine wp_rangeH rfl (by decide) (gf := 142) (lb := #[.pointer (some ⟨W6.heap.size, 0, none⟩), .pointer (some ⟨W6.heap.size + 1, 0, none⟩)]) rfl trivial eg_sho (sho1_iter _ p _ _) (fun k vs W e => by rw [e]; rfl)
    (fun k A => BesI p w (w.heap.size + 1) gp ga gt g (bev k) A) (fun _ _ => False) (fun k A B h hc => h.calm hoB hX0 hc) (fun _ _ _ h _ => h) (fun A B h hc => h.calm hJX hc) hJX.lt hI0 hSh ?round ?done ?stop
  case stop => exact fun _ _ _ _ h _ _ => h.elim
  case round =>
    rintro l k vs Y0 hY0 hk hN hSo rfl
    obtain rfl | rfl : k = 0 ∨ k = 1 := by omega
    · replace hN : BesI p w (w.heap.size + 1) gp ga gt g (-1) Y0 := hN
      gi_wp2_with fail
      refine ⟨(Below.refl _ _).alloc (Nat.le_refl _) _, fun Y1 hc => ?_⟩
      have hc3 : Calm X.heap.size Y0 Y1 := (calm_of_below ((Below.refl _ _).alloc (Nat.le_refl _) _) hY0).trans hc
      have kx : Blk Y1 Y0.heap.size 224 #[.int .i64 0, .int .i64 0] := calm_blk hc (Blk.new _ _ _)
      replace hN := hN.calm hoB hX0 hc3.h
      replace hSo := hSo.calm hJX hc3
      have hY1 : X.heap.size ≤ Y1.heap.size := by have := kx.lt; omega
      clear hc hc3
      obtain ⟨nb, ke, kp, ka, kt, kg⟩ := hN
      gi_wp2_with fail
      refine wpIn_held_round (fun w' : World => (∀ j, w'.cell? ⟨gt, j, none⟩ = #[Value.slice (some ⟨g, 0, none⟩) 4 4][j]?) ∧ (∀ j, w'.cell? ⟨gp, j, none⟩ = #[Value.pointer (some ⟨p.c, 0, none⟩), .map (some p.m2)][j]?) ∧ (∀ j, w'.cell? ⟨ga, j, none⟩ = #[Value.int .i64 1][j]?) ∧ (∀ j, w'.cell? ⟨Y0.heap.size, j, none⟩ = #[Value.int .i64 0, .int .i64 0][j]?) ∧ (∀ j, w'.cell? ⟨g, j, none⟩ = #[Value.int .i64 (-1), .int .i64 (-1), .int .i64 12, .int .i64 19][j]?)) (by kernel_rfl) (by kernel_rfl) (by rintro ⟨_, _, h⟩; exact h) ?_
      have hSb : Hid (∀ W', Below Y1.heap.size Y1 W' → (fun w' : World => (∀ j, w'.cell? ⟨gt, j, none⟩ = #[Value.slice (some ⟨g, 0, none⟩) 4 4][j]?) ∧ (∀ j, w'.cell? ⟨gp, j, none⟩ = #[Value.pointer (some ⟨p.c, 0, none⟩), .map (some p.m2)][j]?) ∧ (∀ j, w'.cell? ⟨ga, j, none⟩ = #[Value.int .i64 1][j]?) ∧ (∀ j, w'.cell? ⟨Y0.heap.size, j, none⟩ = #[Value.int .i64 0, .int .i64 0][j]?) ∧ (∀ j, w'.cell? ⟨g, j, none⟩ = #[Value.int .i64 (-1), .int .i64 (-1), .int .i64 12, .int .i64 19][j]?)) W') := by
        show ∀ _, _
        intro W' hbb
        exact ⟨(kt.below hbb).cell, (kp.below hbb).cell, (ka.below hbb).cell, (kx.below hbb).cell, (kg.below hbb).cell⟩
      have hb9 : Below Y1.heap.size Y1 Y1.drew := (Below.refl _ _).drew
      have hS := hSb.out _ hb9
      generalize Y1.drew = wd at *
      refine hTk 0 35 ?_
      refine hTk 1 36 ?_
      refine hTk 2 37 ?_
      refine hTk 3 38 ?_
      refine hOne 4 fun K hK => ?_
      go_simp
      refine (placeA_any p _ (hSo.inv.below hb9)).mono ?_
      rintro e Y4 ⟨rfl, hbel⟩
      replace hb9 := hb9.trans (hbel.mono hb9.size)
      clear hbel
      refine hK _ _ (hSb.out _ hb9) ?_
      clear hK K
      try simp only [Act.put, sA, sZ, sS]
      clear hS
      have hS := hSb.out _ hb9
      refine hTk 5 40 ?_
      refine hTk 6 41 ?_
      refine hTk 7 9 ?_
      replace ke := ke.below hb9
      replace kp := kp.below hb9
      replace ka := ka.below hb9
      replace kt := kt.below hb9
      replace kg := kg.below hb9
      replace kx := kx.below hb9
      replace nb := nb.trans ((belowH_of hb9).mono nb.size)
      have hn : NC X.heap.size Y1 Y4 := nc_of_below hb9
      replace hSo := hSo.below hb9
      refine wpAnyH_done (by kernel_rfl) ?_ _
      clear hS hSb
      obtain ⟨ce, fe, le⟩ := ke.rules
      gi_wp2_with fail
      have kez := ke.set_ 0 (.int .i64 12)
      simp only [sA, sZ] at kez
      exact ⟨hn.trans (nc_setCell _ _ _ (by dsimp only; omega)), ⟨nb.trans (belowH_of ((Below.refl w.heap.size Y4).setCell (by dsimp only; omega) _)), kez, kp.far (by dsimp only; omega) _, ka.far (by dsimp only; omega) _, kt.far (by dsimp only; omega) _, kg.far (by dsimp only; omega) _⟩, hSo.setX (by omega) (by omega) hnc hnL hnO hnB hoe _⟩
    · replace hN : BesI p w (w.heap.size + 1) gp ga gt g (12) Y0 := hN
      gi_wp2_with fail
      refine ⟨(Below.refl _ _).alloc (Nat.le_refl _) _, fun Y1 hc => ?_⟩
      have hc3 : Calm X.heap.size Y0 Y1 := (calm_of_below ((Below.refl _ _).alloc (Nat.le_refl _) _) hY0).trans hc
      have kx : Blk Y1 Y0.heap.size 224 #[.int .i64 0, .int .i64 1] := calm_blk hc (Blk.new _ _ _)
      replace hN := hN.calm hoB hX0 hc3.h
      replace hSo := hSo.calm hJX hc3
      have hY1 : X.heap.size ≤ Y1.heap.size := by have := kx.lt; omega
      clear hc hc3
      obtain ⟨nb, ke, kp, ka, kt, kg⟩ := hN
      gi_wp2_with fail
      refine wpIn_held_round (fun w' : World => (∀ j, w'.cell? ⟨gt, j, none⟩ = #[Value.slice (some ⟨g, 0, none⟩) 4 4][j]?) ∧ (∀ j, w'.cell? ⟨gp, j, none⟩ = #[Value.pointer (some ⟨p.c, 0, none⟩), .map (some p.m2)][j]?) ∧ (∀ j, w'.cell? ⟨ga, j, none⟩ = #[Value.int .i64 1][j]?) ∧ (∀ j, w'.cell? ⟨Y0.heap.size, j, none⟩ = #[Value.int .i64 0, .int .i64 1][j]?) ∧ (∀ j, w'.cell? ⟨g, j, none⟩ = #[Value.int .i64 (-1), .int .i64 (-1), .int .i64 12, .int .i64 19][j]?)) (by kernel_rfl) (by kernel_rfl) (by rintro ⟨_, _, h⟩; exact h) ?_
      have hSb : Hid (∀ W', Below Y1.heap.size Y1 W' → (fun w' : World => (∀ j, w'.cell? ⟨gt, j, none⟩ = #[Value.slice (some ⟨g, 0, none⟩) 4 4][j]?) ∧ (∀ j, w'.cell? ⟨gp, j, none⟩ = #[Value.pointer (some ⟨p.c, 0, none⟩), .map (some p.m2)][j]?) ∧ (∀ j, w'.cell? ⟨ga, j, none⟩ = #[Value.int .i64 1][j]?) ∧ (∀ j, w'.cell? ⟨Y0.heap.size, j, none⟩ = #[Value.int .i64 0, .int .i64 1][j]?) ∧ (∀ j, w'.cell? ⟨g, j, none⟩ = #[Value.int .i64 (-1), .int .i64 (-1), .int .i64 12, .int .i64 19][j]?)) W') := by
        show ∀ _, _
        intro W' hbb
        exact ⟨(kt.below hbb).cell, (kp.below hbb).cell, (ka.below hbb).cell, (kx.below hbb).cell, (kg.below hbb).cell⟩
      have hb9 : Below Y1.heap.size Y1 Y1.drew := (Below.refl _ _).drew
      have hS := hSb.out _ hb9
      generalize Y1.drew = wd at *
      refine hTk 0 35 ?_
      refine hTk 1 36 ?_
      refine hTk 2 37 ?_
      refine hTk 3 38 ?_
      refine hOne 4 fun K hK => ?_
      go_simp
      refine (placeB_any p _ (hSo.inv.below hb9)).mono ?_
      rintro e Y4 ⟨rfl, hbel⟩
      replace hb9 := hb9.trans (hbel.mono hb9.size)
      clear hbel
      refine hK _ _ (hSb.out _ hb9) ?_
      clear hK K
      try simp only [Act.put, sA, sZ, sS]
      clear hS
      have hS := hSb.out _ hb9
      refine hTk 5 40 ?_
      refine hTk 6 41 ?_
      refine hTk 7 9 ?_
      replace ke := ke.below hb9
      replace kp := kp.below hb9
      replace ka := ka.below hb9
      replace kt := kt.below hb9
      replace kg := kg.below hb9
      replace kx := kx.below hb9
      replace nb := nb.trans ((belowH_of hb9).mono nb.size)
      have hn : NC X.heap.size Y1 Y4 := nc_of_below hb9
      replace hSo := hSo.below hb9
      refine wpAnyH_done (by kernel_rfl) ?_ _
      clear hS hSb
      obtain ⟨ce, fe, le⟩ := ke.rules
      gi_wp2_with fail
      exact ⟨hn, ⟨nb, ke, kp, ka, kt, kg⟩, hSo⟩
  case done =>
    rintro D W7 hD hN hS3 hDf
    replace hN : BesI p w (w.heap.size + 1) gp ga gt g 12 W7 := hN
    obtain ⟨ce, fe, le⟩ := hN.ke.rules
    go_upto_region 16 with fail
    clear ce fe le
    obtain ⟨nb, ke, kp, ka, kt, kg⟩ := hN
    have hI := hS3.inv
    clear kt kg hS3
    have hDl : D < W7.heap.size := (Array.getElem?_eq_some_iff.1 hDf).1
    have hb := ((Below.refl W7.heap.size W7).alloc (Nat.le_refl _) (.cells #[.slice none 0 0] 156)).alloc (by simp) (.cells #[.nilFunc] 226)
    have kf := (Blk.new W7 156 #[.slice none 0 0]).alloc (.cells #[.nilFunc] 226)
    have kn : Blk ((W7.alloc (.cells #[.slice none 0 0] 156)).alloc (.cells #[.nilFunc] 226)) (W7.heap.size + 1) 226 #[.nilFunc] := Blk.newAt (by simp)
    have hkel := ke.lt
    have hkpl := kp.lt
    have hkal := ka.lt
    replace ke := ke.below hb
    replace kp := kp.below hb
    replace ka := ka.below hb
    have hI8 := hI.below hb
    replace nb := nb.trans ((belowH_of hb).mono nb.size)
    replace hDf := (hb.block D hDl).trans hDf
    clear hb
    generalize (W7.alloc (.cells #[.slice none 0 0] 156)).alloc (.cells #[.nilFunc] 226) = W8 at *
    obtain ⟨cn, fn, ln⟩ := kn.rules
    go_upto_region 17 with fail
    clear cn fn ln
    have hw7 : w.heap.size ≤ W7.heap.size := by omega
    replace kn := kn.set_ 0 (.func (.func 115) #[] #[.pointer (some ⟨W7.heap.size, 0, none⟩), .pointer (some ⟨w.heap.size + 1, 0, none⟩), .pointer (some ⟨gp, 0, none⟩), .pointer (some ⟨W7.heap.size + 1, 0, none⟩)])
    simp only [sA, sZ] at kn
    replace ke := ke.far (p := ⟨W7.heap.size + 1, 0, none⟩) (by dsimp only; omega) (.func (.func 115) #[] #[.pointer (some ⟨W7.heap.size, 0, none⟩), .pointer (some ⟨w.heap.size + 1, 0, none⟩), .pointer (some ⟨gp, 0, none⟩), .pointer (some ⟨W7.heap.size + 1, 0, none⟩)])
    replace kp := kp.far (p := ⟨W7.heap.size + 1, 0, none⟩) (by dsimp only; omega) (.func (.func 115) #[] #[.pointer (some ⟨W7.heap.size, 0, none⟩), .pointer (some ⟨w.heap.size + 1, 0, none⟩), .pointer (some ⟨gp, 0, none⟩), .pointer (some ⟨W7.heap.size + 1, 0, none⟩)])
    replace ka := ka.far (p := ⟨W7.heap.size + 1, 0, none⟩) (by dsimp only; omega) (.func (.func 115) #[] #[.pointer (some ⟨W7.heap.size, 0, none⟩), .pointer (some ⟨w.heap.size + 1, 0, none⟩), .pointer (some ⟨gp, 0, none⟩), .pointer (some ⟨W7.heap.size + 1, 0, none⟩)])
    replace kf := kf.far (p := ⟨W7.heap.size + 1, 0, none⟩) (by dsimp only; omega) (.func (.func 115) #[] #[.pointer (some ⟨W7.heap.size, 0, none⟩), .pointer (some ⟨w.heap.size + 1, 0, none⟩), .pointer (some ⟨gp, 0, none⟩), .pointer (some ⟨W7.heap.size + 1, 0, none⟩)])
    replace hI8 := hI8.set_ hI (g := W7.heap.size + 1) (o := 0) (by omega) (.func (.func 115) #[] #[.pointer (some ⟨W7.heap.size, 0, none⟩), .pointer (some ⟨w.heap.size + 1, 0, none⟩), .pointer (some ⟨gp, 0, none⟩), .pointer (some ⟨W7.heap.size + 1, 0, none⟩)])
    replace nb := nb.trans (belowH_of ((Below.refl w.heap.size W8).setCell (p := ⟨W7.heap.size + 1, 0, none⟩) (by dsimp only; omega) (.func (.func 115) #[] #[.pointer (some ⟨W7.heap.size, 0, none⟩), .pointer (some ⟨w.heap.size + 1, 0, none⟩), .pointer (some ⟨gp, 0, none⟩), .pointer (some ⟨W7.heap.size + 1, 0, none⟩)])))
    replace hDf := (Below.heap_setCell W8 ⟨W7.heap.size + 1, 0, none⟩ (.func (.func 115) #[] #[.pointer (some ⟨W7.heap.size, 0, none⟩), .pointer (some ⟨w.heap.size + 1, 0, none⟩), .pointer (some ⟨gp, 0, none⟩), .pointer (some ⟨W7.heap.size + 1, 0, none⟩)]) D (by dsimp only; omega)).trans hDf
    generalize W8.setCell ⟨W7.heap.size + 1, 0, none⟩ (.func (.func 115) #[] #[.pointer (some ⟨W7.heap.size, 0, none⟩), .pointer (some ⟨w.heap.size + 1, 0, none⟩), .pointer (some ⟨gp, 0, none⟩), .pointer (some ⟨W7.heap.size + 1, 0, none⟩)]) = W9 at *
    skip
    refine hOpn (fun w' : World => (∀ j, w'.cell? ⟨W7.heap.size + 1, j, none⟩ = #[Value.func (.func 115) #[] #[.pointer (some ⟨W7.heap.size, 0, none⟩), .pointer (some ⟨w.heap.size + 1, 0, none⟩), .pointer (some ⟨gp, 0, none⟩), .pointer (some ⟨W7.heap.size + 1, 0, none⟩)]][j]?) ∧ (∀ j, w'.cell? ⟨gp, j, none⟩ = #[Value.pointer (some ⟨p.c, 0, none⟩), .map (some p.m2)][j]?) ∧ (∀ j, w'.cell? ⟨ga, j, none⟩ = #[Value.int .i64 1][j]?)) (fun W' hbb => ⟨(kn.below hbb).cell, (kp.below hbb).cell, (ka.below hbb).cell⟩) fun hSb hb9 hS hg9 => ?_
    generalize W9.drew = wd at *
    have hDd : D < W9.heap.size := by have := kn.lt; omega
    replace ke := ke.below hb9
    replace kp := kp.below hb9
    replace ka := ka.below hb9
    replace kf := kf.below hb9
    replace kn := kn.below hb9
    replace hI8 := hI8.below hb9
    replace nb := nb.trans ((belowH_of hb9).mono nb.size)
    replace hDf := (hb9.block D hDd).trans hDf
    replace hDd := Nat.lt_of_lt_of_le hDd hb9.size
    refine hTk 0 57 ?_
    refine hTk 1 58 ?_
    refine hTk 3 60 ?_
    refine hOne 2 fun K hK => ?_
    go_simp
    refine (start_any p _ hI8).mono ?_
    rintro e W10 ⟨rfl, hbel⟩
    replace hb9 := hb9.trans (hbel.mono hb9.size)
    replace ke := ke.below hbel
    replace kp := kp.below hbel
    replace ka := ka.below hbel
    replace kf := kf.below hbel
    replace kn := kn.below hbel
    replace hI8 := hI8.below hbel
    replace nb := nb.trans ((belowH_of hbel).mono nb.size)
    replace hDf := (hbel.block D hDd).trans hDf
    replace hDd := Nat.lt_of_lt_of_le hDd hbel.size
    clear hbel
    refine hK _ _ (hSb.out _ hb9) ?_
    clear hK K
    try simp only [Act.put, sA, sZ, sS]
    clear hS
    have hS := hSb.out _ hb9
    refine hOne 4 fun K hK => ?_
    go_simp
    refine (nb1_any p W7.heap.size (w.heap.size + 1) gp (W7.heap.size + 1) _ hI8 kf ke kp kn (by omega) (by omega) (by omega)).mono ?_
    rintro e W11 ⟨rfl, ⟨B, n, c, kf2⟩, ke2, hb2⟩
    have hnf : ¬ H2 p W7.heap.size D := by
      rintro (hh | hh)
      · have := hJX.lt _ hh; omega
      · omega
    replace nb := (nb.weak fun _ => .inl).trans (hb2.mono nb.size)
    replace hDf := (hb2.block D hDd hnf).trans hDf
    have hnn : ∀ k, w.heap.size ≤ k ∧ k ≠ W7.heap.size ∧ ¬ HM p k → ¬ H2 p W7.heap.size k := by
      rintro k ⟨h1, h2, h3⟩ (hh | hh)
      · exact h3 hh
      · exact h2 hh
    replace kn := hb2.blk kn kn.lt (by rintro (hh | hh); exact hI8.off kn hh; omega)
    replace kp := hb2.blk kp kp.lt (by rintro (hh | hh); exact hI8.off kp hh; omega)
    replace ka := hb2.blk ka ka.lt (by rintro (hh | hh); exact hI8.off ka hh; omega)
    have hDd2 := Nat.lt_of_lt_of_le hDd hb2.size
    refine hK _ _ ⟨kn.cell, kp.cell, ka.cell⟩ ?_
    clear hK K hS hSb hb9 hb2 hnf
    try simp only [Act.put, sA, sZ, sS]
    refine wpAnyH_done (by kernel_rfl) (noPanic_normal ?_) _
    go_wp2_with fail
    refine hOpn (fun w' : World => (∀ j, w'.cell? ⟨W7.heap.size, j, none⟩ = #[Value.slice B n c][j]?) ∧ (∀ j, w'.cell? ⟨w.heap.size + 1, j, none⟩ = #[Value.int .i64 12][j]?)) (fun W' hbb => ⟨(kf2.below hbb).cell, (ke2.below hbb).cell⟩) fun hSb hb9 hS hg9 => ?_
    generalize W11.drew = we at *
    replace ke2 := ke2.below hb9
    replace kf2 := kf2.below hb9
    replace nb := nb.trans ((belowH_of hb9).mono nb.size)
    replace hDf := (hb9.block D hDd2).trans hDf
    refine hTk 0 62 ?_
    refine hTk 1 63 ?_
    refine hTk 2 2 ?_
    have kz := ke2.set_ 0 (.int .i64 12)
    simp only [sA, sZ, sS] at kz
    obtain ⟨ct, ft, lt⟩ := ke2.rules
    refine hOne 3 fun K hK => ?_
    go_simp
    have hS2 : (fun w' : World => (∀ j, w'.cell? ⟨W7.heap.size, j, none⟩ = #[Value.slice B n c][j]?) ∧ (∀ j, w'.cell? ⟨w.heap.size + 1, j, none⟩ = #[Value.int .i64 12][j]?)) (we.setCell ⟨w.heap.size + 1, 0, none⟩ (.int .i64 12)) := ⟨(kf2.far (by dsimp only; omega) _).cell, kz.cell⟩
    refine hK _ _ hS2 ?_
    clear hK K hS ct ft lt
    have hS := hS2
    clear hS2
    try simp only [Act.put, sA, sZ, sS]
    refine hTk 4 4 ?_
    replace nb := nb.trans (belowH_of ((Below.refl w.heap.size we).setCell (p := ⟨w.heap.size + 1, 0, none⟩) (by dsimp only; omega) (.int .i64 12)))
    replace hDf := (Below.heap_setCell we ⟨w.heap.size + 1, 0, none⟩ (.int .i64 12) D (by dsimp only; omega)).trans hDf
    generalize we.setCell ⟨w.heap.size + 1, 0, none⟩ (.int .i64 12) = wf at *
    refine wpAnyH_done (by kernel_rfl) (noPanic_normal ?_) _
    clear hS hSb
    go_wp2_with fail
    have hcp := calm_put (B := w.heap.size) (.deferred none) hDf rfl (by omega)
    obtain ⟨c1, f1, l1⟩ := (calm_blk hcp kz).rules
    have hfin := (nb.trans (belowH_of hcp.1)).off (by rintro k (hh | hh); exact hoff k hh; omega)
    exact ⟨by simp, .inl ⟨_, _, rfl, run_takeDeferred hDf, .tuple #[.slice B n c, .int .i64 12, .int .i64 0], by simp [results, Tryz.results62, go_sem, c1], B, n, c, rfl, hfin⟩⟩
end Go.Proofs.YtcmbmmpihiekhaaGreat
