/-
  Courses, walks: whether a way is clear; when a line is shot; what passages cost: at the example.
-/
import Derived.Test.YtcmbmmpihiekhaaGreatTA
import Derived.Test.YtcmbmmpihiekhaaGreatC6
import Derived.Deep.Cut
import Derived.Laws.EntriesVeiled
set_option maxRecDepth 100000
set_option maxHeartbeats 16000000
set_option linter.unusedSimpArgs false
set_option linter.unusedVariables false
namespace Go.Proofs.YtcmbmmpihiekhaaGreat
open Go.RowKit Go.Shelf

theorem InvC.grown {p : Pl} {w w' : World} (h : InvC p w) {m : Nat} (hm : HM p m) (hg : w.grownBy w' (some m)) (h1 : ∃ f, AtKn w' p.m1 f) (h2 : ∃ f, AtCo w' p.m2 f) : InvC p w' := by
  have ne : ∀ {g : Nat} {t : TypeId} {cs : Array Value}, Blk w g t cs → some g ≠ some m := fun k e => h.off k (by rw [Option.some.inj e]; exact hm)
  exact ⟨h.kc.grown hg (ne h.kc), h.kL.grown hg (ne h.kL), h.kO.grown hg (ne h.kO), h.kB.grown hg (ne h.kB), h1, h2, h.ne⟩
theorem InvC.putKn {p : Pl} {w w' : World} {f : Bool → Bool} (h : InvC p w) (hg : w.grownBy w' (some p.m1)) (h1 : AtKn w' p.m1 f) : InvC p w' := by
  obtain ⟨f2, h2⟩ := h.co
  exact h.grown (.inl rfl) hg ⟨_, h1⟩ ⟨f2, h2.block (hg.block _ h2.lt (fun e => h.ne (Option.some.inj e).symm))⟩
theorem InvC.putCo {p : Pl} {w w' : World} {f : Bool → Bool} (h : InvC p w) (hg : w.grownBy w' (some p.m2)) (h1 : AtCo w' p.m2 f) : InvC p w' := by
  obtain ⟨f2, h2⟩ := h.kn
  exact h.grown (.inr rfl) hg ⟨f2, h2.block (hg.block _ h2.lt (fun e => h.ne (Option.some.inj e)))⟩ ⟨_, h1⟩
theorem clearA_any (p : Pl) (w : World) (hI : InvC p w) :
    Calls Tryz.prog 164 #[.pointer (some ⟨p.c, 0, none⟩), .agg #[.int .i64 0, .int .i64 0, .int .i64 10, .int .i64 0]] w fun e w' => e = .returned (.bool true) ∧ InvC p w' ∧ BelowH (HM p) w.heap.size w w' := by
  have b := (Below.refl w.heap.size w).alloc (Nat.le_refl _) (.cells #[.int .i64 0, .int .i64 0, .int .i64 10, .int .i64 0] 285)
  have kx := Blk.new w 285 #[.int .i64 0, .int .i64 0, .int .i64 10, .int .i64 0]
  have hJ := hI.below b
  go_enter Tryz.func164, Tryz.ntmps164
  go_upto_region 1 with fail
  generalize w.alloc (.cells #[.int .i64 0, .int .i64 0, .int .i64 10, .int .i64 0] 285) = W at *
  obtain ⟨f, hkn⟩ := hJ.kn
  refine hOpn (fun w' : World => (∀ j, w'.cell? ⟨p.c, j, none⟩ = #[.slice (some ⟨p.bL, 0, none⟩) 1 1, .slice none 0 0, .slice none 0 0, .int .i64 0, .int .i64 0, .int .i64 0, .int .i64 0, .int .i64 0, .int .i64 0, .int .i64 0, .int .i64 0, .int .i64 0, .int .i64 0, .int .i64 0, .int .i64 2, .int .i64 3, .slice (some ⟨p.bO, 0, none⟩) 1 1, .map (some p.m1)][j]?) ∧ (∀ j, w'.cell? ⟨w.heap.size, j, none⟩ = #[Value.int .i64 0, .int .i64 0, .int .i64 10, .int .i64 0][j]?) ∧ (Instr.lookup 217 (.map (some p.m1)) (.agg #[.int .i64 0, .int .i64 0, .int .i64 10, .int .i64 0]) true).run Tryz.prog w' = .ok (.tuple #[.bool (f false), .bool (f false)]) w') (fun W' hbb => ⟨(hJ.kc.below hbb).cell, (kx.below hbb).cell, (hkn.block (hbb.block _ hkn.lt)).look false⟩) fun hSb hb9 hS hg9 => ?_
  generalize W.drew = wd at *
  refine hTk 0 10 ?_
  refine hTk 1 11 ?_
  refine hTk 2 12 ?_
  refine hTk 3 13 ?_
  refine hTk 4 14 ?_
  refine hTk 5 15 ?_
  refine hTk 6 9 ?_
  refine hTk 7 16 ?_
  refine hTk 8 17 ?_
  refine hTk 9 5 ?_
  refine hTk 10 6 ?_
  refine wpAnyH_done (by kernel_rfl) (noPanic_normal ?_) _
  clear hS hSb
  replace hkn := hkn.block (hb9.block _ hkn.lt)
  replace kx := kx.below hb9
  replace hJ := hJ.below hb9
  replace b := b.trans (hb9.mono b.size)
  clear hb9 hg9
  cases hf : f false with
  | true =>
    go_wp2
    go_ret
    exact ⟨rfl, hJ, belowH_of b⟩
  | false =>
    go_wp2_with fail
    refine hOpn (fun w' : World => (∀ j, w'.cell? ⟨p.c, j, none⟩ = #[.slice (some ⟨p.bL, 0, none⟩) 1 1, .slice none 0 0, .slice none 0 0, .int .i64 0, .int .i64 0, .int .i64 0, .int .i64 0, .int .i64 0, .int .i64 0, .int .i64 0, .int .i64 0, .int .i64 0, .int .i64 0, .int .i64 0, .int .i64 2, .int .i64 3, .slice (some ⟨p.bO, 0, none⟩) 1 1, .map (some p.m1)][j]?) ∧ (∀ j, w'.cell? ⟨w.heap.size, j, none⟩ = #[Value.int .i64 0, .int .i64 0, .int .i64 10, .int .i64 0][j]?)) (fun W' hbb => ⟨(hJ.kc.below hbb).cell, (kx.below hbb).cell⟩) fun hSb hb9 hS hg9 => ?_
    generalize wd.drew = we at *
    refine hTk 0 21 ?_
    refine hTk 1 22 ?_
    refine hTk 2 23 ?_
    refine hTk 3 24 ?_
    refine hTk 4 25 ?_
    refine hTk 5 26 ?_
    refine hTk 6 27 ?_
    refine hTk 7 28 ?_
    refine hTk 8 29 ?_
    clear hS
    refine wpAnyH_fin (f := fun a (q : Nat) => ((((((a.put (some 30) (.tuple #[.agg #[.int .i64 0, .int .i64 10, .int .i64 0, .int .i64 0, .int .i64 0, .int .i64 10, .int .i64 0, .int .i64 10], .int .i64 0])).put (some 20) (.tuple #[.agg #[.int .i64 0, .int .i64 10, .int .i64 0, .int .i64 0, .int .i64 0, .int .i64 10, .int .i64 0, .int .i64 10], .int .i64 0])).put (some 31) (.agg #[.int .i64 0, .int .i64 10, .int .i64 0, .int .i64 0, .int .i64 0, .int .i64 10, .int .i64 0, .int .i64 10])).put (some 32) (.int .i64 0)).put (some 7) (.pointer (some ⟨q, 0, none⟩))).put (some 8) (.int .i64 0))) (B := fun q W' => Blk W' q 68 #[Value.int .i64 0, .int .i64 10, .int .i64 0, .int .i64 0, .int .i64 0, .int .i64 10, .int .i64 0, .int .i64 10] ∧ wd.heap.size ≤ q ∧ Below wd.heap.size wd W') ?_ (fun hrest => ?_)
    rotate_left 1
    · try simp only [Act.put, sA, sZ, sS] at hrest
      refine held_two (i := 9) (j := 13) (by kernel_rfl) rfl rfl rfl rfl (fun K hK => ?_) (fun K hK => ?_)
      · skip
        go_simp
        refine (sweptA_any _).mono ?_
        rintro e X1 ⟨rfl, hbel⟩
        try replace k7 := k7.below hbel
        replace hb9 := hb9.trans (hbel.mono hb9.size)
        refine hK _ _ (hSb.out _ hb9) ?_
        clear hK K hbel
        try simp only [Act.put, sA, sZ, sS]
        have hS := hSb.out _ hb9
        refine hTk 10 20 ?_
        refine hTk 11 31 ?_
        refine hTk 12 32 ?_
        clear hS
        refine hOne 13 fun K hK => ?_
        go_simp
        have k7 := Blk.new X1 68 #[Value.int .i64 0, .int .i64 0, .int .i64 0, .int .i64 0, .int .i64 0, .int .i64 0, .int .i64 0, .int .i64 0]
        have g7w := hb9.size
        have hbel : Below X1.heap.size X1 (X1.alloc (.cells #[Value.int .i64 0, .int .i64 0, .int .i64 0, .int .i64 0, .int .i64 0, .int .i64 0, .int .i64 0, .int .i64 0] 68)) := (Below.refl _ _).alloc (Nat.le_refl _) _
        generalize X1.alloc (.cells #[Value.int .i64 0, .int .i64 0, .int .i64 0, .int .i64 0, .int .i64 0, .int .i64 0, .int .i64 0, .int .i64 0] 68) = X2 at *
        generalize X1.heap.size = g7 at k7 g7w ⊢
        replace hb9 := hb9.trans (hbel.mono hb9.size)
        refine hK _ _ (hSb.out _ hb9) ?_
        clear hK K hbel
        try simp only [Act.put, sA, sZ, sS]
        refine hOne 14 fun K hK => ?_
        have kz := k7.set8 (.int .i64 0) (.int .i64 10) (.int .i64 0) (.int .i64 0) (.int .i64 0) (.int .i64 10) (.int .i64 0) (.int .i64 10)
        have bz := below_set8 (g := g7) hb9 g7w (.int .i64 0) (.int .i64 10) (.int .i64 0) (.int .i64 0) (.int .i64 0) (.int .i64 10) (.int .i64 0) (.int .i64 10)
        obtain ⟨X3, hwz⟩ : ∃ x, x = set8 X2 g7 (.int .i64 0) (.int .i64 10) (.int .i64 0) (.int .i64 0) (.int .i64 0) (.int .i64 10) (.int .i64 0) (.int .i64 10) := ⟨_, rfl⟩
        rw [← hwz] at kz bz
        simp only [set8] at hwz
        obtain ⟨c9, f9, l9⟩ := k7.rules
        go_simp
        rw [← hwz]
        clear hwz c9 f9 l9
        refine hK _ _ (hSb.out _ bz) ?_
        clear hK K
        try simp only [Act.put, sA, sZ, sS]
        have hS := hSb.out _ bz
        refine hTk 15 8 ?_
        refine wpAnyH_done (by kernel_rfl) (hrest g7 _ ⟨kz, g7w, bz⟩) _
      · skip
        go_simp
        have k7 := Blk.new we 68 #[Value.int .i64 0, .int .i64 0, .int .i64 0, .int .i64 0, .int .i64 0, .int .i64 0, .int .i64 0, .int .i64 0]
        have g7w := hb9.size
        have hbel : Below we.heap.size we (we.alloc (.cells #[Value.int .i64 0, .int .i64 0, .int .i64 0, .int .i64 0, .int .i64 0, .int .i64 0, .int .i64 0, .int .i64 0] 68)) := (Below.refl _ _).alloc (Nat.le_refl _) _
        generalize we.alloc (.cells #[Value.int .i64 0, .int .i64 0, .int .i64 0, .int .i64 0, .int .i64 0, .int .i64 0, .int .i64 0, .int .i64 0] 68) = X4 at *
        generalize we.heap.size = g7 at k7 g7w ⊢
        replace hb9 := hb9.trans (hbel.mono hb9.size)
        refine hK _ _ (hSb.out _ hb9) ?_
        clear hK K hbel
        try simp only [Act.put, sA, sZ, sS]
        refine hOne 9 fun K hK => ?_
        go_simp
        refine (sweptA_any _).mono ?_
        rintro e X5 ⟨rfl, hbel⟩
        try replace k7 := k7.below hbel
        replace hb9 := hb9.trans (hbel.mono hb9.size)
        refine hK _ _ (hSb.out _ hb9) ?_
        clear hK K hbel
        try simp only [Act.put, sA, sZ, sS]
        have hS := hSb.out _ hb9
        refine hTk 10 20 ?_
        refine hTk 11 31 ?_
        refine hTk 12 32 ?_
        clear hS
        refine hOne 14 fun K hK => ?_
        have kz := k7.set8 (.int .i64 0) (.int .i64 10) (.int .i64 0) (.int .i64 0) (.int .i64 0) (.int .i64 10) (.int .i64 0) (.int .i64 10)
        have bz := below_set8 (g := g7) hb9 g7w (.int .i64 0) (.int .i64 10) (.int .i64 0) (.int .i64 0) (.int .i64 0) (.int .i64 10) (.int .i64 0) (.int .i64 10)
        obtain ⟨X6, hwz⟩ : ∃ x, x = set8 X5 g7 (.int .i64 0) (.int .i64 10) (.int .i64 0) (.int .i64 0) (.int .i64 0) (.int .i64 10) (.int .i64 0) (.int .i64 10) := ⟨_, rfl⟩
        rw [← hwz] at kz bz
        simp only [set8] at hwz
        obtain ⟨c9, f9, l9⟩ := k7.rules
        go_simp
        rw [← hwz]
        clear hwz c9 f9 l9
        refine hK _ _ (hSb.out _ bz) ?_
        clear hK K
        try simp only [Act.put, sA, sZ, sS]
        have hS := hSb.out _ bz
        refine hTk 15 8 ?_
        refine wpAnyH_done (by kernel_rfl) (hrest g7 _ ⟨kz, g7w, bz⟩) _
    · rintro g7 X9 ⟨k7, hg7, hb9⟩
      try simp only [Act.put, sA, sZ, sS]
      refine noPanic_normal ?_
      clear hSb hg9
      replace hkn := hkn.block (hb9.block _ hkn.lt)
      replace kx := kx.below hb9
      replace hJ := hJ.below hb9
      replace b := b.trans (hb9.mono b.size)
      clear hb9
      have hmf := @hmfT Tryz.prog
      obtain ⟨cc, fc, lc⟩ := hJ.kc.rules
      go_wp2_with fail
      refine (noneA_any _ _).mono ?_
      rintro e w' ⟨rfl, rfl⟩
      clear cc fc lc
      go_upto_region 5 with fail
      refine hOpn (fun w' : World => (∀ j, w'.cell? ⟨p.c, j, none⟩ = #[.slice (some ⟨p.bL, 0, none⟩) 1 1, .slice none 0 0, .slice none 0 0, .int .i64 0, .int .i64 0, .int .i64 0, .int .i64 0, .int .i64 0, .int .i64 0, .int .i64 0, .int .i64 0, .int .i64 0, .int .i64 0, .int .i64 0, .int .i64 2, .int .i64 3, .slice (some ⟨p.bO, 0, none⟩) 1 1, .map (some p.m1)][j]?) ∧ (∀ j, w'.cell? ⟨w.heap.size, j, none⟩ = #[Value.int .i64 0, .int .i64 0, .int .i64 10, .int .i64 0][j]?)) (fun W' hbb => ⟨(hJ.kc.below hbb).cell, (kx.below hbb).cell⟩) fun hSb hb9 hS hg9 => ?_
      generalize X9.drew = wf at *
      refine hTk 0 45 ?_
      refine hTk 1 46 ?_
      refine hTk 2 47 ?_
      refine hTk 3 48 ?_
      refine hTk 4 49 ?_
      refine hTk 5 50 ?_
      clear hS hSb hg9
      replace hkn := hkn.block (hb9.block _ hkn.lt)
      replace kx := kx.below hb9
      replace hJ := hJ.below hb9
      replace b := b.trans (hb9.mono b.size)
      clear hb9
      obtain ⟨wg, hrun, hkn2, hgr⟩ := hkn.store false
      have hJ2 := hJ.putKn hgr hkn2
      have bg := (belowH_of (H := HM p) b).trans ((BelowH.grown (H := HM p) hgr (.inl rfl) (Nat.le_refl _)).mono b.size)
      have hS2 : (fun w' : World => (∀ j, w'.cell? ⟨p.c, j, none⟩ = #[.slice (some ⟨p.bL, 0, none⟩) 1 1, .slice none 0 0, .slice none 0 0, .int .i64 0, .int .i64 0, .int .i64 0, .int .i64 0, .int .i64 0, .int .i64 0, .int .i64 0, .int .i64 0, .int .i64 0, .int .i64 0, .int .i64 0, .int .i64 2, .int .i64 3, .slice (some ⟨p.bO, 0, none⟩) 1 1, .map (some p.m1)][j]?) ∧ (∀ j, w'.cell? ⟨w.heap.size, j, none⟩ = #[Value.int .i64 0, .int .i64 0, .int .i64 10, .int .i64 0][j]?)) wg := ⟨hJ2.kc.cell, (kx.grown hgr (fun e => hJ.off kx (by rw [Option.some.inj e]; exact .inl rfl))).cell⟩
      simp only [kvKn] at hrun
      refine hOne 6 fun K hK => ?_
      go_simp
      refine hK _ _ hS2 ?_
      clear hK K hrun
      try simp only [Act.put, sA, sZ, sS]
      refine wpAnyH_done (by kernel_rfl) (noPanic_normal ?_) _
      clear hS2
      go_wp2
      go_ret
      exact ⟨rfl, hJ2, bg⟩
theorem clearB_any (p : Pl) (w : World) (hI : InvC p w) :
    Calls Tryz.prog 164 #[.pointer (some ⟨p.c, 0, none⟩), .agg #[.int .i64 10, .int .i64 0, .int .i64 0, .int .i64 0]] w fun e w' => e = .returned (.bool true) ∧ InvC p w' ∧ BelowH (HM p) w.heap.size w w' := by
  have b := (Below.refl w.heap.size w).alloc (Nat.le_refl _) (.cells #[.int .i64 10, .int .i64 0, .int .i64 0, .int .i64 0] 285)
  have kx := Blk.new w 285 #[.int .i64 10, .int .i64 0, .int .i64 0, .int .i64 0]
  have hJ := hI.below b
  go_enter Tryz.func164, Tryz.ntmps164
  go_upto_region 1 with fail
  generalize w.alloc (.cells #[.int .i64 10, .int .i64 0, .int .i64 0, .int .i64 0] 285) = W at *
  obtain ⟨f, hkn⟩ := hJ.kn
  refine hOpn (fun w' : World => (∀ j, w'.cell? ⟨p.c, j, none⟩ = #[.slice (some ⟨p.bL, 0, none⟩) 1 1, .slice none 0 0, .slice none 0 0, .int .i64 0, .int .i64 0, .int .i64 0, .int .i64 0, .int .i64 0, .int .i64 0, .int .i64 0, .int .i64 0, .int .i64 0, .int .i64 0, .int .i64 0, .int .i64 2, .int .i64 3, .slice (some ⟨p.bO, 0, none⟩) 1 1, .map (some p.m1)][j]?) ∧ (∀ j, w'.cell? ⟨w.heap.size, j, none⟩ = #[Value.int .i64 10, .int .i64 0, .int .i64 0, .int .i64 0][j]?) ∧ (Instr.lookup 217 (.map (some p.m1)) (.agg #[.int .i64 10, .int .i64 0, .int .i64 0, .int .i64 0]) true).run Tryz.prog w' = .ok (.tuple #[.bool (f true), .bool (f true)]) w') (fun W' hbb => ⟨(hJ.kc.below hbb).cell, (kx.below hbb).cell, (hkn.block (hbb.block _ hkn.lt)).look true⟩) fun hSb hb9 hS hg9 => ?_
  generalize W.drew = wd at *
  refine hTk 0 10 ?_
  refine hTk 1 11 ?_
  refine hTk 2 12 ?_
  refine hTk 3 13 ?_
  refine hTk 4 14 ?_
  refine hTk 5 15 ?_
  refine hTk 6 9 ?_
  refine hTk 7 16 ?_
  refine hTk 8 17 ?_
  refine hTk 9 5 ?_
  refine hTk 10 6 ?_
  refine wpAnyH_done (by kernel_rfl) (noPanic_normal ?_) _
  clear hS hSb
  replace hkn := hkn.block (hb9.block _ hkn.lt)
  replace kx := kx.below hb9
  replace hJ := hJ.below hb9
  replace b := b.trans (hb9.mono b.size)
  clear hb9 hg9
  cases hf : f true with
  | true =>
    go_wp2
    go_ret
    exact ⟨rfl, hJ, belowH_of b⟩
  | false =>
    go_wp2_with fail
    refine hOpn (fun w' : World => (∀ j, w'.cell? ⟨p.c, j, none⟩ = #[.slice (some ⟨p.bL, 0, none⟩) 1 1, .slice none 0 0, .slice none 0 0, .int .i64 0, .int .i64 0, .int .i64 0, .int .i64 0, .int .i64 0, .int .i64 0, .int .i64 0, .int .i64 0, .int .i64 0, .int .i64 0, .int .i64 0, .int .i64 2, .int .i64 3, .slice (some ⟨p.bO, 0, none⟩) 1 1, .map (some p.m1)][j]?) ∧ (∀ j, w'.cell? ⟨w.heap.size, j, none⟩ = #[Value.int .i64 10, .int .i64 0, .int .i64 0, .int .i64 0][j]?)) (fun W' hbb => ⟨(hJ.kc.below hbb).cell, (kx.below hbb).cell⟩) fun hSb hb9 hS hg9 => ?_
    generalize wd.drew = we at *
    refine hTk 0 21 ?_
    refine hTk 1 22 ?_
    refine hTk 2 23 ?_
    refine hTk 3 24 ?_
    refine hTk 4 25 ?_
    refine hTk 5 26 ?_
    refine hTk 6 27 ?_
    refine hTk 7 28 ?_
    refine hTk 8 29 ?_
    clear hS
    refine wpAnyH_fin (f := fun a (q : Nat) => ((((((a.put (some 30) (.tuple #[.agg #[.int .i64 0, .int .i64 10, .int .i64 0, .int .i64 0, .int .i64 0, .int .i64 10, .int .i64 0, .int .i64 10], .int .i64 0])).put (some 20) (.tuple #[.agg #[.int .i64 0, .int .i64 10, .int .i64 0, .int .i64 0, .int .i64 0, .int .i64 10, .int .i64 0, .int .i64 10], .int .i64 0])).put (some 31) (.agg #[.int .i64 0, .int .i64 10, .int .i64 0, .int .i64 0, .int .i64 0, .int .i64 10, .int .i64 0, .int .i64 10])).put (some 32) (.int .i64 0)).put (some 7) (.pointer (some ⟨q, 0, none⟩))).put (some 8) (.int .i64 0))) (B := fun q W' => Blk W' q 68 #[Value.int .i64 0, .int .i64 10, .int .i64 0, .int .i64 0, .int .i64 0, .int .i64 10, .int .i64 0, .int .i64 10] ∧ wd.heap.size ≤ q ∧ Below wd.heap.size wd W') ?_ (fun hrest => ?_)
    rotate_left 1
    · try simp only [Act.put, sA, sZ, sS] at hrest
      refine held_two (i := 9) (j := 13) (by kernel_rfl) rfl rfl rfl rfl (fun K hK => ?_) (fun K hK => ?_)
      · skip
        go_simp
        refine (sweptB_any _).mono ?_
        rintro e X7 ⟨rfl, hbel⟩
        try replace k7 := k7.below hbel
        replace hb9 := hb9.trans (hbel.mono hb9.size)
        refine hK _ _ (hSb.out _ hb9) ?_
        clear hK K hbel
        try simp only [Act.put, sA, sZ, sS]
        have hS := hSb.out _ hb9
        refine hTk 10 20 ?_
        refine hTk 11 31 ?_
        refine hTk 12 32 ?_
        clear hS
        refine hOne 13 fun K hK => ?_
        go_simp
        have k7 := Blk.new X7 68 #[Value.int .i64 0, .int .i64 0, .int .i64 0, .int .i64 0, .int .i64 0, .int .i64 0, .int .i64 0, .int .i64 0]
        have g7w := hb9.size
        have hbel : Below X7.heap.size X7 (X7.alloc (.cells #[Value.int .i64 0, .int .i64 0, .int .i64 0, .int .i64 0, .int .i64 0, .int .i64 0, .int .i64 0, .int .i64 0] 68)) := (Below.refl _ _).alloc (Nat.le_refl _) _
        generalize X7.alloc (.cells #[Value.int .i64 0, .int .i64 0, .int .i64 0, .int .i64 0, .int .i64 0, .int .i64 0, .int .i64 0, .int .i64 0] 68) = X8 at *
        generalize X7.heap.size = g7 at k7 g7w ⊢
        replace hb9 := hb9.trans (hbel.mono hb9.size)
        refine hK _ _ (hSb.out _ hb9) ?_
        clear hK K hbel
        try simp only [Act.put, sA, sZ, sS]
        refine hOne 14 fun K hK => ?_
        have kz := k7.set8 (.int .i64 0) (.int .i64 10) (.int .i64 0) (.int .i64 0) (.int .i64 0) (.int .i64 10) (.int .i64 0) (.int .i64 10)
        have bz := below_set8 (g := g7) hb9 g7w (.int .i64 0) (.int .i64 10) (.int .i64 0) (.int .i64 0) (.int .i64 0) (.int .i64 10) (.int .i64 0) (.int .i64 10)
        obtain ⟨X9, hwz⟩ : ∃ x, x = set8 X8 g7 (.int .i64 0) (.int .i64 10) (.int .i64 0) (.int .i64 0) (.int .i64 0) (.int .i64 10) (.int .i64 0) (.int .i64 10) := ⟨_, rfl⟩
        rw [← hwz] at kz bz
        simp only [set8] at hwz
        obtain ⟨c9, f9, l9⟩ := k7.rules
        go_simp
        rw [← hwz]
        clear hwz c9 f9 l9
        refine hK _ _ (hSb.out _ bz) ?_
        clear hK K
        try simp only [Act.put, sA, sZ, sS]
        have hS := hSb.out _ bz
        refine hTk 15 8 ?_
        refine wpAnyH_done (by kernel_rfl) (hrest g7 _ ⟨kz, g7w, bz⟩) _
      · skip
        go_simp
        have k7 := Blk.new we 68 #[Value.int .i64 0, .int .i64 0, .int .i64 0, .int .i64 0, .int .i64 0, .int .i64 0, .int .i64 0, .int .i64 0]
        have g7w := hb9.size
        have hbel : Below we.heap.size we (we.alloc (.cells #[Value.int .i64 0, .int .i64 0, .int .i64 0, .int .i64 0, .int .i64 0, .int .i64 0, .int .i64 0, .int .i64 0] 68)) := (Below.refl _ _).alloc (Nat.le_refl _) _
        generalize we.alloc (.cells #[Value.int .i64 0, .int .i64 0, .int .i64 0, .int .i64 0, .int .i64 0, .int .i64 0, .int .i64 0, .int .i64 0] 68) = X10 at *
        generalize we.heap.size = g7 at k7 g7w ⊢
        replace hb9 := hb9.trans (hbel.mono hb9.size)
        refine hK _ _ (hSb.out _ hb9) ?_
        clear hK K hbel
        try simp only [Act.put, sA, sZ, sS]
        refine hOne 9 fun K hK => ?_
        go_simp
        refine (sweptB_any _).mono ?_
        rintro e X11 ⟨rfl, hbel⟩
        try replace k7 := k7.below hbel
        replace hb9 := hb9.trans (hbel.mono hb9.size)
        refine hK _ _ (hSb.out _ hb9) ?_
        clear hK K hbel
        try simp only [Act.put, sA, sZ, sS]
        have hS := hSb.out _ hb9
        refine hTk 10 20 ?_
        refine hTk 11 31 ?_
        refine hTk 12 32 ?_
        clear hS
        refine hOne 14 fun K hK => ?_
        have kz := k7.set8 (.int .i64 0) (.int .i64 10) (.int .i64 0) (.int .i64 0) (.int .i64 0) (.int .i64 10) (.int .i64 0) (.int .i64 10)
        have bz := below_set8 (g := g7) hb9 g7w (.int .i64 0) (.int .i64 10) (.int .i64 0) (.int .i64 0) (.int .i64 0) (.int .i64 10) (.int .i64 0) (.int .i64 10)
        obtain ⟨X12, hwz⟩ : ∃ x, x = set8 X11 g7 (.int .i64 0) (.int .i64 10) (.int .i64 0) (.int .i64 0) (.int .i64 0) (.int .i64 10) (.int .i64 0) (.int .i64 10) := ⟨_, rfl⟩
        rw [← hwz] at kz bz
        simp only [set8] at hwz
        obtain ⟨c9, f9, l9⟩ := k7.rules
        go_simp
        rw [← hwz]
        clear hwz c9 f9 l9
        refine hK _ _ (hSb.out _ bz) ?_
        clear hK K
        try simp only [Act.put, sA, sZ, sS]
        have hS := hSb.out _ bz
        refine hTk 15 8 ?_
        refine wpAnyH_done (by kernel_rfl) (hrest g7 _ ⟨kz, g7w, bz⟩) _
    · rintro g7 X9 ⟨k7, hg7, hb9⟩
      try simp only [Act.put, sA, sZ, sS]
      refine noPanic_normal ?_
      clear hSb hg9
      replace hkn := hkn.block (hb9.block _ hkn.lt)
      replace kx := kx.below hb9
      replace hJ := hJ.below hb9
      replace b := b.trans (hb9.mono b.size)
      clear hb9
      have hmf := @hmfT Tryz.prog
      obtain ⟨cc, fc, lc⟩ := hJ.kc.rules
      go_wp2_with fail
      refine (noneA_any _ _).mono ?_
      rintro e w' ⟨rfl, rfl⟩
      clear cc fc lc
      go_upto_region 5 with fail
      refine hOpn (fun w' : World => (∀ j, w'.cell? ⟨p.c, j, none⟩ = #[.slice (some ⟨p.bL, 0, none⟩) 1 1, .slice none 0 0, .slice none 0 0, .int .i64 0, .int .i64 0, .int .i64 0, .int .i64 0, .int .i64 0, .int .i64 0, .int .i64 0, .int .i64 0, .int .i64 0, .int .i64 0, .int .i64 0, .int .i64 2, .int .i64 3, .slice (some ⟨p.bO, 0, none⟩) 1 1, .map (some p.m1)][j]?) ∧ (∀ j, w'.cell? ⟨w.heap.size, j, none⟩ = #[Value.int .i64 10, .int .i64 0, .int .i64 0, .int .i64 0][j]?)) (fun W' hbb => ⟨(hJ.kc.below hbb).cell, (kx.below hbb).cell⟩) fun hSb hb9 hS hg9 => ?_
      generalize X9.drew = wf at *
      refine hTk 0 45 ?_
      refine hTk 1 46 ?_
      refine hTk 2 47 ?_
      refine hTk 3 48 ?_
      refine hTk 4 49 ?_
      refine hTk 5 50 ?_
      clear hS hSb hg9
      replace hkn := hkn.block (hb9.block _ hkn.lt)
      replace kx := kx.below hb9
      replace hJ := hJ.below hb9
      replace b := b.trans (hb9.mono b.size)
      clear hb9
      obtain ⟨wg, hrun, hkn2, hgr⟩ := hkn.store true
      have hJ2 := hJ.putKn hgr hkn2
      have bg := (belowH_of (H := HM p) b).trans ((BelowH.grown (H := HM p) hgr (.inl rfl) (Nat.le_refl _)).mono b.size)
      have hS2 : (fun w' : World => (∀ j, w'.cell? ⟨p.c, j, none⟩ = #[.slice (some ⟨p.bL, 0, none⟩) 1 1, .slice none 0 0, .slice none 0 0, .int .i64 0, .int .i64 0, .int .i64 0, .int .i64 0, .int .i64 0, .int .i64 0, .int .i64 0, .int .i64 0, .int .i64 0, .int .i64 0, .int .i64 0, .int .i64 2, .int .i64 3, .slice (some ⟨p.bO, 0, none⟩) 1 1, .map (some p.m1)][j]?) ∧ (∀ j, w'.cell? ⟨w.heap.size, j, none⟩ = #[Value.int .i64 10, .int .i64 0, .int .i64 0, .int .i64 0][j]?)) wg := ⟨hJ2.kc.cell, (kx.grown hgr (fun e => hJ.off kx (by rw [Option.some.inj e]; exact .inl rfl))).cell⟩
      simp only [kvKn] at hrun
      refine hOne 6 fun K hK => ?_
      go_simp
      refine hK _ _ hS2 ?_
      clear hK K hrun
      try simp only [Act.put, sA, sZ, sS]
      refine wpAnyH_done (by kernel_rfl) (noPanic_normal ?_) _
      clear hS2
      go_wp2
      go_ret
      exact ⟨rfl, hJ2, bg⟩
end Go.Proofs.YtcmbmmpihiekhaaGreat
