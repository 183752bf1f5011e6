/-
  Courses, walks: the best passage at the example.
-/
import Derived.Test.YtcmbmmpihiekhaaGreatC12
set_option maxRecDepth 100000
set_option maxHeartbeats 16000000
set_option linter.unusedSimpArgs false
set_option linter.unusedVariables false
namespace Go.Proofs.YtcmbmmpihiekhaaGreat
open Go.RowKit Go.Shelf
attribute [local go_sem] Oper.semAt_some

def DefB (W : World) (D : Nat) : Prop := W.heap[D]? = some (.deferred (some []))
theorem DefB.far {W : World} {D : Nat} (h : DefB W D) {p : Addr} (hp : D ≠ p.block) (v : Value) : DefB (W.setCell p v) D := (Below.heap_setCell W p v D hp).trans h
theorem DefB.drew {W : World} {D : Nat} (h : DefB W D) : DefB W.drew D := h
theorem PasL.set_ {p : Pl} {g3 g4 g5 : Nat} {bx ob : Int} {w0 w : World} (h : PasL p g3 g4 g5 bx ob w) (h0 : PasL p g3 g4 g5 bx ob w0) {g o : Nat} (hg : w0.heap.size ≤ g) (v : Value) : PasL p g3 g4 g5 bx ob (w.setCell ⟨g, o, none⟩ v) :=
  ⟨h.inv.set_ h0.inv hg v, h.k3.far (by have := h0.k3.lt; dsimp only; omega) v, h.k4.far (by have := h0.k4.lt; dsimp only; omega) v, h.k5.far (by have := h0.k5.lt; dsimp only; omega) v⟩
theorem eg_pas : Enters Tryz.prog 173 := enters_of Tryz.func173 (by kernel_rfl) rfl
/-- The best one so far. -/
def BstI (p : Pl) (v : Int) (w : World) (k : Nat) (A : World) : Prop :=
  BelowH (HM p) w.heap.size w A ∧ ((k = 0 ∧ Blk A (w.heap.size + 1) 270 #[.slice none 0 0, .int .i64 0] ∧ Blk A (w.heap.size + 1 + 1) 4 #[.bool false]) ∨ (k = 1 ∧ ∃ B n c, Blk A (w.heap.size + 1) 270 #[.slice B n c, .int .i64 v] ∧ Blk A (w.heap.size + 1 + 1) 4 #[.bool true]))
theorem BstI.calm {p : Pl} {v : Int} {w A B : World} {k B0 : Nat} (h : BstI p v w k A) (hc : CalmH (HM p) B0 A B) (hB : w.heap.size ≤ B0) (hH : ∀ k, HM p k → k < w.heap.size) : BstI p v w k B := by
  have n1 : ¬ HM p (w.heap.size + 1) := fun h => by have := hH _ h; omega
  have n2 : ¬ HM p (w.heap.size + 1 + 1) := fun h => by have := hH _ h; omega
  refine ⟨h.1.trans (hc.1.mono hB), ?_⟩
  rcases h.2 with ⟨e, h1, h2⟩ | ⟨e, b, n, c, h1, h2⟩
  · exact .inl ⟨e, calmH_blk hc h1 n1, calmH_blk hc h2 n2⟩
  · exact .inr ⟨e, b, n, c, calmH_blk hc h1 n1, calmH_blk hc h2 n2⟩
theorem InvC.via {p : Pl} {w0 w w' : World} (h0 : InvC p w0) (h : InvC p w) (hb : Below w0.heap.size w w') : InvC p w' := by
  obtain ⟨f1, h1⟩ := h.kn
  obtain ⟨f2, h2⟩ := h.co
  have q : ∀ {k : Nat}, k < w0.heap.size → w'.heap[k]? = w.heap[k]? := fun {k} hk => hb.block k hk
  exact ⟨(q h0.kc.lt).trans h.kc, (q h0.kL.lt).trans h.kL, (q h0.kO.lt).trans h.kO, (q h0.kB.lt).trans h.kB, ⟨f1, h1.block (q (h0.lt _ (.inl rfl)))⟩, ⟨f2, h2.block (q (h0.lt _ (.inr rfl)))⟩, h.ne⟩
theorem firstA_any (p : Pl) (g3 g4 g5 : Nat) (w : World) (hL : PasL p g3 g4 g5 0 0 w) :
    Calls Tryz.prog 161 #[.func (.func 173) #[] #[.pointer (some ⟨g3, 0, none⟩), .pointer (some ⟨g4, 0, none⟩), .pointer (some ⟨g5, 0, none⟩)], .func (.func 163) #[] #[]] w fun e w' => ∃ B n c, e = .returned (.tuple #[.agg #[.slice B n c, .int .i64 0], .bool true]) ∧ InvC p w' ∧ BelowH (HM p) w.heap.size w w' := by
  have hst := @hstT Tryz.prog
  have hlt := hL.inv.lt
  refine (callsIn_wide (n := 9)).1 ?_
  refine callsIn_of_wp_marks Tryz.func161 rfl trivial ?_ rfl
  simp only [Tryz.ntmps161, List.size_toArray, List.length_cons, List.length_nil, Nat.reduceAdd, Nat.reduceSub, Array.replicate_succ, Array.replicate_zero, List.push_toArray, List.append_toArray, List.nil_append, List.cons_append]
  refine wpIn_wide.2 ?_
  go_wp2_with fail
  obtain ⟨W0, hW0⟩ : ∃ W0, W0 = ((w.alloc (.cells #[.func (.func 163) #[] #[]] 291)).alloc (.cells #[.slice none 0 0, .int .i64 0] 270)).alloc (.cells #[.bool false] 4) := ⟨_, rfl⟩
  rw [← hW0]
  have b0 : Below w.heap.size w W0 := by rw [hW0]; exact (((Below.refl _ _).alloc (Nat.le_refl _) _).alloc (by simp) _).alloc (by simp; omega) _
  have hI0 : BstI p 0 w 0 W0 := by rw [hW0] at b0 ⊢; exact ⟨belowH_of b0, .inl ⟨rfl, (Blk.newAt (by simp)).alloc _, Blk.newAt (by simp)⟩⟩
  have hL0 := hL.below b0
  have hsz : W0.heap.size = w.heap.size + 3 := by rw [hW0]; simp
  have hsz1 := Nat.le_of_eq hsz
  have hsz2 := Nat.le_of_eq hsz.symm
  clear hW0 hsz
  refine (wpIn_wide (n := 9)).1 ?_
  refine wp_rangeH rfl (by decide) (gf := 173) (lb := #[.pointer (some ⟨g3, 0, none⟩), .pointer (some ⟨g4, 0, none⟩), .pointer (some ⟨g5, 0, none⟩)]) rfl trivial eg_pas (pasA_iter _ p g3 g4 g5) (fun k vs W ⟨_, _, _, e⟩ => by rw [e]; rfl)
    (BstI p 0 w) (fun _ _ => False) (fun k A B h hc => h.calm hc (by omega) hlt) (fun _ _ _ h _ => h) (fun A B h hc => h.calm hL0.inv hc) hL0.inv.lt hI0 hL0 ?round ?done ?stop
  case stop => exact fun _ _ _ _ h _ _ => h.elim
  case round =>
    rintro l k vs W hW hk ⟨hb, hst2⟩ hLi ⟨B, n, c, rfl⟩
    rcases hst2 with ⟨rfl, k4, k5⟩ | ⟨rfl, -⟩
    rotate_left 1
    · exact absurd hk (by decide)
    gi_wp2_with fail
    refine ⟨(Below.refl _ _).alloc (Nat.le_refl _) _, fun W2 hc => ?_⟩
    have hc3 : Calm W0.heap.size W W2 := (calm_of_below ((Below.refl _ _).alloc (Nat.le_refl _) _) hW).trans hc
    have k6 : Blk W2 W.heap.size 270 #[.slice B n c, .int .i64 0] := calm_blk hc (Blk.new _ _ _)
    replace k4 := calm_blk hc3 k4
    replace k5 := calm_blk hc3 k5
    replace hLi := hLi.calm hL0.inv hc3
    replace hb := hb.trans (belowH_of (hc3.1.mono (by omega)))
    have hn : NC W0.heap.size W2 _ := ((nc_setCell W2 ⟨w.heap.size + 1, 0, none⟩ (.slice B n c) (by dsimp only; omega)).trans (nc_setCell _ ⟨w.heap.size + 1, 1, none⟩ (.int .i64 0) (by dsimp only; omega))).trans (nc_setCell _ ⟨w.heap.size + 1 + 1, 0, none⟩ (.bool true) (by dsimp only; omega))
    have k4z := (((k4.set_ 0 (.slice B n c)).set_ 1 (.int .i64 0))).far (p := ⟨w.heap.size + 1 + 1, 0, none⟩) (by dsimp only; omega) (.bool true)
    have k5z := (((k5.far (p := ⟨w.heap.size + 1, 0, none⟩) (by dsimp only; omega) (.slice B n c)).far (p := ⟨w.heap.size + 1, 1, none⟩) (by dsimp only; omega) (.int .i64 0)).set_ 0 (.bool true))
    simp only [sA, sZ, sS] at k4z k5z
    have hbz := hb.trans (belowH_of ((((Below.refl w.heap.size W2).setCell (p := ⟨w.heap.size + 1, 0, none⟩) (by dsimp only; omega) (.slice B n c)).setCell (p := ⟨w.heap.size + 1, 1, none⟩) (by dsimp only; omega) (.int .i64 0)).setCell (p := ⟨w.heap.size + 1 + 1, 0, none⟩) (by dsimp only; omega) (.bool true)))
    have hLz := ((hLi.set_ hL (g := w.heap.size + 1) (o := 0) (by omega) (.slice B n c)).set_ hL (g := w.heap.size + 1) (o := 1) (by omega) (.int .i64 0)).set_ hL (g := w.heap.size + 1 + 1) (o := 0) (by omega) (.bool true)
    obtain ⟨c4, f4, l4⟩ := k4.rules
    obtain ⟨c5, f5, l5⟩ := k5.rules
    obtain ⟨c6, f6, l6⟩ := k6.rules
    clear hc hc3 hI0 hL0 b0
    gi_wp2_with fail
    refine ⟨fun _ _ => trivial, ?_⟩
    gi_wp2_with fail
    exact ⟨hn, ⟨hbz, .inr ⟨rfl, _, _, _, k4z, k5z⟩⟩, hLz⟩
  case done =>
    rintro D W hD ⟨hb, hst2⟩ hLw hK
    rcases hst2 with ⟨h1, -⟩ | ⟨-, B, n, c, k4, k5⟩
    · exact absurd h1 (by decide)
    have hDf : DefB W D := hK
    clear hK
    go_wp2_with fail
    have hz := Below.refl w.heap.size W
    have hWs : w.heap.size ≤ W.heap.size := by have := k4.lt; omega
    refine wp_held_np (fun w' : World => (∀ j, w'.cell? ⟨w.heap.size + 1, j, none⟩ = #[Value.slice B n c, .int .i64 0][j]?) ∧ (∀ j, w'.cell? ⟨w.heap.size + 1 + 1, j, none⟩ = #[Value.bool true][j]?)) (by kernel_rfl) ?_
    have hS : (fun w' : World => (∀ j, w'.cell? ⟨w.heap.size + 1, j, none⟩ = #[Value.slice B n c, .int .i64 0][j]?) ∧ (∀ j, w'.cell? ⟨w.heap.size + 1 + 1, j, none⟩ = #[Value.bool true][j]?)) W.drew := ⟨k4.cell, k5.cell⟩
    replace k4 := k4.drew
    replace k5 := k5.drew
    replace hDf := hDf.drew
    replace hz := hz.drew
    generalize hWd : W.drew = wd at *
    refine hTk 0 18 ?_
    refine hTk 1 19 ?_
    clear hS hWd
    have kz := ((k4.set_ 0 (.slice B n c)).set_ 1 (.int .i64 0))
    simp only [sA, sZ, sS] at kz
    have bz := ((hz.setCell (p := ⟨w.heap.size + 1, 0, none⟩) (by dsimp only; omega) (.slice B n c)).setCell (p := ⟨w.heap.size + 1, 1, none⟩) (by dsimp only; omega) (.int .i64 0))
    have k5z := ((k5.far (p := ⟨w.heap.size + 1, 0, none⟩) (by dsimp only; omega) (.slice B n c)).far (p := ⟨w.heap.size + 1, 1, none⟩) (by dsimp only; omega) (.int .i64 0))
    have hDfz := ((hDf.far (p := ⟨w.heap.size + 1, 0, none⟩) (by dsimp only; omega) (.slice B n c)).far (p := ⟨w.heap.size + 1, 1, none⟩) (by dsimp only; omega) (.int .i64 0))
    obtain ⟨w7, hwz⟩ : ∃ x, x = ((wd.setCell ⟨w.heap.size + 1, 0, none⟩ (.slice B n c)).setCell ⟨w.heap.size + 1, 1, none⟩ (.int .i64 0)) := ⟨_, rfl⟩
    rw [← hwz] at kz bz k5z hDfz
    obtain ⟨c9, f9, l9⟩ := k4.rules
    refine hOne 2 fun K hK => ?_
    go_simp
    rw [← hwz]
    clear hwz c9 f9 l9 hz k4
    have hz := bz
    have k4 := kz
    clear bz kz
    replace k5 := k5z
    clear k5z
    replace hDf := hDfz
    clear hDfz
    refine hK _ _ (⟨k4.cell, k5.cell⟩) ?_
    clear hK K
    try simp only [Act.put, sA, sZ, sS]
    have kz := (k5.set_ 0 (.bool true))
    simp only [sA, sZ, sS] at kz
    have bz := (hz.setCell (p := ⟨w.heap.size + 1 + 1, 0, none⟩) (by dsimp only; omega) (.bool true))
    have k4z := (k4.far (p := ⟨w.heap.size + 1 + 1, 0, none⟩) (by dsimp only; omega) (.bool true))
    have hDfz := (hDf.far (p := ⟨w.heap.size + 1 + 1, 0, none⟩) (by dsimp only; omega) (.bool true))
    obtain ⟨w8, hwz⟩ : ∃ x, x = (w7.setCell ⟨w.heap.size + 1 + 1, 0, none⟩ (.bool true)) := ⟨_, rfl⟩
    rw [← hwz] at kz bz k4z hDfz
    obtain ⟨c9, f9, l9⟩ := k5.rules
    refine hOne 3 fun K hK => ?_
    go_simp
    rw [← hwz]
    clear hwz c9 f9 l9 hz k5
    have hz := bz
    have k5 := kz
    clear bz kz
    replace k4 := k4z
    clear k4z
    replace hDf := hDfz
    clear hDfz
    refine hK _ _ (⟨k4.cell, k5.cell⟩) ?_
    clear hK K
    try simp only [Act.put, sA, sZ, sS]
    refine wpAnyH_done (by kernel_rfl) (noPanic_normal ?_) _
    go_wp2_with fail
    refine ⟨by simp, .inl ⟨_, _, rfl, run_takeDeferred hDf, ?_⟩⟩
    have hcp := calm_put (B := w.heap.size) (.deferred none) hDf rfl (by omega)
    have k4e := calm_blk hcp k4
    have k5e := calm_blk hcp k5
    have hzz : Below w.heap.size W _ := calm_below hcp hz (Nat.le_refl _)
    have hIe : InvC p (w8.putObj D (.deferred none)) := InvC.via hL.inv hLw.inv hzz
    obtain ⟨c4, f4, l4⟩ := k4e.rules
    obtain ⟨c5, f5, l5⟩ := k5e.rules
    exact ⟨.tuple #[.agg #[.slice B n c, .int .i64 0], .bool true], by simp [results, Tryz.results161, go_sem, c4, c5], _, _, _, rfl, hIe, hb.trans (belowH_of hzz)⟩
theorem firstC_any (p : Pl) (g3 g4 g5 : Nat) (w : World) (hL : PasL p g3 g4 g5 10 3 w) :
    Calls Tryz.prog 161 #[.func (.func 173) #[] #[.pointer (some ⟨g3, 0, none⟩), .pointer (some ⟨g4, 0, none⟩), .pointer (some ⟨g5, 0, none⟩)], .func (.func 163) #[] #[]] w fun e w' => ∃ B n c, e = .returned (.tuple #[.agg #[.slice B n c, .int .i64 14], .bool true]) ∧ InvC p w' ∧ BelowH (HM p) w.heap.size w w' := by
  have hst := @hstT Tryz.prog
  have hlt := hL.inv.lt
  refine (callsIn_wide (n := 9)).1 ?_
  refine callsIn_of_wp_marks Tryz.func161 rfl trivial ?_ rfl
  simp only [Tryz.ntmps161, List.size_toArray, List.length_cons, List.length_nil, Nat.reduceAdd, Nat.reduceSub, Array.replicate_succ, Array.replicate_zero, List.push_toArray, List.append_toArray, List.nil_append, List.cons_append]
  refine wpIn_wide.2 ?_
  go_wp2_with fail
  obtain ⟨W0, hW0⟩ : ∃ W0, W0 = ((w.alloc (.cells #[.func (.func 163) #[] #[]] 291)).alloc (.cells #[.slice none 0 0, .int .i64 0] 270)).alloc (.cells #[.bool false] 4) := ⟨_, rfl⟩
  rw [← hW0]
  have b0 : Below w.heap.size w W0 := by rw [hW0]; exact (((Below.refl _ _).alloc (Nat.le_refl _) _).alloc (by simp) _).alloc (by simp; omega) _
  have hI0 : BstI p 14 w 0 W0 := by rw [hW0] at b0 ⊢; exact ⟨belowH_of b0, .inl ⟨rfl, (Blk.newAt (by simp)).alloc _, Blk.newAt (by simp)⟩⟩
  have hL0 := hL.below b0
  have hsz : W0.heap.size = w.heap.size + 3 := by rw [hW0]; simp
  have hsz1 := Nat.le_of_eq hsz
  have hsz2 := Nat.le_of_eq hsz.symm
  clear hW0 hsz
  refine (wpIn_wide (n := 9)).1 ?_
  refine wp_rangeH rfl (by decide) (gf := 173) (lb := #[.pointer (some ⟨g3, 0, none⟩), .pointer (some ⟨g4, 0, none⟩), .pointer (some ⟨g5, 0, none⟩)]) rfl trivial eg_pas (pasC_iter _ p g3 g4 g5) (fun k vs W ⟨_, _, _, e⟩ => by rw [e]; rfl)
    (BstI p 14 w) (fun _ _ => False) (fun k A B h hc => h.calm hc (by omega) hlt) (fun _ _ _ h _ => h) (fun A B h hc => h.calm hL0.inv hc) hL0.inv.lt hI0 hL0 ?round ?done ?stop
  case stop => exact fun _ _ _ _ h _ _ => h.elim
  case round =>
    rintro l k vs W hW hk ⟨hb, hst2⟩ hLi ⟨B, n, c, rfl⟩
    rcases hst2 with ⟨rfl, k4, k5⟩ | ⟨rfl, -⟩
    rotate_left 1
    · exact absurd hk (by decide)
    gi_wp2_with fail
    refine ⟨(Below.refl _ _).alloc (Nat.le_refl _) _, fun W2 hc => ?_⟩
    have hc3 : Calm W0.heap.size W W2 := (calm_of_below ((Below.refl _ _).alloc (Nat.le_refl _) _) hW).trans hc
    have k6 : Blk W2 W.heap.size 270 #[.slice B n c, .int .i64 14] := calm_blk hc (Blk.new _ _ _)
    replace k4 := calm_blk hc3 k4
    replace k5 := calm_blk hc3 k5
    replace hLi := hLi.calm hL0.inv hc3
    replace hb := hb.trans (belowH_of (hc3.1.mono (by omega)))
    have hn : NC W0.heap.size W2 _ := ((nc_setCell W2 ⟨w.heap.size + 1, 0, none⟩ (.slice B n c) (by dsimp only; omega)).trans (nc_setCell _ ⟨w.heap.size + 1, 1, none⟩ (.int .i64 14) (by dsimp only; omega))).trans (nc_setCell _ ⟨w.heap.size + 1 + 1, 0, none⟩ (.bool true) (by dsimp only; omega))
    have k4z := (((k4.set_ 0 (.slice B n c)).set_ 1 (.int .i64 14))).far (p := ⟨w.heap.size + 1 + 1, 0, none⟩) (by dsimp only; omega) (.bool true)
    have k5z := (((k5.far (p := ⟨w.heap.size + 1, 0, none⟩) (by dsimp only; omega) (.slice B n c)).far (p := ⟨w.heap.size + 1, 1, none⟩) (by dsimp only; omega) (.int .i64 14)).set_ 0 (.bool true))
    simp only [sA, sZ, sS] at k4z k5z
    have hbz := hb.trans (belowH_of ((((Below.refl w.heap.size W2).setCell (p := ⟨w.heap.size + 1, 0, none⟩) (by dsimp only; omega) (.slice B n c)).setCell (p := ⟨w.heap.size + 1, 1, none⟩) (by dsimp only; omega) (.int .i64 14)).setCell (p := ⟨w.heap.size + 1 + 1, 0, none⟩) (by dsimp only; omega) (.bool true)))
    have hLz := ((hLi.set_ hL (g := w.heap.size + 1) (o := 0) (by omega) (.slice B n c)).set_ hL (g := w.heap.size + 1) (o := 1) (by omega) (.int .i64 14)).set_ hL (g := w.heap.size + 1 + 1) (o := 0) (by omega) (.bool true)
    obtain ⟨c4, f4, l4⟩ := k4.rules
    obtain ⟨c5, f5, l5⟩ := k5.rules
    obtain ⟨c6, f6, l6⟩ := k6.rules
    clear hc hc3 hI0 hL0 b0
    gi_wp2_with fail
    refine ⟨fun _ _ => trivial, ?_⟩
    gi_wp2_with fail
    exact ⟨hn, ⟨hbz, .inr ⟨rfl, _, _, _, k4z, k5z⟩⟩, hLz⟩
  case done =>
    rintro D W hD ⟨hb, hst2⟩ hLw hK
    rcases hst2 with ⟨h1, -⟩ | ⟨-, B, n, c, k4, k5⟩
    · exact absurd h1 (by decide)
    have hDf : DefB W D := hK
    clear hK
    go_wp2_with fail
    have hz := Below.refl w.heap.size W
    have hWs : w.heap.size ≤ W.heap.size := by have := k4.lt; omega
    refine wp_held_np (fun w' : World => (∀ j, w'.cell? ⟨w.heap.size + 1, j, none⟩ = #[Value.slice B n c, .int .i64 14][j]?) ∧ (∀ j, w'.cell? ⟨w.heap.size + 1 + 1, j, none⟩ = #[Value.bool true][j]?)) (by kernel_rfl) ?_
    have hS : (fun w' : World => (∀ j, w'.cell? ⟨w.heap.size + 1, j, none⟩ = #[Value.slice B n c, .int .i64 14][j]?) ∧ (∀ j, w'.cell? ⟨w.heap.size + 1 + 1, j, none⟩ = #[Value.bool true][j]?)) W.drew := ⟨k4.cell, k5.cell⟩
    replace k4 := k4.drew
    replace k5 := k5.drew
    replace hDf := hDf.drew
    replace hz := hz.drew
    generalize hWd : W.drew = wd at *
    refine hTk 0 18 ?_
    refine hTk 1 19 ?_
    clear hS hWd
    have kz := ((k4.set_ 0 (.slice B n c)).set_ 1 (.int .i64 14))
    simp only [sA, sZ, sS] at kz
    have bz := ((hz.setCell (p := ⟨w.heap.size + 1, 0, none⟩) (by dsimp only; omega) (.slice B n c)).setCell (p := ⟨w.heap.size + 1, 1, none⟩) (by dsimp only; omega) (.int .i64 14))
    have k5z := ((k5.far (p := ⟨w.heap.size + 1, 0, none⟩) (by dsimp only; omega) (.slice B n c)).far (p := ⟨w.heap.size + 1, 1, none⟩) (by dsimp only; omega) (.int .i64 14))
    have hDfz := ((hDf.far (p := ⟨w.heap.size + 1, 0, none⟩) (by dsimp only; omega) (.slice B n c)).far (p := ⟨w.heap.size + 1, 1, none⟩) (by dsimp only; omega) (.int .i64 14))
    obtain ⟨w7, hwz⟩ : ∃ x, x = ((wd.setCell ⟨w.heap.size + 1, 0, none⟩ (.slice B n c)).setCell ⟨w.heap.size + 1, 1, none⟩ (.int .i64 14)) := ⟨_, rfl⟩
    rw [← hwz] at kz bz k5z hDfz
    obtain ⟨c9, f9, l9⟩ := k4.rules
    refine hOne 2 fun K hK => ?_
    go_simp
    rw [← hwz]
    clear hwz c9 f9 l9 hz k4
    have hz := bz
    have k4 := kz
    clear bz kz
    replace k5 := k5z
    clear k5z
    replace hDf := hDfz
    clear hDfz
    refine hK _ _ (⟨k4.cell, k5.cell⟩) ?_
    clear hK K
    try simp only [Act.put, sA, sZ, sS]
    have kz := (k5.set_ 0 (.bool true))
    simp only [sA, sZ, sS] at kz
    have bz := (hz.setCell (p := ⟨w.heap.size + 1 + 1, 0, none⟩) (by dsimp only; omega) (.bool true))
    have k4z := (k4.far (p := ⟨w.heap.size + 1 + 1, 0, none⟩) (by dsimp only; omega) (.bool true))
    have hDfz := (hDf.far (p := ⟨w.heap.size + 1 + 1, 0, none⟩) (by dsimp only; omega) (.bool true))
    obtain ⟨w8, hwz⟩ : ∃ x, x = (w7.setCell ⟨w.heap.size + 1 + 1, 0, none⟩ (.bool true)) := ⟨_, rfl⟩
    rw [← hwz] at kz bz k4z hDfz
    obtain ⟨c9, f9, l9⟩ := k5.rules
    refine hOne 3 fun K hK => ?_
    go_simp
    rw [← hwz]
    clear hwz c9 f9 l9 hz k5
    have hz := bz
    have k5 := kz
    clear bz kz
    replace k4 := k4z
    clear k4z
    replace hDf := hDfz
    clear hDfz
    refine hK _ _ (⟨k4.cell, k5.cell⟩) ?_
    clear hK K
    try simp only [Act.put, sA, sZ, sS]
    refine wpAnyH_done (by kernel_rfl) (noPanic_normal ?_) _
    go_wp2_with fail
    refine ⟨by simp, .inl ⟨_, _, rfl, run_takeDeferred hDf, ?_⟩⟩
    have hcp := calm_put (B := w.heap.size) (.deferred none) hDf rfl (by omega)
    have k4e := calm_blk hcp k4
    have k5e := calm_blk hcp k5
    have hzz : Below w.heap.size W _ := calm_below hcp hz (Nat.le_refl _)
    have hIe : InvC p (w8.putObj D (.deferred none)) := InvC.via hL.inv hLw.inv hzz
    obtain ⟨c4, f4, l4⟩ := k4e.rules
    obtain ⟨c5, f5, l5⟩ := k5e.rules
    exact ⟨.tuple #[.agg #[.slice B n c, .int .i64 14], .bool true], by simp [results, Tryz.results161, go_sem, c4, c5], _, _, _, rfl, hIe, hb.trans (belowH_of hzz)⟩
end Go.Proofs.YtcmbmmpihiekhaaGreat
