/-
  Courses, walks: passages at the example: the iterator; the best one.
-/
import Derived.Test.YtcmbmmpihiekhaaGreatC11
import Derived.Sort.CutIn
set_option maxRecDepth 100000
set_option maxHeartbeats 16000000
set_option linter.unusedSimpArgs false
set_option linter.unusedVariables false
namespace Go.Proofs.YtcmbmmpihiekhaaGreat
open Go.RowKit Go.Shelf
attribute [local go_sem] Oper.semAt_some

theorem YieldAt.conv {a b l : Nat} {P : Program} {vs : Array Value} {W : World} {R R' : Ending → World → Prop} (h : YieldAt Fence.wide a P l vs W R) (hr : ∀ e W', R e W' → R' e W') : YieldAt Fence.wide b P l vs W R' := by
  obtain ⟨fn, tmps, assign, body, hy, hR⟩ := h
  exact ⟨fn, tmps, assign, body, hy, (RoundIn.anyn hR).mono hr⟩
/-- What the passages lean on. -/
structure PasL (p : Pl) (g3 g4 g5 : Nat) (bx ob : Int) (w : World) : Prop where
  inv : InvC p w
  k3 : Blk w g3 211 #[.pointer (some ⟨p.c, 0, none⟩)]
  k4 : Blk w g4 227 #[.int .i64 0, .int .i64 0, .int .i64 0]
  k5 : Blk w g5 227 #[.int .i64 bx, .int .i64 0, .int .i64 ob]
variable {p : Pl} {g3 g4 g5 : Nat} {bx ob : Int}
theorem PasL.next {w w' : World} (h : PasL p g3 g4 g5 bx ob w) (hI : InvC p w') (hb : BelowH (HM p) w.heap.size w w') : PasL p g3 g4 g5 bx ob w' :=
  ⟨hI, hb.blk h.k3 h.k3.lt (h.inv.off h.k3), hb.blk h.k4 h.k4.lt (h.inv.off h.k4), hb.blk h.k5 h.k5.lt (h.inv.off h.k5)⟩
theorem PasL.below {w w' : World} (h : PasL p g3 g4 g5 bx ob w) (hb : Below w.heap.size w w') : PasL p g3 g4 g5 bx ob w' := ⟨h.inv.below hb, h.k3.below hb, h.k4.below hb, h.k5.below hb⟩
theorem PasL.calm {w0 w w' : World} (h : PasL p g3 g4 g5 bx ob w) (h0 : InvC p w0) (hb : Calm w0.heap.size w w') : PasL p g3 g4 g5 bx ob w' := ⟨h.inv.calm h0 hb, calm_blk hb h.k3, calm_blk hb h.k4, calm_blk hb h.k5⟩
def PasG (v : Int) (k : Nat) (vs : Array Value) (_ : World) : Prop := ∃ B n c, vs = #[.agg #[.slice B n c, .int .i64 v]]
theorem pasA_iter (m : Nat) (p : Pl) (g3 g4 g5 : Nat) :
    IterH Fence.wide m Tryz.prog (HM p) 173 #[.pointer (some ⟨g3, 0, none⟩), .pointer (some ⟨g4, 0, none⟩), .pointer (some ⟨g5, 0, none⟩)] 1 (PasG 0) (PasL p g3 g4 g5 0 0) := by
  intro l J Jx W hJ hJx hY hL h0
  have hmf := @hmfT Tryz.prog
  have hst := @hstT Tryz.prog
  obtain ⟨W0, hW0⟩ : ∃ W0, W0 = (W.alloc (.cells #[.func (.yield l) #[] #[]] 292)).alloc (.cells #[.func (.func 174) #[] #[.pointer (some ⟨g3, 0, none⟩), .pointer (some ⟨g4, 0, none⟩), .pointer (some ⟨g5, 0, none⟩), .pointer (some ⟨W.heap.size, 0, none⟩)]] 306) := ⟨_, rfl⟩
  have kY : Blk W0 W.heap.size 292 #[.func (.yield l) #[] #[]] := by rw [hW0]; exact (Blk.new _ _ _).alloc _
  have kO : Blk W0 (W.heap.size + 1) 306 #[.func (.func 174) #[] #[.pointer (some ⟨g3, 0, none⟩), .pointer (some ⟨g4, 0, none⟩), .pointer (some ⟨g5, 0, none⟩), .pointer (some ⟨W.heap.size, 0, none⟩)]] := by rw [hW0]; exact Blk.newAt (by simp)
  have b0 : Below W.heap.size W W0 := by rw [hW0]; exact ((Below.refl _ _).alloc (Nat.le_refl _) _).alloc (by simp) _
  have hL0 := hL.below b0
  refine callsIn_of_wp Tryz.func173 rfl trivial ?_ rfl
  simp only [Tryz.ntmps173, List.size_toArray, List.length_cons, List.length_nil, Nat.reduceAdd, Nat.reduceSub, Array.replicate_succ, Array.replicate_zero, List.push_toArray, List.append_toArray, List.nil_append, List.cons_append]
  gi_upto_region 2 with fail
  rw [← hW0]
  clear hW0
  have hY2 : ∀ (W1 : World), PasL p g3 g4 g5 0 0 W1 → Blk W1 W.heap.size 292 #[.func (.yield l) #[] #[]] → Blk W1 (W.heap.size + 1) 306 #[.func (.func 174) #[] #[.pointer (some ⟨g3, 0, none⟩), .pointer (some ⟨g4, 0, none⟩), .pointer (some ⟨g5, 0, none⟩), .pointer (some ⟨W.heap.size, 0, none⟩)]] → BelowH (HM p) W.heap.size W W1 → ∀ vs, (∃ B n k, vs = #[.agg #[.slice B n k, .int .i64 0]]) → YieldAt Fence.wide 0 Tryz.prog l vs W1 fun e W' => (e = .returned (.bool true) ∧ (J 1 W' ∧ PasL p g3 g4 g5 0 0 W' ∧ Blk W' W.heap.size 292 #[.func (.yield l) #[] #[]] ∧ Blk W' (W.heap.size + 1) 306 #[.func (.func 174) #[] #[.pointer (some ⟨g3, 0, none⟩), .pointer (some ⟨g4, 0, none⟩), .pointer (some ⟨g5, 0, none⟩), .pointer (some ⟨W.heap.size, 0, none⟩)]])) ∨ (e = .returned (.bool false) ∧ (Jx W' ∧ PasL p g3 g4 g5 0 0 W' ∧ Blk W' W.heap.size 292 #[.func (.yield l) #[] #[]] ∧ Blk W' (W.heap.size + 1) 306 #[.func (.func 174) #[] #[.pointer (some ⟨g3, 0, none⟩), .pointer (some ⟨g4, 0, none⟩), .pointer (some ⟨g5, 0, none⟩), .pointer (some ⟨W.heap.size, 0, none⟩)]])) := fun W1 q1 q2 q3 q4 vs hv => YieldAt.conv (hY 0 vs W1 (by decide) (hJ _ _ _ h0 (calmH_of q4 (Nat.le_refl _))) q1 hv) fun e W' h => by
    rcases h with ⟨he, h1, h2, h3⟩ | ⟨he, h1, h2, h3⟩
    · exact .inl ⟨he, h1, h2, nc_blk h3 q2 (Nat.le_refl _), nc_blk h3 q3 (by omega)⟩
    · exact .inr ⟨he, h1, h2, nc_blk h3 q2 (Nat.le_refl _), nc_blk h3 q3 (by omega)⟩
  generalize hgO : W.heap.size + 1 = gO at *
  have hgO2 := Nat.le_of_eq hgO.symm
  have hgO3 := Nat.le_of_eq hgO
  clear hgO
  have bs := (Below.refl W0.heap.size W0).alloc (Nat.le_refl _) (.cells #[.int .i64 0, .int .i64 0] 48)
  have hs := (SlAt.of_blk (enc := Pnt.cells) (s := 2) (Blk.new W0 48 #[.int .i64 0, .int .i64 0]) (fun _ => rfl) [⟨0, 0⟩] rfl (by decide)).mono (Nat.zero_le _)
  have hLs := hL0.below bs
  have kYs := kY.below bs
  have kOs := kO.below bs
  obtain ⟨c4, f4, l4⟩ := hL0.k4.rules
  obtain ⟨c5, f5, l5⟩ := hL0.k5.rules
  obtain ⟨cO, fO, lO⟩ := kO.rules
  gi_wp2_with fail
  clear c4 f4 l4 c5 f5 l5 cO fO lO
  refine ⟨trivial, fun h => (by cases h), ?_⟩
  refine (offerA_any _ l p _ 1 g3 g4 g5 W.heap.size _ hLs.inv hLs.k3 hLs.k4 hLs.k5 kYs hs _ _ (fun W' h => h.2.2.1) (fun W' h => h.2.2.1) (fun vs W1 h1 h2 h3 => hY2 W1 (hLs.next h2 h3) (h3.blk kYs kYs.lt (hLs.inv.off kYs)) (h3.blk kOs kOs.lt (hLs.inv.off kOs)) ((belowH_of (b0.trans (bs.mono b0.size))).trans (h3.mono (Nat.le_trans b0.size bs.size))) vs h1)).mono ?_
  clear hs hLs kYs kOs bs hL0 kY kO
  rintro e W2 (⟨rfl, hj, hL2, kY, kO⟩ | ⟨rfl, hj, hL2, kY, kO⟩)
  rotate_left 1
  · gi_wp2_with fail
    refine bodyPost_ret (results_none rfl _ _ _) rfl ?_
    exact ⟨⟨_, rfl⟩, .inr ⟨hj, hL2⟩⟩
  have hgN : W.heap.size ≤ W2.heap.size := by have := kO.lt; omega
  gi_upto_region 5 with fail
  have b3 := (Below.refl W2.heap.size W2).alloc (Nat.le_refl _) (.cells #[.func (.func 177) #[] #[.pointer (some ⟨gO, 0, none⟩), .pointer (some ⟨g5, 0, none⟩), .pointer (some ⟨g3, 0, none⟩), .pointer (some ⟨W2.heap.size, 0, none⟩)]] 307)
  have kN := Blk.new W2 307 #[.func (.func 177) #[] #[.pointer (some ⟨gO, 0, none⟩), .pointer (some ⟨g5, 0, none⟩), .pointer (some ⟨g3, 0, none⟩), .pointer (some ⟨W2.heap.size, 0, none⟩)]]
  replace hL2 := hL2.below b3
  replace kY := kY.below b3
  replace kO := kO.below b3
  replace hj := hJ _ _ _ hj (calmH_of (belowH_of b3) hgN)
  clear b3
  generalize W2.alloc (.cells #[.func (.func 177) #[] #[.pointer (some ⟨gO, 0, none⟩), .pointer (some ⟨g5, 0, none⟩), .pointer (some ⟨g3, 0, none⟩), .pointer (some ⟨W2.heap.size, 0, none⟩)]] 307) = W3 at *
  generalize W2.heap.size = gN at *
  have bs := (Below.refl W3.heap.size W3).alloc (Nat.le_refl _) (.cells #[.int .i64 0, .int .i64 0] 48)
  have hs := (SlAt.of_blk (enc := Pnt.cells) (s := 2) (Blk.new W3 48 #[.int .i64 0, .int .i64 0]) (fun _ => rfl) [⟨0, 0⟩] rfl (by decide)).mono (Nat.zero_le _)
  have hLs := hL2.below bs
  have kOs := kO.below bs
  have kYs := kY.below bs
  have hgN3 : W.heap.size ≤ W3.heap.size := by have := kO.lt; omega
  obtain ⟨c4, f4, l4⟩ := hL2.k4.rules
  obtain ⟨cN, fN, lN⟩ := kN.rules
  gi_wp2_with fail
  clear c4 f4 l4 cN fN lN
  refine ⟨trivial, fun h => (by cases h), ?_⟩
  refine (callsIn_wide.2 (nextA_any p _ 1 g3 g4 g5 W.heap.size gO gN _ hLs.inv hLs.k3 hLs.k4 hLs.k5 kOs hs)).mono ?_
  rintro e W4 ⟨rfl, hI4, hb4⟩
  gi_wp2_with fail
  go_end0
  exact ⟨⟨_, rfl⟩, .inl ⟨hJ _ _ _ hj (calmH_of ((belowH_of bs).trans (hb4.mono bs.size)) hgN3), hLs.next hI4 hb4⟩⟩
theorem pasC_iter (m : Nat) (p : Pl) (g3 g4 g5 : Nat) :
    IterH Fence.wide m Tryz.prog (HM p) 173 #[.pointer (some ⟨g3, 0, none⟩), .pointer (some ⟨g4, 0, none⟩), .pointer (some ⟨g5, 0, none⟩)] 1 (PasG 14) (PasL p g3 g4 g5 10 3) := by
  intro l J Jx W hJ hJx hY hL h0
  have hmf := @hmfT Tryz.prog
  have hst := @hstT Tryz.prog
  obtain ⟨W0, hW0⟩ : ∃ W0, W0 = (W.alloc (.cells #[.func (.yield l) #[] #[]] 292)).alloc (.cells #[.func (.func 174) #[] #[.pointer (some ⟨g3, 0, none⟩), .pointer (some ⟨g4, 0, none⟩), .pointer (some ⟨g5, 0, none⟩), .pointer (some ⟨W.heap.size, 0, none⟩)]] 306) := ⟨_, rfl⟩
  have kY : Blk W0 W.heap.size 292 #[.func (.yield l) #[] #[]] := by rw [hW0]; exact (Blk.new _ _ _).alloc _
  have kO : Blk W0 (W.heap.size + 1) 306 #[.func (.func 174) #[] #[.pointer (some ⟨g3, 0, none⟩), .pointer (some ⟨g4, 0, none⟩), .pointer (some ⟨g5, 0, none⟩), .pointer (some ⟨W.heap.size, 0, none⟩)]] := by rw [hW0]; exact Blk.newAt (by simp)
  have b0 : Below W.heap.size W W0 := by rw [hW0]; exact ((Below.refl _ _).alloc (Nat.le_refl _) _).alloc (by simp) _
  have hL0 := hL.below b0
  refine callsIn_of_wp Tryz.func173 rfl trivial ?_ rfl
  simp only [Tryz.ntmps173, List.size_toArray, List.length_cons, List.length_nil, Nat.reduceAdd, Nat.reduceSub, Array.replicate_succ, Array.replicate_zero, List.push_toArray, List.append_toArray, List.nil_append, List.cons_append]
  gi_upto_region 2 with fail
  rw [← hW0]
  clear hW0
  have hY2 : ∀ (W1 : World), PasL p g3 g4 g5 10 3 W1 → Blk W1 W.heap.size 292 #[.func (.yield l) #[] #[]] → Blk W1 (W.heap.size + 1) 306 #[.func (.func 174) #[] #[.pointer (some ⟨g3, 0, none⟩), .pointer (some ⟨g4, 0, none⟩), .pointer (some ⟨g5, 0, none⟩), .pointer (some ⟨W.heap.size, 0, none⟩)]] → BelowH (HM p) W.heap.size W W1 → ∀ vs, (∃ B n k, vs = #[.agg #[.slice B n k, .int .i64 14]]) → YieldAt Fence.wide 0 Tryz.prog l vs W1 fun e W' => (e = .returned (.bool true) ∧ (J 1 W' ∧ PasL p g3 g4 g5 10 3 W' ∧ Blk W' W.heap.size 292 #[.func (.yield l) #[] #[]] ∧ Blk W' (W.heap.size + 1) 306 #[.func (.func 174) #[] #[.pointer (some ⟨g3, 0, none⟩), .pointer (some ⟨g4, 0, none⟩), .pointer (some ⟨g5, 0, none⟩), .pointer (some ⟨W.heap.size, 0, none⟩)]])) ∨ (e = .returned (.bool false) ∧ (Jx W' ∧ PasL p g3 g4 g5 10 3 W' ∧ Blk W' W.heap.size 292 #[.func (.yield l) #[] #[]] ∧ Blk W' (W.heap.size + 1) 306 #[.func (.func 174) #[] #[.pointer (some ⟨g3, 0, none⟩), .pointer (some ⟨g4, 0, none⟩), .pointer (some ⟨g5, 0, none⟩), .pointer (some ⟨W.heap.size, 0, none⟩)]])) := fun W1 q1 q2 q3 q4 vs hv => YieldAt.conv (hY 0 vs W1 (by decide) (hJ _ _ _ h0 (calmH_of q4 (Nat.le_refl _))) q1 hv) fun e W' h => by
    rcases h with ⟨he, h1, h2, h3⟩ | ⟨he, h1, h2, h3⟩
    · exact .inl ⟨he, h1, h2, nc_blk h3 q2 (Nat.le_refl _), nc_blk h3 q3 (by omega)⟩
    · exact .inr ⟨he, h1, h2, nc_blk h3 q2 (Nat.le_refl _), nc_blk h3 q3 (by omega)⟩
  generalize hgO : W.heap.size + 1 = gO at *
  have hgO2 := Nat.le_of_eq hgO.symm
  have hgO3 := Nat.le_of_eq hgO
  clear hgO
  have hL2 := hL0
  obtain ⟨c4, f4, l4⟩ := hL0.k4.rules
  obtain ⟨c5, f5, l5⟩ := hL0.k5.rules
  gi_wp2_with fail
  refine ⟨fun _ _ => trivial, ?_⟩
  have hgN : W.heap.size ≤ W0.heap.size := by have := kO.lt; omega
  gi_upto_region 5 with fail
  clear c4 f4 l4 c5 f5 l5 hL0
  have b3 := (Below.refl W0.heap.size W0).alloc (Nat.le_refl _) (.cells #[.func (.func 177) #[] #[.pointer (some ⟨gO, 0, none⟩), .pointer (some ⟨g5, 0, none⟩), .pointer (some ⟨g3, 0, none⟩), .pointer (some ⟨W0.heap.size, 0, none⟩)]] 307)
  have kN := Blk.new W0 307 #[.func (.func 177) #[] #[.pointer (some ⟨gO, 0, none⟩), .pointer (some ⟨g5, 0, none⟩), .pointer (some ⟨g3, 0, none⟩), .pointer (some ⟨W0.heap.size, 0, none⟩)]]
  replace hL2 := hL2.below b3
  replace kY := kY.below b3
  replace kO := kO.below b3
  replace b0 := b0.trans (b3.mono b0.size)
  clear b3
  generalize W0.alloc (.cells #[.func (.func 177) #[] #[.pointer (some ⟨gO, 0, none⟩), .pointer (some ⟨g5, 0, none⟩), .pointer (some ⟨g3, 0, none⟩), .pointer (some ⟨W0.heap.size, 0, none⟩)]] 307) = W3 at *
  generalize W0.heap.size = gN at *
  have bs := (Below.refl W3.heap.size W3).alloc (Nat.le_refl _) (.cells #[.int .i64 0, .int .i64 0] 48)
  have hs := (SlAt.of_blk (enc := Pnt.cells) (s := 2) (Blk.new W3 48 #[.int .i64 0, .int .i64 0]) (fun _ => rfl) [⟨0, 0⟩] rfl (by decide)).mono (Nat.zero_le _)
  have hLs := hL2.below bs
  have kOs := kO.below bs
  have kYs := kY.below bs
  have hgN3 : W.heap.size ≤ W3.heap.size := by have := kO.lt; omega
  obtain ⟨c4, f4, l4⟩ := hL2.k4.rules
  obtain ⟨cN, fN, lN⟩ := kN.rules
  gi_wp2_with fail
  clear c4 f4 l4 cN fN lN
  refine ⟨trivial, fun h => (by cases h), ?_⟩
  refine (nextC_any _ l p _ 1 g3 g4 g5 W.heap.size gO gN _ hLs.inv hLs.k3 hLs.k4 hLs.k5 kOs hs kYs _ _ (fun W' h => ⟨h.2.1.inv, h.2.2.1, h.2.1.k3⟩) (fun W' h => h.2.2.1) (fun W' h => by rcases h with h | h; exact ⟨h.2.2.2.cell, h.2.1.k5.cell⟩; exact ⟨h.2.2.2.cell, h.2.1.k5.cell⟩) (fun vs W1 h1 h2 h3 => hY2 W1 (hLs.next h2 h3) (h3.blk kYs kYs.lt (hLs.inv.off kYs)) (h3.blk kOs kOs.lt (hLs.inv.off kOs)) ((belowH_of (b0.trans (bs.mono b0.size))).trans (h3.mono (Nat.le_trans b0.size bs.size))) vs h1)).mono ?_
  rintro e W4 (⟨rfl, hj, hL4, -, -⟩ | ⟨rfl, hj, hL4, -, -⟩)
  · gi_wp2_with fail
    go_end0
    exact ⟨⟨_, rfl⟩, .inl ⟨hj, hL4⟩⟩
  · gi_wp2_with fail
    go_end0
    exact ⟨⟨_, rfl⟩, .inr ⟨hj, hL4⟩⟩
end Go.Proofs.YtcmbmmpihiekhaaGreat
