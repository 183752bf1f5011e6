/-
  Shots, walks of the specification: what a claim covers; Bound.
-/
import Derived.Test.YtfengddpfeneiaaS36
import Derived.Test.YtfengddpfeneiaaS16
namespace Go.Proofs.Ytfengddpfeneiaa
open Go.RowKit Go.Shelf
set_option linter.unusedSimpArgs false
set_option linter.unusedVariables false
attribute [local irreducible] wpStill

def RetClm (r : Rul) (l : List Int) (c : Clm) (w : World) (e : Ending) (w' : World) : Prop :=
  ∃ a0 a1 a2 : Int, e = .returned (.tuple #[.agg #[.int .i64 a0, .int .i64 a1, .int .i64 a2], .bool (spanS r l c).isSome]) ∧ (∀ s, spanS r l c = some s → a0 = s.fr ∧ a1 = s.to ∧ a2 = s.most) ∧ Below w.heap.size w w'
set_option maxRecDepth 100000 in
set_option maxHeartbeats 2000000 in
theorem Rclaimed_any (r : Rul) (hr : okRul r = true) (l : List Int) (cl : Clm) (A : Option Addr) (n c B : Nat) (w : World) (hn : n ≤ 256) (hs : SlAt w B 1 ivs A n c l) :
    Calls Try.prog 108 #[.agg #[.int .i64 r.row, .int .i64 r.win, .int .i64 r.many, .int .i64 r.total], .slice A n c, .agg #[.int .i64 cl.rule, .int .i64 cl.fr]] w (RetClm r l cl w) := by
  have hl := Lib.hid hs.len
  obtain ⟨p1, p2, p3, p4, p5, p6, p7, p8⟩ := okRul_is hr
  clear hs
  obtain ⟨ru, fr⟩ := cl
  dsimp only
  by_cases c1 : ru = 1
  · subst c1
    have u1 := IntWalk.i64_in (r.row - 1) (by omega)
    have u2 := IntWalk.i64_in ((n : Int) - r.row) (by omega)
    obtain ⟨w1, hw1⟩ : ∃ w1, w1 = ((w.alloc (.cells #[.int .i64 r.row, .int .i64 r.win, .int .i64 r.many, .int .i64 r.total] 57)).alloc (.cells #[.int .i64 1, .int .i64 fr] 99)).alloc (.cells #[.int .i64 0, .int .i64 0, .int .i64 0] 153) := ⟨_, rfl⟩
    have k3 : Blk w1 w.heap.size 57 #[.int .i64 r.row, .int .i64 r.win, .int .i64 r.many, .int .i64 r.total] := by rw [hw1]; exact ((Blk.new _ _ _).alloc _).alloc _
    have k5 : Blk w1 (w.heap.size + 1) 99 #[.int .i64 1, .int .i64 fr] := by rw [hw1]; exact (Blk.newAt (by simp)).alloc _
    have k6 : Blk w1 (w.heap.size + 1 + 1) 153 #[.int .i64 0, .int .i64 0, .int .i64 0] := by rw [hw1]; exact Blk.newAt (by simp)
    have b : Below w.heap.size w w1 := by rw [hw1]; exact (((Below.refl _ _).alloc (Nat.le_refl _) _).alloc (by simp) _).alloc (by simp; omega) _
    go_enter Try.func108, Try.ntmps108
    go_wp2_with fail
    rw [← hw1]
    clear hw1
    obtain ⟨c3, f3, l3⟩ := k3.rules
    obtain ⟨c5, f5, l5⟩ := k5.rules
    obtain ⟨x3, hx3⟩ : ∃ x3, IntKind.i64.wrap (fr + r.row) = x3 := ⟨_, rfl⟩
    go_wp2_with fail
    refine wp_region_still_tail 19 (by kernel_rfl) (by kernel_rfl) ?_
    simp only [List.take_succ_cons, List.take_zero, List.drop_succ_cons, List.drop_zero]
    (iterate 18 still_step)
    still_call (flip_w (Between_any _ _ _ _))
    apply still_end
    change wpList _ _ _ _ _ w1.drew
    clear c3 f3 l3 c5 f5 l5
    replace k6 := k6.drew
    replace b := b.drew
    generalize w1.drew = w4 at *
    have kz := ((k6.set_ 0 (.int .i64 fr)).set_ 1 (.int .i64 (x3))).set_ 2 (.int .i64 (r.row - 1))
    simp only [List.setIfInBounds_toArray, List.set_cons_zero, List.set_cons_succ] at kz
    have bz := ((b.setCell (p := ⟨w.heap.size + 1 + 1, 0, none⟩) (by dsimp only; omega) (.int .i64 fr)).setCell (p := ⟨w.heap.size + 1 + 1, 1, none⟩) (by dsimp only; omega) (.int .i64 (x3))).setCell (p := ⟨w.heap.size + 1 + 1, 2, none⟩) (by dsimp only; omega) (.int .i64 (r.row - 1))
    obtain ⟨Wz, hwz⟩ : ∃ y, y = ((w4.setCell ⟨w.heap.size + 1 + 1, 0, none⟩ (.int .i64 fr)).setCell ⟨w.heap.size + 1 + 1, 1, none⟩ (.int .i64 (x3))).setCell ⟨w.heap.size + 1 + 1, 2, none⟩ (.int .i64 (r.row - 1)) := ⟨_, rfl⟩
    rw [← hwz] at kz bz
    obtain ⟨c6, f6, l6⟩ := k6.rules
    go_wp2_with fail
    rw [← hwz]
    clear hwz c6 f6 l6
    obtain ⟨c6, f6, l6⟩ := kz.rules
    refine bodyPost_ret (v := .tuple #[.agg #[.int .i64 fr, .int .i64 (x3), .int .i64 (r.row - 1)], .bool (decide (0 ≤ fr ∧ fr ≤ (n : Int) - r.row))]) (by simp [results, Try.results108, go_sem, c6, wrap00]) rfl ⟨fr, x3, r.row - 1, ?_, ?_, bz⟩
    · congr 4
      unfold spanS
      rw [if_pos rfl, hl.out]
      split
      · rename_i h; rw [decide_eq_true h]; rfl
      · rename_i h; rw [decide_eq_false h]; rfl
    · intro s hsp
      unfold spanS at hsp
      rw [if_pos rfl, hl.out] at hsp
      split at hsp
      · rename_i h
        simp only [Option.some.injEq] at hsp
        subst hsp
        rw [IntWalk.i64_in _ (by dsimp only at h; omega)] at hx3
        exact ⟨rfl, hx3.symm, rfl⟩
      · cases hsp
  · have c1' : (ru == 1) = false := by rw [beq_eq_false_iff_ne]; exact c1
    by_cases c2 : ru = 2
    · subst c2
      have u1 := IntWalk.i64_in (r.many - 1) (by omega)
      obtain ⟨lg, hlg⟩ : ∃ lg, min r.win (n : Int) = lg := ⟨_, rfl⟩
      have hmin := fun ats ty => (min2_int ats ty r.win (n : Int)).trans (by rw [hlg])
      have hlb : 0 ≤ lg ∧ lg ≤ 12 ∧ lg ≤ n := by omega
      obtain ⟨lb1, lb2, lb3⟩ := hlb
      have u2 := IntWalk.i64_in ((n : Int) - lg) (by omega)
      replace c1 := Lib.hid c1
      replace hlg := Lib.hid hlg
      obtain ⟨w1, hw1⟩ : ∃ w1, w1 = ((w.alloc (.cells #[.int .i64 r.row, .int .i64 r.win, .int .i64 r.many, .int .i64 r.total] 57)).alloc (.cells #[.int .i64 2, .int .i64 fr] 99)).alloc (.cells #[.int .i64 0, .int .i64 0, .int .i64 0] 153) := ⟨_, rfl⟩
      have k3 : Blk w1 w.heap.size 57 #[.int .i64 r.row, .int .i64 r.win, .int .i64 r.many, .int .i64 r.total] := by rw [hw1]; exact ((Blk.new _ _ _).alloc _).alloc _
      have k5 : Blk w1 (w.heap.size + 1) 99 #[.int .i64 2, .int .i64 fr] := by rw [hw1]; exact (Blk.newAt (by simp)).alloc _
      have k6 : Blk w1 (w.heap.size + 1 + 1) 153 #[.int .i64 0, .int .i64 0, .int .i64 0] := by rw [hw1]; exact Blk.newAt (by simp)
      have b : Below w.heap.size w w1 := by rw [hw1]; exact (((Below.refl _ _).alloc (Nat.le_refl _) _).alloc (by simp) _).alloc (by simp; omega) _
      go_enter Try.func108, Try.ntmps108
      go_wp2_with fail
      rw [← hw1]
      clear hw1
      obtain ⟨c3, f3, l3⟩ := k3.rules
      obtain ⟨c5, f5, l5⟩ := k5.rules
      obtain ⟨x3, hx3⟩ : ∃ x3, IntKind.i64.wrap (fr + lg) = x3 := ⟨_, rfl⟩
      go_wp2_with fail
      refine wp_region_still_tail 17 (by kernel_rfl) (by kernel_rfl) ?_
      simp only [List.take_succ_cons, List.take_zero, List.drop_succ_cons, List.drop_zero]
      (iterate 16 still_step)
      still_call (flip_w (Between_any _ _ _ _))
      apply still_end
      change wpList _ _ _ _ _ w1.drew
      clear c3 f3 l3 c5 f5 l5
      replace k6 := k6.drew
      replace b := b.drew
      generalize w1.drew = w4 at *
      have kz := ((k6.set_ 0 (.int .i64 fr)).set_ 1 (.int .i64 (x3))).set_ 2 (.int .i64 (r.many - 1))
      simp only [List.setIfInBounds_toArray, List.set_cons_zero, List.set_cons_succ] at kz
      have bz := ((b.setCell (p := ⟨w.heap.size + 1 + 1, 0, none⟩) (by dsimp only; omega) (.int .i64 fr)).setCell (p := ⟨w.heap.size + 1 + 1, 1, none⟩) (by dsimp only; omega) (.int .i64 (x3))).setCell (p := ⟨w.heap.size + 1 + 1, 2, none⟩) (by dsimp only; omega) (.int .i64 (r.many - 1))
      obtain ⟨Wz, hwz⟩ : ∃ y, y = ((w4.setCell ⟨w.heap.size + 1 + 1, 0, none⟩ (.int .i64 fr)).setCell ⟨w.heap.size + 1 + 1, 1, none⟩ (.int .i64 (x3))).setCell ⟨w.heap.size + 1 + 1, 2, none⟩ (.int .i64 (r.many - 1)) := ⟨_, rfl⟩
      rw [← hwz] at kz bz
      obtain ⟨c6, f6, l6⟩ := k6.rules
      go_wp2_with fail
      rw [← hwz]
      clear hwz c6 f6 l6
      obtain ⟨c6, f6, l6⟩ := kz.rules
      refine bodyPost_ret (v := .tuple #[.agg #[.int .i64 fr, .int .i64 (x3), .int .i64 (r.many - 1)], .bool (decide (0 ≤ fr ∧ fr ≤ (n : Int) - lg))]) (by simp [results, Try.results108, go_sem, c6, wrap00]) rfl ⟨fr, x3, r.many - 1, ?_, ?_, bz⟩
      · congr 4
        unfold spanS
        rw [if_neg (by show ¬ (2 : Int) = 1; decide), if_pos rfl, hl.out, hlg.out]
        split
        · rename_i h; rw [decide_eq_true h]; rfl
        · rename_i h; rw [decide_eq_false h]; rfl
      · intro s hsp
        unfold spanS at hsp
        rw [if_neg (by show ¬ (2 : Int) = 1; decide), if_pos rfl, hl.out, hlg.out] at hsp
        split at hsp
        · rename_i h
          simp only [Option.some.injEq] at hsp
          subst hsp
          rw [IntWalk.i64_in _ (by dsimp only at h; omega)] at hx3
          exact ⟨rfl, hx3.symm, rfl⟩
        · cases hsp
    · have c2' : (ru == 2) = false := by rw [beq_eq_false_iff_ne]; exact c2
      by_cases c3 : ru = 3
      · subst c3
        have u1 := IntWalk.i64_in (r.total - 1) (by omega)
        replace c1 := Lib.hid c1
        replace c2 := Lib.hid c2
        obtain ⟨w1, hw1⟩ : ∃ w1, w1 = ((w.alloc (.cells #[.int .i64 r.row, .int .i64 r.win, .int .i64 r.many, .int .i64 r.total] 57)).alloc (.cells #[.int .i64 3, .int .i64 fr] 99)).alloc (.cells #[.int .i64 0, .int .i64 0, .int .i64 0] 153) := ⟨_, rfl⟩
        have k3 : Blk w1 w.heap.size 57 #[.int .i64 r.row, .int .i64 r.win, .int .i64 r.many, .int .i64 r.total] := by rw [hw1]; exact ((Blk.new _ _ _).alloc _).alloc _
        have k5 : Blk w1 (w.heap.size + 1) 99 #[.int .i64 3, .int .i64 fr] := by rw [hw1]; exact (Blk.newAt (by simp)).alloc _
        have k6 : Blk w1 (w.heap.size + 1 + 1) 153 #[.int .i64 0, .int .i64 0, .int .i64 0] := by rw [hw1]; exact Blk.newAt (by simp)
        have b : Below w.heap.size w w1 := by rw [hw1]; exact (((Below.refl _ _).alloc (Nat.le_refl _) _).alloc (by simp) _).alloc (by simp; omega) _
        go_enter Try.func108, Try.ntmps108
        go_wp2_with fail
        rw [← hw1]
        clear hw1
        obtain ⟨c3, f3, l3⟩ := k3.rules
        obtain ⟨c5, f5, l5⟩ := k5.rules
        go_wp2_with fail
        refine wp_held_np (fun w' : World => (∀ j, w'.cell? ⟨w.heap.size, j, none⟩ = #[Value.int .i64 r.row, .int .i64 r.win, .int .i64 r.many, .int .i64 r.total][j]?) ∧ (∀ j, w'.cell? ⟨w.heap.size + 1, j, none⟩ = #[Value.int .i64 3, .int .i64 fr][j]?)) (by kernel_rfl) ?_
        clear c3 f3 l3 c5 f5 l5
        replace k3 := k3.drew
        replace k5 := k5.drew
        replace k6 := k6.drew
        replace b := b.drew
        generalize w1.drew = w4 at *
        have hS : (fun w' : World => (∀ j, w'.cell? ⟨w.heap.size, j, none⟩ = #[Value.int .i64 r.row, .int .i64 r.win, .int .i64 r.many, .int .i64 r.total][j]?) ∧ (∀ j, w'.cell? ⟨w.heap.size + 1, j, none⟩ = #[Value.int .i64 3, .int .i64 fr][j]?)) w4 := ⟨k3.cell, k5.cell⟩
        refine held_take (i := 0) (v := ?_) 58 rfl rfl (by kernel_rfl) (by kernel_rfl) (by kernel_rfl) (fun _ _ _ h => h) (Or.inl ⟨by rfl, ?_⟩) hS ?_
        rotate_left 1
        · intro w' hSw
          try dsimp only at hSw
          obtain ⟨q1, q2⟩ := hSw
          go_simp
          all_goals with_reducible rfl
        try simp only [Act.put, List.setIfInBounds_toArray, List.set_cons_zero, List.set_cons_succ]
        refine held_take (i := 1) (v := ?_) 59 rfl rfl (by kernel_rfl) (by kernel_rfl) (by kernel_rfl) (fun _ _ _ h => h) (Or.inl ⟨by rfl, ?_⟩) hS ?_
        rotate_left 1
        · intro w' hSw
          try dsimp only at hSw
          obtain ⟨q1, q2⟩ := hSw
          go_simp
          all_goals with_reducible rfl
        try simp only [Act.put, List.setIfInBounds_toArray, List.set_cons_zero, List.set_cons_succ]
        refine held_take (i := 2) (v := ?_) 60 rfl rfl (by kernel_rfl) (by kernel_rfl) (by kernel_rfl) (fun _ _ _ h => h) (Or.inl ⟨by rfl, ?_⟩) hS ?_
        rotate_left 1
        · intro w' hSw
          try dsimp only at hSw
          obtain ⟨q1, q2⟩ := hSw
          go_simp
          all_goals with_reducible rfl
        try simp only [Act.put, List.setIfInBounds_toArray, List.set_cons_zero, List.set_cons_succ]
        refine held_take (i := 3) (v := ?_) 61 rfl rfl (by kernel_rfl) (by kernel_rfl) (by kernel_rfl) (fun _ _ _ h => h) (Or.inl ⟨by rfl, ?_⟩) hS ?_
        rotate_left 1
        · intro w' hSw
          try dsimp only at hSw
          obtain ⟨q1, q2⟩ := hSw
          go_simp
          all_goals with_reducible rfl
        try simp only [Act.put, List.setIfInBounds_toArray, List.set_cons_zero, List.set_cons_succ]
        refine held_take (i := 4) (v := ?_) 62 rfl rfl (by kernel_rfl) (by kernel_rfl) (by kernel_rfl) (fun _ _ _ h => h) (Or.inl ⟨by rfl, ?_⟩) hS ?_
        rotate_left 1
        · intro w' hSw
          try dsimp only at hSw
          obtain ⟨q1, q2⟩ := hSw
          go_simp
          all_goals with_reducible rfl
        try simp only [Act.put, List.setIfInBounds_toArray, List.set_cons_zero, List.set_cons_succ]
        refine held_take (i := 5) (v := ?_) 63 rfl rfl (by kernel_rfl) (by kernel_rfl) (by kernel_rfl) (fun _ _ _ h => h) (Or.inl ⟨by rfl, ?_⟩) hS ?_
        rotate_left 1
        · intro w' hSw
          try dsimp only at hSw
          obtain ⟨q1, q2⟩ := hSw
          go_simp
          all_goals with_reducible rfl
        try simp only [Act.put, List.setIfInBounds_toArray, List.set_cons_zero, List.set_cons_succ]
        refine held_take (i := 6) (v := ?_) 64 rfl rfl (by kernel_rfl) (by kernel_rfl) (by kernel_rfl) (fun _ _ _ h => h) (Or.inl ⟨by rfl, ?_⟩) hS ?_
        rotate_left 1
        · intro w' hSw
          try dsimp only at hSw
          obtain ⟨q1, q2⟩ := hSw
          go_simp
          all_goals with_reducible rfl
        try simp only [Act.put, List.setIfInBounds_toArray, List.set_cons_zero, List.set_cons_succ]
        refine held_take (i := 7) (v := ?_) 65 rfl rfl (by kernel_rfl) (by kernel_rfl) (by kernel_rfl) (fun _ _ _ h => h) (Or.inl ⟨by rfl, ?_⟩) hS ?_
        rotate_left 1
        · intro w' hSw
          try dsimp only at hSw
          obtain ⟨q1, q2⟩ := hSw
          go_simp
          all_goals with_reducible rfl
        try simp only [Act.put, List.setIfInBounds_toArray, List.set_cons_zero, List.set_cons_succ]
        refine held_take (i := 8) (v := ?_) 66 rfl rfl (by kernel_rfl) (by kernel_rfl) (by kernel_rfl) (fun _ _ _ h => h) (Or.inl ⟨by rfl, ?_⟩) hS ?_
        rotate_left 1
        · intro w' hSw
          try dsimp only at hSw
          obtain ⟨q1, q2⟩ := hSw
          go_simp
          all_goals with_reducible rfl
        try simp only [Act.put, List.setIfInBounds_toArray, List.set_cons_zero, List.set_cons_succ]
        clear hS
        have kz := ((k6.set_ 0 (.int .i64 0)).set_ 1 (.int .i64 (n : Int))).set_ 2 (.int .i64 (r.total - 1))
        simp only [List.setIfInBounds_toArray, List.set_cons_zero, List.set_cons_succ] at kz
        have k3z := ((k3.far (p := ⟨w.heap.size + 1 + 1, 0, none⟩) (by dsimp only; omega) (.int .i64 0)).far (p := ⟨w.heap.size + 1 + 1, 1, none⟩) (by dsimp only; omega) (.int .i64 (n : Int))).far (p := ⟨w.heap.size + 1 + 1, 2, none⟩) (by dsimp only; omega) (.int .i64 (r.total - 1))
        have k5z := ((k5.far (p := ⟨w.heap.size + 1 + 1, 0, none⟩) (by dsimp only; omega) (.int .i64 0)).far (p := ⟨w.heap.size + 1 + 1, 1, none⟩) (by dsimp only; omega) (.int .i64 (n : Int))).far (p := ⟨w.heap.size + 1 + 1, 2, none⟩) (by dsimp only; omega) (.int .i64 (r.total - 1))
        have bz := ((b.setCell (p := ⟨w.heap.size + 1 + 1, 0, none⟩) (by dsimp only; omega) (.int .i64 0)).setCell (p := ⟨w.heap.size + 1 + 1, 1, none⟩) (by dsimp only; omega) (.int .i64 (n : Int))).setCell (p := ⟨w.heap.size + 1 + 1, 2, none⟩) (by dsimp only; omega) (.int .i64 (r.total - 1))
        obtain ⟨Wz, hwz⟩ : ∃ y, y = ((w4.setCell ⟨w.heap.size + 1 + 1, 0, none⟩ (.int .i64 0)).setCell ⟨w.heap.size + 1 + 1, 1, none⟩ (.int .i64 (n : Int))).setCell ⟨w.heap.size + 1 + 1, 2, none⟩ (.int .i64 (r.total - 1)) := ⟨_, rfl⟩
        rw [← hwz] at kz bz k3z k5z
        obtain ⟨c6, f6, l6⟩ := k6.rules
        refine held_one (i := 9) (by kernel_rfl) rfl rfl (fun K hK => ?_)
        go_simp
        rw [← hwz]
        clear hwz c6 f6 l6
        have hS : (fun w' : World => (∀ j, w'.cell? ⟨w.heap.size, j, none⟩ = #[Value.int .i64 r.row, .int .i64 r.win, .int .i64 r.many, .int .i64 r.total][j]?) ∧ (∀ j, w'.cell? ⟨w.heap.size + 1, j, none⟩ = #[Value.int .i64 3, .int .i64 fr][j]?)) Wz := ⟨k3z.cell, k5z.cell⟩
        refine hK _ _ hS ?_
        clear hK K
        try simp only [Act.put, List.setIfInBounds_toArray, List.set_cons_zero, List.set_cons_succ]
        refine held_take (i := 10) (v := ?_) 7 rfl rfl (by kernel_rfl) (by kernel_rfl) (by kernel_rfl) (fun _ _ _ h => h) (Or.inl ⟨by rfl, ?_⟩) hS ?_
        rotate_left 1
        · intro w' hSw
          try dsimp only at hSw
          obtain ⟨q1, q2⟩ := hSw
          go_simp
          all_goals with_reducible rfl
        try simp only [Act.put, List.setIfInBounds_toArray, List.set_cons_zero, List.set_cons_succ]
        refine wpAnyH_done (by kernel_rfl) (noPanic_normal ?_) _
        clear hS
        try simp only [Act.put, List.setIfInBounds_toArray, List.set_cons_zero, List.set_cons_succ]
        obtain ⟨c6, f6, l6⟩ := kz.rules
        go_wp2_with fail
        refine bodyPost_ret (v := .tuple #[.agg #[.int .i64 0, .int .i64 (n : Int), .int .i64 (r.total - 1)], .bool (fr == 0)]) (by simp [results, Try.results108, go_sem, c6, wrap00]) rfl ⟨0, n, r.total - 1, ?_, ?_, bz⟩
        · congr 4
          unfold spanS
          rw [if_neg (by show ¬ (3 : Int) = 1; decide), if_neg (by show ¬ (3 : Int) = 2; decide), if_pos rfl]
          split
          · rename_i h; dsimp only at h; rw [beq_iff_eq.2 h]; rfl
          · rename_i h; dsimp only at h; rw [beq_eq_false_iff_ne.2 h]; rfl
        · intro s hsp
          unfold spanS at hsp
          rw [if_neg (by show ¬ (3 : Int) = 1; decide), if_neg (by show ¬ (3 : Int) = 2; decide), if_pos rfl, hl.out] at hsp
          split at hsp
          · simp only [Option.some.injEq] at hsp
            subst hsp
            exact ⟨rfl, rfl, rfl⟩
          · cases hsp
      · have c3' : (ru == 3) = false := by rw [beq_eq_false_iff_ne]; exact c3
        have hno : Hid (spanS r l ⟨ru, fr⟩ = none) := by
          show _ = _
          unfold spanS
          rw [if_neg c1, if_neg c2, if_neg c3]
        replace c1 := Lib.hid c1
        replace c2 := Lib.hid c2
        replace c3 := Lib.hid c3
        obtain ⟨w1, hw1⟩ : ∃ w1, w1 = ((w.alloc (.cells #[.int .i64 r.row, .int .i64 r.win, .int .i64 r.many, .int .i64 r.total] 57)).alloc (.cells #[.int .i64 ru, .int .i64 fr] 99)).alloc (.cells #[.int .i64 0, .int .i64 0, .int .i64 0] 153) := ⟨_, rfl⟩
        have k3 : Blk w1 w.heap.size 57 #[.int .i64 r.row, .int .i64 r.win, .int .i64 r.many, .int .i64 r.total] := by rw [hw1]; exact ((Blk.new _ _ _).alloc _).alloc _
        have k5 : Blk w1 (w.heap.size + 1) 99 #[.int .i64 ru, .int .i64 fr] := by rw [hw1]; exact (Blk.newAt (by simp)).alloc _
        have k6 : Blk w1 (w.heap.size + 1 + 1) 153 #[.int .i64 0, .int .i64 0, .int .i64 0] := by rw [hw1]; exact Blk.newAt (by simp)
        have b : Below w.heap.size w w1 := by rw [hw1]; exact (((Below.refl _ _).alloc (Nat.le_refl _) _).alloc (by simp) _).alloc (by simp; omega) _
        go_enter Try.func108, Try.ntmps108
        go_wp2_with fail
        rw [← hw1]
        clear hw1
        obtain ⟨c3, f3, l3⟩ := k3.rules
        obtain ⟨c5, f5, l5⟩ := k5.rules
        go_wp2_with fail
        obtain ⟨c6, f6, l6⟩ := k6.rules
        refine bodyPost_ret (v := .tuple #[.agg #[.int .i64 0, .int .i64 0, .int .i64 0], .bool false]) (by simp [results, Try.results108, go_sem, c6, wrap00]) rfl ⟨0, 0, 0, ?_, ?_, b⟩
        · rw [hno.out]; rfl
        · intro s hs
          rw [hno.out] at hs
          cases hs
end Go.Proofs.Ytfengddpfeneiaa
