/-
  Shots, walks: what a claim covers; Bound.
-/
import Derived.Test.YtfengddpfeneiaaGreatS7
namespace Go.Proofs.YtfengddpfeneiaaGreat
open Go.RowKit Go.Shelf
set_option linter.unusedSimpArgs false
set_option linter.unusedVariables false

theorem wpStill_skipB {P : Program} {ops : Array Oper} {w : World} {Q : Act → Prop} {a : Act} {o : Oper} {rest : List Oper} (hw : Region.wanted o (yielded ops a.tmps) = false) (h : wpStill P ops w Q rest (a.put o.dst undef)) : wpStill P ops w Q (o :: rest) a := by
  unfold wpStill
  rw [hw]
  exact h
attribute [local irreducible] wpStill
theorem wrap00 : IntKind.i64.wrap 0 = 0 := IntWalk.i64_in 0 (by omega)
def RetSpan (r : Rul) (l : List Int) (c : Clm) (w : World) (e : Ending) (w' : World) : Prop :=
  ∃ S : Array Value, e = .returned (.tuple #[.agg S, .bool (spanS r l c).isSome]) ∧ (∃ a0 a1 a2 a3 a4 : Int, S = #[.int .i64 a0, .int .i64 a1, .int .i64 a2, .int .i64 a3, .int .i64 a4]) ∧ (∀ s, spanS r l c = some s → S = #[.int .i64 c.rule, .int .i64 c.fr, .int .i64 s.fr, .int .i64 s.to, .int .i64 s.most]) ∧ Below w.heap.size w w'
set_option maxRecDepth 100000 in
set_option maxHeartbeats 2000000 in
theorem spans_any (r : Rul) (hr : okRul r = true) (l : List Int) (cl : Clm) (A : Option Addr) (n c B : Nat) (w : World) (hn : n ≤ 256) (hs : SlAt w B 1 ivs A n c l) :
    Calls Tryz.prog 107 #[.agg #[.int .i64 r.row, .int .i64 r.win, .int .i64 r.many, .int .i64 r.total], .slice A n c, .agg #[.int .i64 cl.rule, .int .i64 cl.fr]] w (RetSpan r l cl w) := by
  have hl := Lib.hid hs.len
  obtain ⟨p1, p2, p3, p4, p5, p6, p7, p8⟩ := okRul_is hr
  clear hs
  obtain ⟨ru, fr⟩ := cl
  dsimp only
  by_cases c1 : ru = 1
  · subst c1
    have u1 := IntWalk.i64_in (r.row - 1) (by omega)
    have u2 := IntWalk.i64_in ((n : Int) - r.row) (by omega)
    obtain ⟨w1, hw1⟩ : ∃ w1, w1 = ((w.alloc (.cells #[.int .i64 r.row, .int .i64 r.win, .int .i64 r.many, .int .i64 r.total] 104)).alloc (.cells #[.int .i64 1, .int .i64 fr] 112)).alloc (.cells #[.int .i64 0, .int .i64 0, .int .i64 0, .int .i64 0, .int .i64 0] 193) := ⟨_, rfl⟩
    have k3 : Blk w1 w.heap.size 104 #[.int .i64 r.row, .int .i64 r.win, .int .i64 r.many, .int .i64 r.total] := by rw [hw1]; exact ((Blk.new _ _ _).alloc _).alloc _
    have k5 : Blk w1 (w.heap.size + 1) 112 #[.int .i64 1, .int .i64 fr] := by rw [hw1]; exact (Blk.newAt (by simp)).alloc _
    have k6 : Blk w1 (w.heap.size + 1 + 1) 193 #[.int .i64 0, .int .i64 0, .int .i64 0, .int .i64 0, .int .i64 0] := by rw [hw1]; exact Blk.newAt (by simp)
    have b : Below w.heap.size w w1 := by rw [hw1]; exact (((Below.refl _ _).alloc (Nat.le_refl _) _).alloc (by simp) _).alloc (by simp; omega) _
    go_enter Tryz.func107, Tryz.ntmps107
    go_wp2_with fail
    rw [← hw1]
    clear hw1
    obtain ⟨c3, f3, l3⟩ := k3.rules
    obtain ⟨c5, f5, l5⟩ := k5.rules
    go_wp2_with fail
    go_quiet (fail)
    obtain ⟨x3, hx3⟩ : ∃ x3, IntKind.i64.wrap (fr + r.row) = x3 := ⟨_, rfl⟩
    clear c3 f3 l3 c5 f5 l5
    replace k3 := k3.below (below_drewN (Below.refl _ _) nq)
    replace k5 := k5.below (below_drewN (Below.refl _ _) nq)
    replace k6 := k6.below (below_drewN (Below.refl _ _) nq)
    replace b := b.trans ((below_drewN (Below.refl _ _) nq).mono b.size)
    generalize w1.drewN nq = w2 at *
    obtain ⟨c5, f5, l5⟩ := k5.rules
    obtain ⟨c6, f6, l6⟩ := k6.rules
    go_wp2_with fail
    refine wp_region_still_tail 16 (by kernel_rfl) (by kernel_rfl) ?_
    simp only [List.take_succ_cons, List.take_zero, List.drop_succ_cons, List.drop_zero]
    (iterate 15 still_step)
    still_call (flip_w (sWithin_any _ _ _ _))
    apply still_end
    change wpList _ _ _ _ _ w2.drew
    clear c5 f5 l5 c6 f6 l6
    replace k6 := k6.drew
    replace b := b.drew
    generalize w2.drew = w4 at *
    have kz := ((((k6.set_ 0 (.int .i64 1)).set_ 1 (.int .i64 fr)).set_ 2 (.int .i64 fr)).set_ 3 (.int .i64 x3)).set_ 4 (.int .i64 (r.row - 1))
    simp only [List.setIfInBounds_toArray, List.set_cons_zero, List.set_cons_succ] at kz
    have bz := ((((b.setCell (p := ⟨w.heap.size + 1 + 1, 0, none⟩) (by dsimp only; omega) (.int .i64 1)).setCell (p := ⟨w.heap.size + 1 + 1, 1, none⟩) (by dsimp only; omega) (.int .i64 fr)).setCell (p := ⟨w.heap.size + 1 + 1, 2, none⟩) (by dsimp only; omega) (.int .i64 fr)).setCell (p := ⟨w.heap.size + 1 + 1, 3, none⟩) (by dsimp only; omega) (.int .i64 x3)).setCell (p := ⟨w.heap.size + 1 + 1, 4, none⟩) (by dsimp only; omega) (.int .i64 (r.row - 1))
    obtain ⟨Wz, hwz⟩ : ∃ y, y = ((((w4.setCell ⟨w.heap.size + 1 + 1, 0, none⟩ (.int .i64 1)).setCell ⟨w.heap.size + 1 + 1, 1, none⟩ (.int .i64 fr)).setCell ⟨w.heap.size + 1 + 1, 2, none⟩ (.int .i64 fr)).setCell ⟨w.heap.size + 1 + 1, 3, none⟩ (.int .i64 x3)).setCell ⟨w.heap.size + 1 + 1, 4, none⟩ (.int .i64 (r.row - 1)) := ⟨_, rfl⟩
    rw [← hwz] at kz bz
    obtain ⟨c6, f6, l6⟩ := k6.rules
    go_wp2_with fail
    rw [← hwz]
    clear hwz c6 f6 l6
    obtain ⟨c6, f6, l6⟩ := kz.rules
    refine bodyPost_ret (v := .tuple #[.agg #[.int .i64 1, .int .i64 fr, .int .i64 fr, .int .i64 x3, .int .i64 (r.row - 1)], .bool (decide (0 ≤ fr ∧ fr ≤ (n : Int) - r.row))]) (by simp [results, Tryz.results107, go_sem, c6, wrap00]) rfl ⟨#[.int .i64 1, .int .i64 fr, .int .i64 fr, .int .i64 x3, .int .i64 (r.row - 1)], ?_, ⟨_, _, _, _, _, rfl⟩, ?_, bz⟩
    · congr 4
      unfold spanS
      rw [if_pos rfl, hl.out]
      split
      · rename_i h; rw [decide_eq_true h]; rfl
      · rename_i h; rw [decide_eq_false h]; rfl
    · intro s hsp
      unfold spanS at hsp
      rw [if_pos rfl, hl.out] at hsp
      split at hsp
      · rename_i h
        simp only [Option.some.injEq] at hsp
        subst hsp
        rw [IntWalk.i64_in _ (by dsimp only at h; omega)] at hx3
        rw [← hx3]
      · cases hsp
  · have c1' : (ru == 1) = false := by rw [beq_eq_false_iff_ne]; exact c1
    by_cases c2 : ru = 2
    · subst c2
      have u1 := IntWalk.i64_in (r.many - 1) (by omega)
      have hmin := min2_int
      obtain ⟨lg, hlg⟩ : ∃ lg, min r.win (n : Int) = lg := ⟨_, rfl⟩
      have hlb : 0 ≤ lg ∧ lg ≤ 12 ∧ lg ≤ n := by omega
      obtain ⟨lb1, lb2, lb3⟩ := hlb
      have u2 := IntWalk.i64_in ((n : Int) - lg) (by omega)
      replace c1 := Lib.hid c1
      obtain ⟨w1, hw1⟩ : ∃ w1, w1 = ((w.alloc (.cells #[.int .i64 r.row, .int .i64 r.win, .int .i64 r.many, .int .i64 r.total] 104)).alloc (.cells #[.int .i64 2, .int .i64 fr] 112)).alloc (.cells #[.int .i64 0, .int .i64 0, .int .i64 0, .int .i64 0, .int .i64 0] 193) := ⟨_, rfl⟩
      have k3 : Blk w1 w.heap.size 104 #[.int .i64 r.row, .int .i64 r.win, .int .i64 r.many, .int .i64 r.total] := by rw [hw1]; exact ((Blk.new _ _ _).alloc _).alloc _
      have k5 : Blk w1 (w.heap.size + 1) 112 #[.int .i64 2, .int .i64 fr] := by rw [hw1]; exact (Blk.newAt (by simp)).alloc _
      have k6 : Blk w1 (w.heap.size + 1 + 1) 193 #[.int .i64 0, .int .i64 0, .int .i64 0, .int .i64 0, .int .i64 0] := by rw [hw1]; exact Blk.newAt (by simp)
      have b : Below w.heap.size w w1 := by rw [hw1]; exact (((Below.refl _ _).alloc (Nat.le_refl _) _).alloc (by simp) _).alloc (by simp; omega) _
      go_enter Tryz.func107, Tryz.ntmps107
      go_wp2_with fail
      rw [← hw1]
      clear hw1
      obtain ⟨c3, f3, l3⟩ := k3.rules
      obtain ⟨c5, f5, l5⟩ := k5.rules
      go_wp2_with fail
      go_quiet (fail)
      try simp only [hlg]
      obtain ⟨x3, hx3⟩ : ∃ x3, IntKind.i64.wrap (fr + lg) = x3 := ⟨_, rfl⟩
      clear c3 f3 l3 c5 f5 l5
      replace k3 := k3.below (below_drewN (Below.refl _ _) nq)
      replace k5 := k5.below (below_drewN (Below.refl _ _) nq)
      replace k6 := k6.below (below_drewN (Below.refl _ _) nq)
      replace b := b.trans ((below_drewN (Below.refl _ _) nq).mono b.size)
      generalize w1.drewN nq = w2 at *
      obtain ⟨c5, f5, l5⟩ := k5.rules
      obtain ⟨c6, f6, l6⟩ := k6.rules
      go_wp2_with fail
      refine wp_region_still_tail 16 (by kernel_rfl) (by kernel_rfl) ?_
      simp only [List.take_succ_cons, List.take_zero, List.drop_succ_cons, List.drop_zero]
      (iterate 15 still_step)
      still_call (flip_w (sWithin_any _ _ _ _))
      apply still_end
      change wpList _ _ _ _ _ w2.drew
      clear c5 f5 l5 c6 f6 l6
      replace k6 := k6.drew
      replace b := b.drew
      generalize w2.drew = w4 at *
      have kz := ((((k6.set_ 0 (.int .i64 2)).set_ 1 (.int .i64 fr)).set_ 2 (.int .i64 fr)).set_ 3 (.int .i64 x3)).set_ 4 (.int .i64 (r.many - 1))
      simp only [List.setIfInBounds_toArray, List.set_cons_zero, List.set_cons_succ] at kz
      have bz := ((((b.setCell (p := ⟨w.heap.size + 1 + 1, 0, none⟩) (by dsimp only; omega) (.int .i64 2)).setCell (p := ⟨w.heap.size + 1 + 1, 1, none⟩) (by dsimp only; omega) (.int .i64 fr)).setCell (p := ⟨w.heap.size + 1 + 1, 2, none⟩) (by dsimp only; omega) (.int .i64 fr)).setCell (p := ⟨w.heap.size + 1 + 1, 3, none⟩) (by dsimp only; omega) (.int .i64 x3)).setCell (p := ⟨w.heap.size + 1 + 1, 4, none⟩) (by dsimp only; omega) (.int .i64 (r.many - 1))
      obtain ⟨Wz, hwz⟩ : ∃ y, y = ((((w4.setCell ⟨w.heap.size + 1 + 1, 0, none⟩ (.int .i64 2)).setCell ⟨w.heap.size + 1 + 1, 1, none⟩ (.int .i64 fr)).setCell ⟨w.heap.size + 1 + 1, 2, none⟩ (.int .i64 fr)).setCell ⟨w.heap.size + 1 + 1, 3, none⟩ (.int .i64 x3)).setCell ⟨w.heap.size + 1 + 1, 4, none⟩ (.int .i64 (r.many - 1)) := ⟨_, rfl⟩
      rw [← hwz] at kz bz
      obtain ⟨c6, f6, l6⟩ := k6.rules
      go_wp2_with fail
      rw [← hwz]
      clear hwz c6 f6 l6
      obtain ⟨c6, f6, l6⟩ := kz.rules
      refine bodyPost_ret (v := .tuple #[.agg #[.int .i64 2, .int .i64 fr, .int .i64 fr, .int .i64 x3, .int .i64 (r.many - 1)], .bool (decide (0 ≤ fr ∧ fr ≤ (n : Int) - lg))]) (by simp [results, Tryz.results107, go_sem, c6, wrap00]) rfl ⟨#[.int .i64 2, .int .i64 fr, .int .i64 fr, .int .i64 x3, .int .i64 (r.many - 1)], ?_, ⟨_, _, _, _, _, rfl⟩, ?_, bz⟩
      · congr 4
        unfold spanS
        rw [if_neg (by show ¬ (2 : Int) = 1; decide), if_pos rfl, hl.out, hlg]
        split
        · rename_i h; rw [decide_eq_true h]; rfl
        · rename_i h; rw [decide_eq_false h]; rfl
      · intro s hsp
        unfold spanS at hsp
        rw [if_neg (by show ¬ (2 : Int) = 1; decide), if_pos rfl, hl.out, hlg] at hsp
        split at hsp
        · rename_i h
          simp only [Option.some.injEq] at hsp
          subst hsp
          rw [IntWalk.i64_in _ (by dsimp only at h; omega)] at hx3
          rw [← hx3]
        · cases hsp
    · have c2' : (ru == 2) = false := by rw [beq_eq_false_iff_ne]; exact c2
      by_cases c3 : ru = 3
      · subst c3
        have u1 := IntWalk.i64_in (r.total - 1) (by omega)
        have u2 := IntWalk.i64_in ((n : Int) - (n : Int)) (by omega)
        replace c1 := Lib.hid c1
        replace c2 := Lib.hid c2
        obtain ⟨w1, hw1⟩ : ∃ w1, w1 = ((w.alloc (.cells #[.int .i64 r.row, .int .i64 r.win, .int .i64 r.many, .int .i64 r.total] 104)).alloc (.cells #[.int .i64 3, .int .i64 fr] 112)).alloc (.cells #[.int .i64 0, .int .i64 0, .int .i64 0, .int .i64 0, .int .i64 0] 193) := ⟨_, rfl⟩
        have k3 : Blk w1 w.heap.size 104 #[.int .i64 r.row, .int .i64 r.win, .int .i64 r.many, .int .i64 r.total] := by rw [hw1]; exact ((Blk.new _ _ _).alloc _).alloc _
        have k5 : Blk w1 (w.heap.size + 1) 112 #[.int .i64 3, .int .i64 fr] := by rw [hw1]; exact (Blk.newAt (by simp)).alloc _
        have k6 : Blk w1 (w.heap.size + 1 + 1) 193 #[.int .i64 0, .int .i64 0, .int .i64 0, .int .i64 0, .int .i64 0] := by rw [hw1]; exact Blk.newAt (by simp)
        have b : Below w.heap.size w w1 := by rw [hw1]; exact (((Below.refl _ _).alloc (Nat.le_refl _) _).alloc (by simp) _).alloc (by simp; omega) _
        go_enter Tryz.func107, Tryz.ntmps107
        go_wp2_with fail
        rw [← hw1]
        clear hw1
        obtain ⟨c3, f3, l3⟩ := k3.rules
        obtain ⟨c5, f5, l5⟩ := k5.rules
        go_wp2_with fail
        go_quiet (fail)
        obtain ⟨x3, hx3⟩ : ∃ x3, IntKind.i64.wrap (fr + (n : Int)) = x3 := ⟨_, rfl⟩
        clear c3 f3 l3 c5 f5 l5
        replace k3 := k3.below (below_drewN (Below.refl _ _) nq)
        replace k5 := k5.below (below_drewN (Below.refl _ _) nq)
        replace k6 := k6.below (below_drewN (Below.refl _ _) nq)
        replace b := b.trans ((below_drewN (Below.refl _ _) nq).mono b.size)
        generalize w1.drewN nq = w2 at *
        obtain ⟨c5, f5, l5⟩ := k5.rules
        obtain ⟨c6, f6, l6⟩ := k6.rules
        go_wp2_with fail
        refine wp_region_still_tail 16 (by kernel_rfl) (by kernel_rfl) ?_
        simp only [List.take_succ_cons, List.take_zero, List.drop_succ_cons, List.drop_zero]
        (iterate 15 still_step)
        still_call (flip_w (sWithin_any _ _ _ _))
        apply still_end
        change wpList _ _ _ _ _ w2.drew
        clear c5 f5 l5 c6 f6 l6
        replace k6 := k6.drew
        replace b := b.drew
        generalize w2.drew = w4 at *
        have kz := ((((k6.set_ 0 (.int .i64 3)).set_ 1 (.int .i64 fr)).set_ 2 (.int .i64 fr)).set_ 3 (.int .i64 x3)).set_ 4 (.int .i64 (r.total - 1))
        simp only [List.setIfInBounds_toArray, List.set_cons_zero, List.set_cons_succ] at kz
        have bz := ((((b.setCell (p := ⟨w.heap.size + 1 + 1, 0, none⟩) (by dsimp only; omega) (.int .i64 3)).setCell (p := ⟨w.heap.size + 1 + 1, 1, none⟩) (by dsimp only; omega) (.int .i64 fr)).setCell (p := ⟨w.heap.size + 1 + 1, 2, none⟩) (by dsimp only; omega) (.int .i64 fr)).setCell (p := ⟨w.heap.size + 1 + 1, 3, none⟩) (by dsimp only; omega) (.int .i64 x3)).setCell (p := ⟨w.heap.size + 1 + 1, 4, none⟩) (by dsimp only; omega) (.int .i64 (r.total - 1))
        obtain ⟨Wz, hwz⟩ : ∃ y, y = ((((w4.setCell ⟨w.heap.size + 1 + 1, 0, none⟩ (.int .i64 3)).setCell ⟨w.heap.size + 1 + 1, 1, none⟩ (.int .i64 fr)).setCell ⟨w.heap.size + 1 + 1, 2, none⟩ (.int .i64 fr)).setCell ⟨w.heap.size + 1 + 1, 3, none⟩ (.int .i64 x3)).setCell ⟨w.heap.size + 1 + 1, 4, none⟩ (.int .i64 (r.total - 1)) := ⟨_, rfl⟩
        rw [← hwz] at kz bz
        obtain ⟨c6, f6, l6⟩ := k6.rules
        go_wp2_with fail
        rw [← hwz]
        clear hwz c6 f6 l6
        obtain ⟨c6, f6, l6⟩ := kz.rules
        refine bodyPost_ret (v := .tuple #[.agg #[.int .i64 3, .int .i64 fr, .int .i64 fr, .int .i64 x3, .int .i64 (r.total - 1)], .bool (decide (0 ≤ fr ∧ fr ≤ (n : Int) - (n : Int)))]) (by simp [results, Tryz.results107, go_sem, c6, wrap00]) rfl ⟨#[.int .i64 3, .int .i64 fr, .int .i64 fr, .int .i64 x3, .int .i64 (r.total - 1)], ?_, ⟨_, _, _, _, _, rfl⟩, ?_, bz⟩
        · congr 4
          unfold spanS
          rw [if_neg (by show ¬ (3 : Int) = 1; decide), if_neg (by show ¬ (3 : Int) = 2; decide), if_pos rfl]
          split
          · rename_i h; dsimp only at h; rw [decide_eq_true (by omega)]; rfl
          · rename_i h; dsimp only at h; rw [decide_eq_false (by omega)]; rfl
        · intro s hsp
          unfold spanS at hsp
          rw [if_neg (by show ¬ (3 : Int) = 1; decide), if_neg (by show ¬ (3 : Int) = 2; decide), if_pos rfl, hl.out] at hsp
          split at hsp
          · rename_i h
            dsimp only at h
            simp only [Option.some.injEq] at hsp
            subst hsp
            rw [IntWalk.i64_in _ (by omega), h, Int.zero_add] at hx3
            rw [← hx3, h]
          · cases hsp
      · have c3' : (ru == 3) = false := by rw [beq_eq_false_iff_ne]; exact c3
        have hno : Hid (spanS r l ⟨ru, fr⟩ = none) := by
          show _ = _
          unfold spanS
          rw [if_neg c1, if_neg c2, if_neg c3]
        replace c1 := Lib.hid c1
        replace c2 := Lib.hid c2
        replace c3 := Lib.hid c3
        obtain ⟨w1, hw1⟩ : ∃ w1, w1 = ((w.alloc (.cells #[.int .i64 r.row, .int .i64 r.win, .int .i64 r.many, .int .i64 r.total] 104)).alloc (.cells #[.int .i64 ru, .int .i64 fr] 112)).alloc (.cells #[.int .i64 0, .int .i64 0, .int .i64 0, .int .i64 0, .int .i64 0] 193) := ⟨_, rfl⟩
        have k3 : Blk w1 w.heap.size 104 #[.int .i64 r.row, .int .i64 r.win, .int .i64 r.many, .int .i64 r.total] := by rw [hw1]; exact ((Blk.new _ _ _).alloc _).alloc _
        have k5 : Blk w1 (w.heap.size + 1) 112 #[.int .i64 ru, .int .i64 fr] := by rw [hw1]; exact (Blk.newAt (by simp)).alloc _
        have k6 : Blk w1 (w.heap.size + 1 + 1) 193 #[.int .i64 0, .int .i64 0, .int .i64 0, .int .i64 0, .int .i64 0] := by rw [hw1]; exact Blk.newAt (by simp)
        have b : Below w.heap.size w w1 := by rw [hw1]; exact (((Below.refl _ _).alloc (Nat.le_refl _) _).alloc (by simp) _).alloc (by simp; omega) _
        go_enter Tryz.func107, Tryz.ntmps107
        go_wp2_with fail
        rw [← hw1]
        clear hw1
        obtain ⟨c3, f3, l3⟩ := k3.rules
        obtain ⟨c5, f5, l5⟩ := k5.rules
        go_wp2_with fail
        obtain ⟨c6, f6, l6⟩ := k6.rules
        refine bodyPost_ret (v := .tuple #[.agg #[.int .i64 0, .int .i64 0, .int .i64 0, .int .i64 0, .int .i64 0], .bool false]) (by simp [results, Tryz.results107, go_sem, c6]) rfl ⟨#[.int .i64 0, .int .i64 0, .int .i64 0, .int .i64 0, .int .i64 0], ?_, ⟨_, _, _, _, _, rfl⟩, ?_, b⟩
        · rw [hno.out]; rfl
        · intro s hs
          rw [hno.out] at hs
          cases hs
end Go.Proofs.YtfengddpfeneiaaGreat
