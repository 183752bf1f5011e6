/-
  The law ShotJudges.
-/
import Derived.Test.YtfengddpfeneiaaS28
import Derived.Test.YtfengddpfeneiaaS38
namespace Go.Proofs.Ytfengddpfeneiaa
open Go.RowKit Go.Shelf
set_option linter.unusedSimpArgs false
set_option linter.unusedVariables false

set_option maxRecDepth 100000 in
set_option maxHeartbeats 4000000 in
theorem ShotJudges_any (r : Rul) (A : Option Addr) (n c : Nat) (l : List Int) (m : Int) (w : World) (hs : SlAt w 0 1 ivs A n c l) :
    Calls Try.prog 7 #[.agg #[.int .i64 r.row, .int .i64 r.win, .int .i64 r.many, .int .i64 r.total], .slice A n c, .int .i64 m] w fun e w' => e = .returned (.bool true) ∧ Below w.heap.size w w' := by
  have h1 := fun W h => Judge_any r l A n c 0 W h
  have h2 := fun W h => RJudge_any r l A n c 0 W h
  have h3 := fun W => sCheckRules_any r W
  have h4 := fun W => RCheckRules_any r W
  have h5 := fun W h => Foresee_any r l A n c 0 W h
  have h6 := fun W h => RForesee_any r l A n c 0 W h
  have h7 := fun W h => Allow_any r l m A n c 0 W h
  have h8 := fun W h => RAllow_any r l m A n c 0 W h
  generalize judgeR r l = r1 at *
  generalize chkRul r = r2 at *
  generalize (foreR r l).1.lo = lo at *
  generalize (foreR r l).1.hi = hi at *
  generalize (foreR r l).2 = r3 at *
  generalize allowR r l m = r4 at *
  obtain ⟨w1, hw1⟩ : ∃ w1, w1 = w.alloc (.cells #[.int .i64 r.row, .int .i64 r.win, .int .i64 r.many, .int .i64 r.total] 57) := ⟨_, rfl⟩
  have k3 : Blk w1 w.heap.size 57 #[.int .i64 r.row, .int .i64 r.win, .int .i64 r.many, .int .i64 r.total] := by rw [hw1]; exact Blk.new _ _ _
  have b : Below w.heap.size w w1 := by rw [hw1]; exact (Below.refl _ _).alloc (Nat.le_refl _) _
  have hs1 : SlAt w1 0 1 ivs A n c l := by rw [hw1]; exact hs.alloc _
  clear hs
  go_enter Try.func7, Try.ntmps7
  go_wp2_with fail
  rw [← hw1]
  clear hw1
  obtain ⟨c3, f3, l3⟩ := k3.rules
  go_wp2_with fail
  refine (h1 _ hs1).mono ?_
  rintro e W ⟨rfl, hb⟩
  clear c3 f3 l3 h1
  replace k3 := k3.below hb
  replace b := b.trans (hb.mono b.size)
  replace hs1 := hs1.below hb
  clear hb
  obtain ⟨c3, f3, l3⟩ := k3.rules
  go_wp2_with fail
  refine (h2 _ hs1).mono ?_
  rintro e W2 ⟨rfl, hb⟩
  clear c3 f3 l3 h2
  replace k3 := k3.below hb
  replace b := b.trans (hb.mono b.size)
  replace hs1 := hs1.below hb
  clear hb
  go_wp2_with fail
  refine wp_held_np (fun w' : World => (∀ j, w'.cell? ⟨w.heap.size, j, none⟩ = #[Value.int .i64 r.row, .int .i64 r.win, .int .i64 r.many, .int .i64 r.total][j]?) ∧ True) (by kernel_rfl) ?_
  replace k3 := k3.drew
  replace b := b.drew
  replace hs1 := hs1.drew
  generalize W2.drew = wd at *
  have hS : (fun w' : World => (∀ j, w'.cell? ⟨w.heap.size, j, none⟩ = #[Value.int .i64 r.row, .int .i64 r.win, .int .i64 r.many, .int .i64 r.total][j]?) ∧ True) wd := ⟨k3.cell, trivial⟩
  refine held_take (i := 0) (v := ?_) 31 rfl rfl (by kernel_rfl) (by kernel_rfl) (by kernel_rfl) (fun _ _ _ h => h) (Or.inl ⟨by rfl, ?_⟩) hS ?_
  rotate_left 1
  · intro w' hSw
    try dsimp only at hSw
    obtain ⟨q1, q2⟩ := hSw
    go_simp
    all_goals with_reducible rfl
  try simp only [Act.put, List.setIfInBounds_toArray, List.set_cons_zero, List.set_cons_succ]
  refine held_take (i := 1) (v := ?_) 32 rfl rfl (by kernel_rfl) (by kernel_rfl) (by kernel_rfl) (fun _ _ _ h => h) (Or.inl ⟨by rfl, ?_⟩) hS ?_
  rotate_left 1
  · intro w' hSw
    try dsimp only at hSw
    obtain ⟨q1, q2⟩ := hSw
    go_simp
    all_goals with_reducible rfl
  try simp only [Act.put, List.setIfInBounds_toArray, List.set_cons_zero, List.set_cons_succ]
  refine held_take (i := 2) (v := ?_) 33 rfl rfl (by kernel_rfl) (by kernel_rfl) (by kernel_rfl) (fun _ _ _ h => h) (Or.inl ⟨by rfl, ?_⟩) hS ?_
  rotate_left 1
  · intro w' hSw
    try dsimp only at hSw
    obtain ⟨q1, q2⟩ := hSw
    go_simp
    all_goals with_reducible rfl
  try simp only [Act.put, List.setIfInBounds_toArray, List.set_cons_zero, List.set_cons_succ]
  refine held_take (i := 3) (v := ?_) 34 rfl rfl (by kernel_rfl) (by kernel_rfl) (by kernel_rfl) (fun _ _ _ h => h) (Or.inl ⟨by rfl, ?_⟩) hS ?_
  rotate_left 1
  · intro w' hSw
    try dsimp only at hSw
    obtain ⟨q1, q2⟩ := hSw
    go_simp
    all_goals with_reducible rfl
  try simp only [Act.put, List.setIfInBounds_toArray, List.set_cons_zero, List.set_cons_succ]
  refine held_take (i := 4) (v := ?_) 35 rfl rfl (by kernel_rfl) (by kernel_rfl) (by kernel_rfl) (fun _ _ _ h => h) (Or.inl ⟨by rfl, ?_⟩) hS ?_
  rotate_left 1
  · intro w' hSw
    try dsimp only at hSw
    obtain ⟨q1, q2⟩ := hSw
    go_simp
    all_goals with_reducible rfl
  try simp only [Act.put, List.setIfInBounds_toArray, List.set_cons_zero, List.set_cons_succ]
  refine held_take (i := 5) (v := ?_) 36 rfl rfl (by kernel_rfl) (by kernel_rfl) (by kernel_rfl) (fun _ _ _ h => h) (Or.inl ⟨by rfl, ?_⟩) hS ?_
  rotate_left 1
  · intro w' hSw
    try dsimp only at hSw
    obtain ⟨q1, q2⟩ := hSw
    go_simp
    all_goals with_reducible rfl
  try simp only [Act.put, List.setIfInBounds_toArray, List.set_cons_zero, List.set_cons_succ]
  refine held_take (i := 6) (v := ?_) 37 rfl rfl (by kernel_rfl) (by kernel_rfl) (by kernel_rfl) (fun _ _ _ h => h) (Or.inl ⟨by rfl, ?_⟩) hS ?_
  rotate_left 1
  · intro w' hSw
    try dsimp only at hSw
    obtain ⟨q1, q2⟩ := hSw
    go_simp
    all_goals with_reducible rfl
  try simp only [Act.put, List.setIfInBounds_toArray, List.set_cons_zero, List.set_cons_succ]
  refine held_take (i := 7) (v := ?_) 38 rfl rfl (by kernel_rfl) (by kernel_rfl) (by kernel_rfl) (fun _ _ _ h => h) (Or.inl ⟨by rfl, ?_⟩) hS ?_
  rotate_left 1
  · intro w' hSw
    try dsimp only at hSw
    obtain ⟨q1, q2⟩ := hSw
    go_simp
    all_goals with_reducible rfl
  try simp only [Act.put, List.setIfInBounds_toArray, List.set_cons_zero, List.set_cons_succ]
  refine held_take (i := 8) (v := ?_) 39 rfl rfl (by kernel_rfl) (by kernel_rfl) (by kernel_rfl) (fun _ _ _ h => h) (Or.inl ⟨by rfl, ?_⟩) hS ?_
  rotate_left 1
  · intro w' hSw
    try dsimp only at hSw
    obtain ⟨q1, q2⟩ := hSw
    go_simp
    all_goals with_reducible rfl
  try simp only [Act.put, List.setIfInBounds_toArray, List.set_cons_zero, List.set_cons_succ]
  refine held_take (i := 9) (v := ?_) 40 rfl rfl (by kernel_rfl) (by kernel_rfl) (by kernel_rfl) (fun _ _ _ h => h) (Or.inl ⟨by rfl, ?_⟩) hS ?_
  rotate_left 1
  · intro w' hSw
    try dsimp only at hSw
    obtain ⟨q1, q2⟩ := hSw
    go_simp
    all_goals with_reducible rfl
  try simp only [Act.put, List.setIfInBounds_toArray, List.set_cons_zero, List.set_cons_succ]
  refine held_take (i := 10) (v := ?_) 41 rfl rfl (by kernel_rfl) (by kernel_rfl) (by kernel_rfl) (fun _ _ _ h => h) (Or.inl ⟨by rfl, ?_⟩) hS ?_
  rotate_left 1
  · intro w' hSw
    try dsimp only at hSw
    obtain ⟨q1, q2⟩ := hSw
    go_simp
    all_goals with_reducible rfl
  try simp only [Act.put, List.setIfInBounds_toArray, List.set_cons_zero, List.set_cons_succ]
  refine held_take (i := 11) (v := ?_) 42 rfl rfl (by kernel_rfl) (by kernel_rfl) (by kernel_rfl) (fun _ _ _ h => h) (Or.inl ⟨by rfl, ?_⟩) hS ?_
  rotate_left 1
  · intro w' hSw
    try dsimp only at hSw
    obtain ⟨q1, q2⟩ := hSw
    go_simp
    all_goals with_reducible rfl
  try simp only [Act.put, List.setIfInBounds_toArray, List.set_cons_zero, List.set_cons_succ]
  refine held_take (i := 12) (v := ?_) 43 rfl rfl (by kernel_rfl) (by kernel_rfl) (by kernel_rfl) (fun _ _ _ h => h) (Or.inl ⟨by rfl, ?_⟩) hS ?_
  rotate_left 1
  · intro w' hSw
    try dsimp only at hSw
    obtain ⟨q1, q2⟩ := hSw
    go_simp
    all_goals with_reducible rfl
  try simp only [Act.put, List.setIfInBounds_toArray, List.set_cons_zero, List.set_cons_succ]
  refine held_take (i := 13) (v := ?_) 44 rfl rfl (by kernel_rfl) (by kernel_rfl) (by kernel_rfl) (fun _ _ _ h => h) (Or.inl ⟨by rfl, ?_⟩) hS ?_
  rotate_left 1
  · intro w' hSw
    try dsimp only at hSw
    obtain ⟨q1, q2⟩ := hSw
    go_simp
    all_goals with_reducible rfl
  try simp only [Act.put, List.setIfInBounds_toArray, List.set_cons_zero, List.set_cons_succ]
  refine held_take (i := 14) (v := ?_) 45 rfl rfl (by kernel_rfl) (by kernel_rfl) (by kernel_rfl) (fun _ _ _ h => h) (Or.inl ⟨by rfl, ?_⟩) hS ?_
  rotate_left 1
  · intro w' hSw
    try dsimp only at hSw
    obtain ⟨q1, q2⟩ := hSw
    go_simp
    all_goals with_reducible rfl
  try simp only [Act.put, List.setIfInBounds_toArray, List.set_cons_zero, List.set_cons_succ]
  refine held_take (i := 16) (v := ?_) 47 rfl rfl (by kernel_rfl) (by kernel_rfl) (by kernel_rfl) (fun _ _ _ h => h) (Or.inl ⟨by rfl, ?_⟩) hS ?_
  rotate_left 1
  · intro w' hSw
    try dsimp only at hSw
    obtain ⟨q1, q2⟩ := hSw
    go_simp
    all_goals with_reducible rfl
  try simp only [Act.put, List.setIfInBounds_toArray, List.set_cons_zero, List.set_cons_succ]
  clear hS
  refine held_one (i := 15) (by kernel_rfl) rfl rfl (fun K hK => ?_)
  go_simp
  refine (h3 _).mono ?_
  rintro e W3 ⟨rfl, hb⟩
  replace k3 := k3.below hb
  replace b := b.trans (hb.mono b.size)
  replace hs1 := hs1.below hb
  clear hb
  refine hK _ _ ⟨k3.cell, trivial⟩ ?_
  clear hK K
  try simp only [Act.put, List.setIfInBounds_toArray, List.set_cons_zero, List.set_cons_succ]
  have hS : (fun w' : World => (∀ j, w'.cell? ⟨w.heap.size, j, none⟩ = #[Value.int .i64 r.row, .int .i64 r.win, .int .i64 r.many, .int .i64 r.total][j]?) ∧ True) W3 := ⟨k3.cell, trivial⟩
  clear hS
  refine held_one (i := 17) (by kernel_rfl) rfl rfl (fun K hK => ?_)
  go_simp
  refine (h4 _).mono ?_
  rintro e W4 ⟨rfl, hb⟩
  replace k3 := k3.below hb
  replace b := b.trans (hb.mono b.size)
  replace hs1 := hs1.below hb
  clear hb
  refine hK _ _ ⟨k3.cell, trivial⟩ ?_
  clear hK K
  try simp only [Act.put, List.setIfInBounds_toArray, List.set_cons_zero, List.set_cons_succ]
  have hS : (fun w' : World => (∀ j, w'.cell? ⟨w.heap.size, j, none⟩ = #[Value.int .i64 r.row, .int .i64 r.win, .int .i64 r.many, .int .i64 r.total][j]?) ∧ True) W4 := ⟨k3.cell, trivial⟩
  refine held_take (i := 18) (v := ?_) 49 rfl rfl (by kernel_rfl) (by kernel_rfl) (by kernel_rfl) (fun _ _ _ h => h) (Or.inl ⟨by rfl, ?_⟩) hS ?_
  rotate_left 1
  · intro w' hSw
    try dsimp only at hSw
    obtain ⟨q1, q2⟩ := hSw
    go_simp
    all_goals with_reducible rfl
  try simp only [Act.put, List.setIfInBounds_toArray, List.set_cons_zero, List.set_cons_succ]
  refine held_take (i := 19) (v := ?_) 50 rfl rfl (by kernel_rfl) (by kernel_rfl) (by kernel_rfl) (fun _ _ _ h => h) (Or.inl ⟨by rfl, ?_⟩) hS ?_
  rotate_left 1
  · intro w' hSw
    try dsimp only at hSw
    obtain ⟨q1, q2⟩ := hSw
    go_simp
    all_goals with_reducible rfl
  try simp only [Act.put, List.setIfInBounds_toArray, List.set_cons_zero, List.set_cons_succ]
  refine wpAnyH_done (by kernel_rfl) (noPanic_normal ?_) _
  clear hS h3 h4
  try simp only [Act.put, List.setIfInBounds_toArray, List.set_cons_zero, List.set_cons_succ]
  obtain ⟨c3, f3, l3⟩ := k3.rules
  go_wp2_with fail
  refine (h5 _ hs1).mono ?_
  rintro e W5 ⟨rfl, hb⟩
  clear c3 f3 l3 h5
  replace k3 := k3.below hb
  replace b := b.trans (hb.mono b.size)
  replace hs1 := hs1.below hb
  clear hb
  obtain ⟨c3, f3, l3⟩ := k3.rules
  go_wp2_with fail
  clear c3 f3 l3
  have k13 := Blk.new W5 62 #[.int .i64 lo, .int .i64 hi]
  have hb := (Below.refl W5.heap.size W5).alloc (Nat.le_refl _) (.cells #[.int .i64 lo, .int .i64 hi] 62)
  replace k3 := k3.below hb
  replace b := b.trans (hb.mono b.size)
  replace hs1 := hs1.below hb
  clear hb
  generalize hg5 : W5.heap.size = g13 at *
  clear hg5
  generalize W5.alloc (.cells #[.int .i64 lo, .int .i64 hi] 62) = W6 at *
  refine (h6 _ hs1).mono ?_
  rintro e W7 ⟨rfl, hb⟩
  clear h6
  replace k13 := k13.below hb
  replace k3 := k3.below hb
  replace b := b.trans (hb.mono b.size)
  replace hs1 := hs1.below hb
  clear hb
  obtain ⟨c3, f3, l3⟩ := k3.rules
  obtain ⟨c13, f13, l13⟩ := k13.rules
  go_wp2_with fail
  clear c3 f3 l3 c13 f13 l13
  have hb := (Below.refl W7.heap.size W7).alloc (Nat.le_refl _) (.cells #[.int .i64 lo, .int .i64 hi] 62)
  replace k3 := k3.below hb
  replace b := b.trans (hb.mono b.size)
  replace hs1 := hs1.below hb
  replace k13 := k13.below hb
  clear hb
  generalize W7.alloc (.cells #[.int .i64 lo, .int .i64 hi] 62) = W8 at *
  refine (h7 _ hs1).mono ?_
  rintro e W9 ⟨rfl, hb⟩
  clear h7
  replace k3 := k3.below hb
  replace b := b.trans (hb.mono b.size)
  replace hs1 := hs1.below hb
  clear hb
  obtain ⟨c3, f3, l3⟩ := k3.rules
  go_wp2_with fail
  refine (h8 _ hs1).mono ?_
  rintro e W10 ⟨rfl, hb⟩
  clear h8 c3 f3 l3
  replace k3 := k3.below hb
  replace b := b.trans (hb.mono b.size)
  replace hs1 := hs1.below hb
  clear hb
  go_wp2_with fail
  refine (works_any _).mono ?_
  rintro e W11 ⟨rfl, hb⟩
  go_wp2_with fail
  go_ret
  exact ⟨rfl, b.trans (hb.mono b.size)⟩
end Go.Proofs.Ytfengddpfeneiaa
