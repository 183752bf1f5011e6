/-
  The law TowWatches.
-/
import Derived.Test.YtjiaepphnddpoaaGreatE1
import Derived.Test.YtjiaepphnddpoaaGreatR12
namespace Go.Proofs.YtjiaepphnddpoaaGreat
open Go.RowKit Go.Shelf
set_option linter.unusedSimpArgs false
set_option linter.unusedVariables false

set_option maxRecDepth 100000 in
set_option maxHeartbeats 4000000 in
theorem TowWatches_any (s : Strm) (A O D V : Option Addr) (n c no co nd cd nv cv : Nat) (bs : List Bnd) (l : List Wat) (v : List Int) (w : World) (hs : SlAt w 0 5 Sec.cells A n c s.secs) (hl : SlAt w 0 2 Bnd.cells O no co bs) (hd : SlAt w 0 4 Wat.cells D nd cd l) (hv : SlAt w 0 1 ivs V nv cv v) :
    Calls Tryz.prog 3 #[.agg #[.int .i64 s.head, .slice A n c, .int .i64 s.lane.lo, .int .i64 s.lane.hi, .int .i64 s.bend, .slice O no co], .agg #[.slice D nd cd, .slice V nv cv]] w fun e w' => e = .returned (.bool true) ∧ Below w.heap.size w w' := by
  obtain ⟨w0, hw0⟩ : ∃ w0, w0 = w.alloc (.cells #[.int .i64 s.head, .slice A n c, .int .i64 s.lane.lo, .int .i64 s.lane.hi, .int .i64 s.bend, .slice O no co] 29) := ⟨_, rfl⟩
  have z0 : w0.heap.size = w.heap.size + 1 := by rw [hw0, World.size_alloc]
  obtain ⟨w1, hw1⟩ : ∃ w1, w1 = w0.alloc (.cells #[.slice D nd cd, .slice V nv cv] 33) := ⟨_, rfl⟩
  have k3 : Blk w1 w.heap.size 29 #[.int .i64 s.head, .slice A n c, .int .i64 s.lane.lo, .int .i64 s.lane.hi, .int .i64 s.bend, .slice O no co] := by rw [hw1, hw0]; exact (Blk.new _ _ _).alloc _
  have k4 : Blk w1 (w.heap.size + 1) 33 #[.slice D nd cd, .slice V nv cv] := by have := Blk.new w0 33 #[.slice D nd cd, .slice V nv cv]; rw [z0, ← hw1] at this; exact this
  have b : Below w.heap.size w w1 := by rw [hw1, hw0]; exact ((Below.refl _ _).alloc (Nat.le_refl _) _).alloc (by simp) _
  replace hs : SlAt w1 0 5 Sec.cells A n c s.secs := by rw [hw1, hw0]; exact (hs.alloc _).alloc _
  replace hl : SlAt w1 0 2 Bnd.cells O no co bs := by rw [hw1, hw0]; exact (hl.alloc _).alloc _
  replace hd : SlAt w1 0 4 Wat.cells D nd cd l := by rw [hw1, hw0]; exact (hd.alloc _).alloc _
  replace hv : SlAt w1 0 1 ivs V nv cv v := by rw [hw1, hw0]; exact (hv.alloc _).alloc _
  rw [hw0] at hw1
  clear hw0 z0
  have h11 := fun W h1 h2 h3 h4 => Watch_any s A O D V n c no co nd cd nv cv bs l v W h1 h2 h3 h4
  have h12 := fun W h1 h2 h3 h4 => RWatch_any s A O D V n c no co nd cd nv cv bs l v W h1 h2 h3 h4
  have h13 := fun W h1 h2 h3 h4 => Keeps_any s A O D V n c no co nd cd nv cv bs l v W h1 h2 h3 h4
  have h14 := fun W h1 h2 h3 h4 => RKeeps_any s A O D V n c no co nd cd nv cv bs l v W h1 h2 h3 h4
  have h15 := fun W h => waters_any D nd cd 0 l W h
  have h16 := fun W h => RWaters_any D nd cd 0 l W h
  generalize watchR s bs l v = r1 at *
  generalize keepsR s bs l v = r2 at *
  generalize chkWats l = r3 at *
  obtain ⟨⟨x1, x2⟩, x3⟩ := r1
  obtain ⟨y1, y2⟩ := r2
  dsimp only at h11 h12 h13 h14
  go_enter Tryz.func3, Tryz.ntmps3
  go_wp2_with fail
  rw [← hw1]
  clear hw1
  refine (h11 _ hs hl hd hv).mono ?_
  rintro e W ⟨rfl, hbel⟩
  replace k3 := k3.below hbel
  replace k4 := k4.below hbel
  replace b := b.trans (hbel.mono b.size)
  replace hs := hs.below hbel
  replace hl := hl.below hbel
  replace hd := hd.below hbel
  replace hv := hv.below hbel
  clear hbel h11
  obtain ⟨c3, f3, l3⟩ := k3.rules
  obtain ⟨c4, f4, l4⟩ := k4.rules
  go_wp2_with fail
  clear c3 f3 l3 c4 f4 l4
  have hbel := (Below.refl W.heap.size W).alloc (Nat.le_refl _) (.cells #[.int .i64 x1, .int .i64 x2] 35)
  have k5 := Blk.new W 35 #[.int .i64 x1, .int .i64 x2]
  replace k3 := k3.below hbel
  replace k4 := k4.below hbel
  replace b := b.trans (hbel.mono b.size)
  replace hs := hs.below hbel
  replace hl := hl.below hbel
  replace hd := hd.below hbel
  replace hv := hv.below hbel
  clear hbel
  generalize W.alloc (.cells #[.int .i64 x1, .int .i64 x2] 35) = W2 at *
  generalize W.heap.size = g5 at *
  refine (h12 _ hs hl hd hv).mono ?_
  rintro e W ⟨rfl, hbel⟩
  replace k3 := k3.below hbel
  replace k4 := k4.below hbel
  replace b := b.trans (hbel.mono b.size)
  replace hs := hs.below hbel
  replace hl := hl.below hbel
  replace hd := hd.below hbel
  replace hv := hv.below hbel
  replace k5 := k5.below hbel
  clear hbel h12
  obtain ⟨c3, f3, l3⟩ := k3.rules
  obtain ⟨c4, f4, l4⟩ := k4.rules
  go_wp2_with fail
  clear c3 f3 l3 c4 f4 l4
  have hbel := (Below.refl W.heap.size W).alloc (Nat.le_refl _) (.cells #[.int .i64 x1, .int .i64 x2] 35)
  have k7 := Blk.new W 35 #[.int .i64 x1, .int .i64 x2]
  replace k3 := k3.below hbel
  replace k4 := k4.below hbel
  replace b := b.trans (hbel.mono b.size)
  replace hs := hs.below hbel
  replace hl := hl.below hbel
  replace hd := hd.below hbel
  replace hv := hv.below hbel
  replace k5 := k5.below hbel
  clear hbel
  generalize W.alloc (.cells #[.int .i64 x1, .int .i64 x2] 35) = W2 at *
  generalize W.heap.size = g7 at *
  refine (h13 _ hs hl hd hv).mono ?_
  rintro e W ⟨rfl, hbel⟩
  replace k3 := k3.below hbel
  replace k4 := k4.below hbel
  replace b := b.trans (hbel.mono b.size)
  replace hs := hs.below hbel
  replace hl := hl.below hbel
  replace hd := hd.below hbel
  replace hv := hv.below hbel
  replace k5 := k5.below hbel
  replace k7 := k7.below hbel
  clear hbel h13
  obtain ⟨c3, f3, l3⟩ := k3.rules
  obtain ⟨c4, f4, l4⟩ := k4.rules
  go_wp2_with fail
  clear c3 f3 l3 c4 f4 l4
  refine (h14 _ hs hl hd hv).mono ?_
  rintro e W ⟨rfl, hbel⟩
  replace k3 := k3.below hbel
  replace k4 := k4.below hbel
  replace b := b.trans (hbel.mono b.size)
  replace hs := hs.below hbel
  replace hl := hl.below hbel
  replace hd := hd.below hbel
  replace hv := hv.below hbel
  replace k5 := k5.below hbel
  replace k7 := k7.below hbel
  clear hbel h14
  go_wp2_with fail
  refine wp_held_np (fun w' : World => (∀ j, w'.cell? ⟨g5, j, none⟩ = #[Value.int .i64 x1, .int .i64 x2][j]?) ∧ (∀ j, w'.cell? ⟨g7, j, none⟩ = #[Value.int .i64 x1, .int .i64 x2][j]?) ∧ (∀ j, w'.cell? ⟨w.heap.size + 1, j, none⟩ = #[Value.slice D nd cd, .slice V nv cv][j]?)) (by kernel_rfl) ?_
  have hbel : Below W.heap.size W W.drew := (Below.refl _ _).drew
  replace k3 := k3.below hbel
  replace k4 := k4.below hbel
  replace b := b.trans (hbel.mono b.size)
  replace hs := hs.below hbel
  replace hl := hl.below hbel
  replace hd := hd.below hbel
  replace hv := hv.below hbel
  replace k5 := k5.below hbel
  replace k7 := k7.below hbel
  clear hbel
  generalize W.drew = wd at *
  have hS : (fun w' : World => (∀ j, w'.cell? ⟨g5, j, none⟩ = #[Value.int .i64 x1, .int .i64 x2][j]?) ∧ (∀ j, w'.cell? ⟨g7, j, none⟩ = #[Value.int .i64 x1, .int .i64 x2][j]?) ∧ (∀ j, w'.cell? ⟨w.heap.size + 1, j, none⟩ = #[Value.slice D nd cd, .slice V nv cv][j]?)) wd := ⟨k5.cell, k7.cell, k4.cell⟩
  refine held_take (i := 0) (v := ?_) 61 rfl rfl (by kernel_rfl) (by kernel_rfl) (by kernel_rfl) (fun _ _ _ h => h) (Or.inl ⟨by rfl, ?_⟩) hS ?_
  rotate_left 1
  · intro w' hSw
    try dsimp only at hSw
    obtain ⟨q1, q2, q3⟩ := hSw
    go_simp
    all_goals with_reducible rfl
  try simp only [Act.put, List.setIfInBounds_toArray, List.set_cons_zero, List.set_cons_succ]
  refine held_take (i := 1) (v := ?_) 62 rfl rfl (by kernel_rfl) (by kernel_rfl) (by kernel_rfl) (fun _ _ _ h => h) (Or.inl ⟨by rfl, ?_⟩) hS ?_
  rotate_left 1
  · intro w' hSw
    try dsimp only at hSw
    obtain ⟨q1, q2, q3⟩ := hSw
    go_simp
    all_goals with_reducible rfl
  try simp only [Act.put, List.setIfInBounds_toArray, List.set_cons_zero, List.set_cons_succ]
  refine held_take (i := 2) (v := ?_) 63 rfl rfl (by kernel_rfl) (by kernel_rfl) (by kernel_rfl) (fun _ _ _ h => h) (Or.inl ⟨by rfl, ?_⟩) hS ?_
  rotate_left 1
  · intro w' hSw
    try dsimp only at hSw
    obtain ⟨q1, q2, q3⟩ := hSw
    go_simp
    all_goals with_reducible rfl
  try simp only [Act.put, List.setIfInBounds_toArray, List.set_cons_zero, List.set_cons_succ]
  refine held_take (i := 3) (v := ?_) 64 rfl rfl (by kernel_rfl) (by kernel_rfl) (by kernel_rfl) (fun _ _ _ h => h) (Or.inl ⟨by rfl, ?_⟩) hS ?_
  rotate_left 1
  · intro w' hSw
    try dsimp only at hSw
    obtain ⟨q1, q2, q3⟩ := hSw
    go_simp
    all_goals with_reducible rfl
  try simp only [Act.put, List.setIfInBounds_toArray, List.set_cons_zero, List.set_cons_succ]
  refine held_take (i := 4) (v := ?_) 65 rfl rfl (by kernel_rfl) (by kernel_rfl) (by kernel_rfl) (fun _ _ _ h => h) (Or.inl ⟨by rfl, ?_⟩) hS ?_
  rotate_left 1
  · intro w' hSw
    try dsimp only at hSw
    obtain ⟨q1, q2, q3⟩ := hSw
    go_simp
    all_goals with_reducible rfl
  try simp only [Act.put, List.setIfInBounds_toArray, List.set_cons_zero, List.set_cons_succ]
  refine held_take (i := 5) (v := ?_) 66 rfl rfl (by kernel_rfl) (by kernel_rfl) (by kernel_rfl) (fun _ _ _ h => h) (Or.inl ⟨by rfl, ?_⟩) hS ?_
  rotate_left 1
  · intro w' hSw
    try dsimp only at hSw
    obtain ⟨q1, q2, q3⟩ := hSw
    go_simp
    all_goals with_reducible rfl
  try simp only [Act.put, List.setIfInBounds_toArray, List.set_cons_zero, List.set_cons_succ]
  refine held_take (i := 6) (v := ?_) 67 rfl rfl (by kernel_rfl) (by kernel_rfl) (by kernel_rfl) (fun _ _ _ h => h) (Or.inl ⟨by rfl, ?_⟩) hS ?_
  rotate_left 1
  · intro w' hSw
    try dsimp only at hSw
    obtain ⟨q1, q2, q3⟩ := hSw
    go_simp
    all_goals with_reducible rfl
  try simp only [Act.put, List.setIfInBounds_toArray, List.set_cons_zero, List.set_cons_succ]
  refine held_take (i := 7) (v := ?_) 68 rfl rfl (by kernel_rfl) (by kernel_rfl) (by kernel_rfl) (fun _ _ _ h => h) (Or.inl ⟨by rfl, ?_⟩) hS ?_
  rotate_left 1
  · intro w' hSw
    try dsimp only at hSw
    obtain ⟨q1, q2, q3⟩ := hSw
    go_simp
    all_goals with_reducible rfl
  try simp only [Act.put, List.setIfInBounds_toArray, List.set_cons_zero, List.set_cons_succ]
  refine held_take (i := 8) (v := ?_) 69 rfl rfl (by kernel_rfl) (by kernel_rfl) (by kernel_rfl) (fun _ _ _ h => h) (Or.inl ⟨by rfl, ?_⟩) hS ?_
  rotate_left 1
  · intro w' hSw
    try dsimp only at hSw
    obtain ⟨q1, q2, q3⟩ := hSw
    go_simp
    all_goals with_reducible rfl
  try simp only [Act.put, List.setIfInBounds_toArray, List.set_cons_zero, List.set_cons_succ]
  refine held_take (i := 9) (v := ?_) 70 rfl rfl (by kernel_rfl) (by kernel_rfl) (by kernel_rfl) (fun _ _ _ h => h) (Or.inl ⟨by rfl, ?_⟩) hS ?_
  rotate_left 1
  · intro w' hSw
    try dsimp only at hSw
    obtain ⟨q1, q2, q3⟩ := hSw
    go_simp
    all_goals with_reducible rfl
  try simp only [Act.put, List.setIfInBounds_toArray, List.set_cons_zero, List.set_cons_succ]
  refine held_take (i := 10) (v := ?_) 71 rfl rfl (by kernel_rfl) (by kernel_rfl) (by kernel_rfl) (fun _ _ _ h => h) (Or.inl ⟨by rfl, ?_⟩) hS ?_
  rotate_left 1
  · intro w' hSw
    try dsimp only at hSw
    obtain ⟨q1, q2, q3⟩ := hSw
    go_simp
    all_goals with_reducible rfl
  try simp only [Act.put, List.setIfInBounds_toArray, List.set_cons_zero, List.set_cons_succ]
  refine held_take (i := 11) (v := ?_) 72 rfl rfl (by kernel_rfl) (by kernel_rfl) (by kernel_rfl) (fun _ _ _ h => h) (Or.inl ⟨by rfl, ?_⟩) hS ?_
  rotate_left 1
  · intro w' hSw
    try dsimp only at hSw
    obtain ⟨q1, q2, q3⟩ := hSw
    go_simp
    all_goals with_reducible rfl
  try simp only [Act.put, List.setIfInBounds_toArray, List.set_cons_zero, List.set_cons_succ]
  refine held_take (i := 12) (v := ?_) 73 rfl rfl (by kernel_rfl) (by kernel_rfl) (by kernel_rfl) (fun _ _ _ h => h) (Or.inl ⟨by rfl, ?_⟩) hS ?_
  rotate_left 1
  · intro w' hSw
    try dsimp only at hSw
    obtain ⟨q1, q2, q3⟩ := hSw
    go_simp
    all_goals with_reducible rfl
  try simp only [Act.put, List.setIfInBounds_toArray, List.set_cons_zero, List.set_cons_succ]
  refine held_take (i := 13) (v := ?_) 74 rfl rfl (by kernel_rfl) (by kernel_rfl) (by kernel_rfl) (fun _ _ _ h => h) (Or.inl ⟨by rfl, ?_⟩) hS ?_
  rotate_left 1
  · intro w' hSw
    try dsimp only at hSw
    obtain ⟨q1, q2, q3⟩ := hSw
    go_simp
    all_goals with_reducible rfl
  try simp only [Act.put, List.setIfInBounds_toArray, List.set_cons_zero, List.set_cons_succ]
  refine held_take (i := 14) (v := ?_) 75 rfl rfl (by kernel_rfl) (by kernel_rfl) (by kernel_rfl) (fun _ _ _ h => h) (Or.inl ⟨by rfl, ?_⟩) hS ?_
  rotate_left 1
  · intro w' hSw
    try dsimp only at hSw
    obtain ⟨q1, q2, q3⟩ := hSw
    go_simp
    all_goals with_reducible rfl
  try simp only [Act.put, List.setIfInBounds_toArray, List.set_cons_zero, List.set_cons_succ]
  refine held_take (i := 15) (v := ?_) 76 rfl rfl (by kernel_rfl) (by kernel_rfl) (by kernel_rfl) (fun _ _ _ h => h) (Or.inl ⟨by rfl, ?_⟩) hS ?_
  rotate_left 1
  · intro w' hSw
    try dsimp only at hSw
    obtain ⟨q1, q2, q3⟩ := hSw
    go_simp
    all_goals with_reducible rfl
  try simp only [Act.put, List.setIfInBounds_toArray, List.set_cons_zero, List.set_cons_succ]
  refine held_take (i := 16) (v := ?_) 77 rfl rfl (by kernel_rfl) (by kernel_rfl) (by kernel_rfl) (fun _ _ _ h => h) (Or.inl ⟨by rfl, ?_⟩) hS ?_
  rotate_left 1
  · intro w' hSw
    try dsimp only at hSw
    obtain ⟨q1, q2, q3⟩ := hSw
    go_simp
    all_goals with_reducible rfl
  try simp only [Act.put, List.setIfInBounds_toArray, List.set_cons_zero, List.set_cons_succ]
  refine held_take (i := 17) (v := ?_) 78 rfl rfl (by kernel_rfl) (by kernel_rfl) (by kernel_rfl) (fun _ _ _ h => h) (Or.inl ⟨by rfl, ?_⟩) hS ?_
  rotate_left 1
  · intro w' hSw
    try dsimp only at hSw
    obtain ⟨q1, q2, q3⟩ := hSw
    go_simp
    all_goals with_reducible rfl
  try simp only [Act.put, List.setIfInBounds_toArray, List.set_cons_zero, List.set_cons_succ]
  refine held_take (i := 18) (v := ?_) 79 rfl rfl (by kernel_rfl) (by kernel_rfl) (by kernel_rfl) (fun _ _ _ h => h) (Or.inl ⟨by rfl, ?_⟩) hS ?_
  rotate_left 1
  · intro w' hSw
    try dsimp only at hSw
    obtain ⟨q1, q2, q3⟩ := hSw
    go_simp
    all_goals with_reducible rfl
  try simp only [Act.put, List.setIfInBounds_toArray, List.set_cons_zero, List.set_cons_succ]
  refine held_take (i := 19) (v := ?_) 80 rfl rfl (by kernel_rfl) (by kernel_rfl) (by kernel_rfl) (fun _ _ _ h => h) (Or.inl ⟨by rfl, ?_⟩) hS ?_
  rotate_left 1
  · intro w' hSw
    try dsimp only at hSw
    obtain ⟨q1, q2, q3⟩ := hSw
    go_simp
    all_goals with_reducible rfl
  try simp only [Act.put, List.setIfInBounds_toArray, List.set_cons_zero, List.set_cons_succ]
  refine held_take (i := 20) (v := ?_) 81 rfl rfl (by kernel_rfl) (by kernel_rfl) (by kernel_rfl) (fun _ _ _ h => h) (Or.inl ⟨by rfl, ?_⟩) hS ?_
  rotate_left 1
  · intro w' hSw
    try dsimp only at hSw
    obtain ⟨q1, q2, q3⟩ := hSw
    go_simp
    all_goals with_reducible rfl
  try simp only [Act.put, List.setIfInBounds_toArray, List.set_cons_zero, List.set_cons_succ]
  refine held_take (i := 22) (v := ?_) 83 rfl rfl (by kernel_rfl) (by kernel_rfl) (by kernel_rfl) (fun _ _ _ h => h) (Or.inl ⟨by rfl, ?_⟩) hS ?_
  rotate_left 1
  · intro w' hSw
    try dsimp only at hSw
    obtain ⟨q1, q2, q3⟩ := hSw
    go_simp
    all_goals with_reducible rfl
  try simp only [Act.put, List.setIfInBounds_toArray, List.set_cons_zero, List.set_cons_succ]
  refine held_take (i := 23) (v := ?_) 84 rfl rfl (by kernel_rfl) (by kernel_rfl) (by kernel_rfl) (fun _ _ _ h => h) (Or.inl ⟨by rfl, ?_⟩) hS ?_
  rotate_left 1
  · intro w' hSw
    try dsimp only at hSw
    obtain ⟨q1, q2, q3⟩ := hSw
    go_simp
    all_goals with_reducible rfl
  try simp only [Act.put, List.setIfInBounds_toArray, List.set_cons_zero, List.set_cons_succ]
  refine held_one (i := 21) (by kernel_rfl) rfl rfl (fun K hK => ?_)
  go_simp
  refine (h15 _ hd).mono ?_
  rintro e W1 ⟨rfl, hbel⟩
  clear hS
  replace k3 := k3.below hbel
  replace k4 := k4.below hbel
  replace b := b.trans (hbel.mono b.size)
  replace hs := hs.below hbel
  replace hl := hl.below hbel
  replace hd := hd.below hbel
  replace hv := hv.below hbel
  replace k5 := k5.below hbel
  replace k7 := k7.below hbel
  clear hbel
  have hS : (fun w' : World => (∀ j, w'.cell? ⟨g5, j, none⟩ = #[Value.int .i64 x1, .int .i64 x2][j]?) ∧ (∀ j, w'.cell? ⟨g7, j, none⟩ = #[Value.int .i64 x1, .int .i64 x2][j]?) ∧ (∀ j, w'.cell? ⟨w.heap.size + 1, j, none⟩ = #[Value.slice D nd cd, .slice V nv cv][j]?)) W1 := ⟨k5.cell, k7.cell, k4.cell⟩
  refine hK _ _ hS ?_
  clear hK K
  try simp only [Act.put, List.setIfInBounds_toArray, List.set_cons_zero, List.set_cons_succ]
  refine held_one (i := 24) (by kernel_rfl) rfl rfl (fun K hK => ?_)
  go_simp
  refine (h16 _ hd).mono ?_
  rintro e W1 ⟨rfl, hbel⟩
  clear hS
  replace k3 := k3.below hbel
  replace k4 := k4.below hbel
  replace b := b.trans (hbel.mono b.size)
  replace hs := hs.below hbel
  replace hl := hl.below hbel
  replace hd := hd.below hbel
  replace hv := hv.below hbel
  replace k5 := k5.below hbel
  replace k7 := k7.below hbel
  clear hbel
  have hS : (fun w' : World => (∀ j, w'.cell? ⟨g5, j, none⟩ = #[Value.int .i64 x1, .int .i64 x2][j]?) ∧ (∀ j, w'.cell? ⟨g7, j, none⟩ = #[Value.int .i64 x1, .int .i64 x2][j]?) ∧ (∀ j, w'.cell? ⟨w.heap.size + 1, j, none⟩ = #[Value.slice D nd cd, .slice V nv cv][j]?)) W1 := ⟨k5.cell, k7.cell, k4.cell⟩
  refine hK _ _ hS ?_
  clear hK K
  try simp only [Act.put, List.setIfInBounds_toArray, List.set_cons_zero, List.set_cons_succ]
  refine held_take (i := 25) (v := ?_) 86 rfl rfl (by kernel_rfl) (by kernel_rfl) (by kernel_rfl) (fun _ _ _ h => h) (Or.inl ⟨by rfl, ?_⟩) hS ?_
  rotate_left 1
  · intro w' hSw
    try dsimp only at hSw
    obtain ⟨q1, q2, q3⟩ := hSw
    go_simp
    all_goals with_reducible rfl
  try simp only [Act.put, List.setIfInBounds_toArray, List.set_cons_zero, List.set_cons_succ]
  refine held_take (i := 26) (v := ?_) 87 rfl rfl (by kernel_rfl) (by kernel_rfl) (by kernel_rfl) (fun _ _ _ h => h) (Or.inl ⟨by rfl, ?_⟩) hS ?_
  rotate_left 1
  · intro w' hSw
    try dsimp only at hSw
    obtain ⟨q1, q2, q3⟩ := hSw
    go_simp
    all_goals with_reducible rfl
  try simp only [Act.put, List.setIfInBounds_toArray, List.set_cons_zero, List.set_cons_succ]
  refine held_take (i := 27) (v := ?_) 88 rfl rfl (by kernel_rfl) (by kernel_rfl) (by kernel_rfl) (fun _ _ _ h => h) (Or.inl ⟨by rfl, ?_⟩) hS ?_
  rotate_left 1
  · intro w' hSw
    try dsimp only at hSw
    obtain ⟨q1, q2, q3⟩ := hSw
    go_simp
    all_goals with_reducible rfl
  try simp only [Act.put, List.setIfInBounds_toArray, List.set_cons_zero, List.set_cons_succ]
  refine held_one (i := 28) (by kernel_rfl) rfl rfl (fun K hK => ?_)
  go_simp
  refine (works_any _).mono ?_
  rintro e W1 ⟨rfl, hbel⟩
  clear hS
  replace k3 := k3.below hbel
  replace k4 := k4.below hbel
  replace b := b.trans (hbel.mono b.size)
  replace hs := hs.below hbel
  replace hl := hl.below hbel
  replace hd := hd.below hbel
  replace hv := hv.below hbel
  replace k5 := k5.below hbel
  replace k7 := k7.below hbel
  clear hbel
  have hS : (fun w' : World => (∀ j, w'.cell? ⟨g5, j, none⟩ = #[Value.int .i64 x1, .int .i64 x2][j]?) ∧ (∀ j, w'.cell? ⟨g7, j, none⟩ = #[Value.int .i64 x1, .int .i64 x2][j]?) ∧ (∀ j, w'.cell? ⟨w.heap.size + 1, j, none⟩ = #[Value.slice D nd cd, .slice V nv cv][j]?)) W1 := ⟨k5.cell, k7.cell, k4.cell⟩
  refine hK _ _ hS ?_
  clear hK K
  try simp only [Act.put, List.setIfInBounds_toArray, List.set_cons_zero, List.set_cons_succ]
  refine held_take (i := 29) (v := ?_) 90 rfl rfl (by kernel_rfl) (by kernel_rfl) (by kernel_rfl) (fun _ _ _ h => h) (Or.inl ⟨by rfl, ?_⟩) hS ?_
  rotate_left 1
  · intro w' hSw
    try dsimp only at hSw
    obtain ⟨q1, q2, q3⟩ := hSw
    go_simp
    all_goals with_reducible rfl
  try simp only [Act.put, List.setIfInBounds_toArray, List.set_cons_zero, List.set_cons_succ]
  refine held_take (i := 30) (v := ?_) 4 rfl rfl (by kernel_rfl) (by kernel_rfl) (by kernel_rfl) (fun _ _ _ h => h) (Or.inl ⟨by rfl, ?_⟩) hS ?_
  rotate_left 1
  · intro w' hSw
    try dsimp only at hSw
    obtain ⟨q1, q2, q3⟩ := hSw
    go_simp
    all_goals with_reducible rfl
  try simp only [Act.put, List.setIfInBounds_toArray, List.set_cons_zero, List.set_cons_succ]
  refine wpAnyH_done (by kernel_rfl) (noPanic_normal ?_) _
  clear hS
  go_wp2
  go_ret
  exact ⟨rfl, b⟩
end Go.Proofs.YtjiaepphnddpoaaGreat
