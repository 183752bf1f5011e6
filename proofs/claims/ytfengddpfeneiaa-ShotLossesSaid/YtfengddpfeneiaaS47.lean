/-
  Shots, walks: what the specification asks of a loss: within, hurts.
-/
import Derived.Test.YtfengddpfeneiaaS30
import Derived.Test.YtfengddpfeneiaaS43
import Derived.Test.YtfengddpfeneiaaI5
namespace Go.Proofs.Ytfengddpfeneiaa
open Go.RowKit Go.Shelf
set_option linter.unusedSimpArgs false
set_option linter.unusedVariables false

set_option maxRecDepth 100000 in
set_option maxHeartbeats 1000000 in
theorem Rwithin_any (A D : Option Addr) (n c m d B B2 : Nat) (xs ys : List Int) (w : World) (hs : SlAt w B 1 ivs A n c xs) (hd : SlAt w B2 1 ivs D m d ys) :
    Calls Try.prog 125 #[.slice A n c, .slice D m d] w fun e w' => e = .returned (.bool (hasAll xs ys)) ∧ w = w' := by
  have hn := hs.le
  have hl := Lib.hid hs.len
  go_enter Try.func125, Try.ntmps125
  go_wp2
  go_loopw [5] (fun i wr => ∃ k : Nat, i = .int .i64 (k : Int) ∧ k ≤ n ∧ hasTo xs ys k ∧ wr = w) (fun i wr => n - (intOf i).toNat)
  case atStart => exact ⟨0, rfl, Nat.zero_le _, by simp [hasTo], rfl⟩
  case round =>
    obtain ⟨k, rfl, hk, hall, hwr⟩ := hrel
    rw [hwr]
    clear hwr wr
    by_cases hlt : k < n
    · obtain ⟨x, hx⟩ := some_of_lt hl.out hlt
      obtain ⟨b, off, hA, -, hbl, c0⟩ := hs.int hx
      have hk0 : (0 : Int) ≤ (k : Int) := by omega
      have hk1 : (k : Int) < (n : Int) := by omega
      have hI := Index_any x D m d B2 ys w hd
      have hix := idx_lt x ys
      generalize idxf (fun z => decide (z = x)) ys 0 = q at *
      subst hA
      cases hc : ys.contains x with
      | true =>
        have hall2 := Lib.hid (hasTo_succ hall hx hc)
        rw [hc] at hix
        have hq : ¬ q < 0 := fun h => by have := hix.1 h; cases this
        replace hx := Lib.hid hx
        replace hc := Lib.hid hc
        clear hix
        go_wp2_with fail
        refine hI.mono ?_
        rintro e w' ⟨rfl, rfl⟩
        clear hI
        go_wp2_with fail
        go_roundw
        case rel => exact ⟨k + 1, by go_num, by omega, hall2.out, by first | rfl | trivial⟩
        case measure => simp [intOf]; omega
      | false =>
        have hno2 := Lib.hid (hasAll_cut hx hc)
        have hq : q < 0 := hix.2 hc
        replace hx := Lib.hid hx
        replace hc := Lib.hid hc
        clear hix
        go_wp2_with fail
        refine hI.mono ?_
        rintro e w' ⟨rfl, rfl⟩
        clear hI
        go_wp2_with fail
        go_ret
        exact ⟨ret_bool hno2.out.symm, rfl⟩
    · obtain rfl : k = n := by omega
      go_wp2
      go_ret
      exact ⟨ret_bool (hasTo_all hall (by rw [hl.out]; exact Nat.le_refl _)).symm, rfl⟩
set_option maxRecDepth 100000 in
set_option maxHeartbeats 4000000 in
theorem Rhurts_any (a : Arr) (ha : okArr a = true) (lim : Int) (loss : List Int) (S G L : Option Addr) (ns cs ng cg nl cl : Nat) (w : World)
    (hS : SlAt w 0 1 ivs S ns cs a.sh) (hG : SlAt w 0 4 Gun.cells G ng cg a.gs) (hL : SlAt w 0 1 ivs L nl cl loss) :
    Calls Try.prog 126 #[.agg #[.slice S ns cs, .slice G ng cg], .slice L nl cl, .int .i64 lim] w fun e w' => e = .returned (.bool (decide (lim < misS a (onL a) loss))) ∧ Below w.heap.size w w' := by
  have hgl := hG.len
  have har := okArr_len ha
  unfold arrLen at har
  rw [hgl] at har
  have hng8 : ng ≤ 1000000 := by omega
  have hmi := fun W D cd h1 h2 h3 h4 => Rmisfit_any a ha (onL a) loss (onL_isDel a) S G D L ns cs ng cg cd nl cl W h1 h2 h3 h4
  have hon : Hid (onL a = List.replicate ng 0) := by show _ = _; unfold onL; rw [hgl]
  obtain ⟨i1, hi1, hy0, hy1, hy2⟩ := info_parts Try.infoInt
  have hc1 := Lib.hid (show i1.bytes * ng ≤ 281474976710656 by rw [hy2]; omega)
  have hd1 := Lib.hid (show ng ≤ maxLen by unfold maxLen; omega)
  obtain ⟨w1, hw1⟩ : ∃ w1, w1 = w.alloc (.cells #[.slice S ns cs, .slice G ng cg] 25) := ⟨_, rfl⟩
  have k3 : Blk w1 w.heap.size 25 #[.slice S ns cs, .slice G ng cg] := by rw [hw1]; exact Blk.new _ _ _
  have b : Below w.heap.size w w1 := by rw [hw1]; exact (Below.refl _ _).alloc (Nat.le_refl _) _
  have hS1 : SlAt w1 0 1 ivs S ns cs a.sh := by rw [hw1]; exact hS.alloc _
  have hG1 : SlAt w1 0 4 Gun.cells G ng cg a.gs := by rw [hw1]; exact hG.alloc _
  have hL1 : SlAt w1 0 1 ivs L nl cl loss := by rw [hw1]; exact hL.alloc _
  clear hS hG hL hgl har
  go_enter Try.func126, Try.ntmps126
  go_wp2_with fail
  rw [← hw1]
  clear hw1
  refine wp_held_np (fun w' : World => (∀ j, w'.cell? ⟨w.heap.size, j, none⟩ = #[Value.slice S ns cs, .slice G ng cg][j]?) ∧ True) (by kernel_rfl) ?_
  have hb := (Below.refl w1.heap.size w1).drew
  replace k3 := k3.below hb
  replace b := b.trans (hb.mono b.size)
  replace hS1 := hS1.below hb
  replace hG1 := hG1.below hb
  replace hL1 := hL1.below hb
  clear hb
  generalize w1.drew = wd at *
  have hSx : (fun w' : World => (∀ j, w'.cell? ⟨w.heap.size, j, none⟩ = #[Value.slice S ns cs, .slice G ng cg][j]?) ∧ True) wd := ⟨k3.cell, trivial⟩
  refine held_take (i := 0) (v := ?_) 7 rfl rfl (by kernel_rfl) (by kernel_rfl) (by kernel_rfl) (fun _ _ _ h => h) (Or.inl ⟨by rfl, ?_⟩) hSx ?_
  rotate_left 1
  · intro w' hSw
    try dsimp only at hSw
    obtain ⟨q1, q2⟩ := hSw
    go_simp
    all_goals with_reducible rfl
  try simp only [Act.put, List.setIfInBounds_toArray, List.set_cons_zero, List.set_cons_succ]
  refine held_take (i := 1) (v := ?_) 8 rfl rfl (by kernel_rfl) (by kernel_rfl) (by kernel_rfl) (fun _ _ _ h => h) (Or.inl ⟨by rfl, ?_⟩) hSx ?_
  rotate_left 1
  · intro w' hSw
    try dsimp only at hSw
    obtain ⟨q1, q2⟩ := hSw
    go_simp
    all_goals with_reducible rfl
  try simp only [Act.put, List.setIfInBounds_toArray, List.set_cons_zero, List.set_cons_succ]
  refine held_take (i := 2) (v := ?_) 9 rfl rfl (by kernel_rfl) (by kernel_rfl) (by kernel_rfl) (fun _ _ _ h => h) (Or.inl ⟨by rfl, ?_⟩) hSx ?_
  rotate_left 1
  · intro w' hSw
    try dsimp only at hSw
    obtain ⟨q1, q2⟩ := hSw
    go_simp
    all_goals with_reducible rfl
  try simp only [Act.put, List.setIfInBounds_toArray, List.set_cons_zero, List.set_cons_succ]
  refine held_take (i := 3) (v := ?_) 10 rfl rfl (by kernel_rfl) (by kernel_rfl) (by kernel_rfl) (fun _ _ _ h => h) (Or.inl ⟨by rfl, ?_⟩) hSx ?_
  rotate_left 1
  · intro w' hSw
    try dsimp only at hSw
    obtain ⟨q1, q2⟩ := hSw
    go_simp
    all_goals with_reducible rfl
  try simp only [Act.put, List.setIfInBounds_toArray, List.set_cons_zero, List.set_cons_succ]
  refine held_take (i := 5) (v := ?_) 12 rfl rfl (by kernel_rfl) (by kernel_rfl) (by kernel_rfl) (fun _ _ _ h => h) (Or.inl ⟨by rfl, ?_⟩) hSx ?_
  rotate_left 1
  · intro w' hSw
    try dsimp only at hSw
    obtain ⟨q1, q2⟩ := hSw
    go_simp
    all_goals with_reducible rfl
  try simp only [Act.put, List.setIfInBounds_toArray, List.set_cons_zero, List.set_cons_succ]
  refine held_take (i := 7) (v := ?_) 14 rfl rfl (by kernel_rfl) (by kernel_rfl) (by kernel_rfl) (fun _ _ _ h => h) (Or.inl ⟨by rfl, ?_⟩) hSx ?_
  rotate_left 1
  · intro w' hSw
    try dsimp only at hSw
    obtain ⟨q1, q2⟩ := hSw
    go_simp
    all_goals with_reducible rfl
  try simp only [Act.put, List.setIfInBounds_toArray, List.set_cons_zero, List.set_cons_succ]
  clear hSx
  refine held_one (i := 4) (by kernel_rfl) rfl rfl (fun K hK => ?_)
  refine wp_make_fullQ wd _ _ 22 rfl wd.heap.size 3 i1 (.int .i64 0) 1 Try.underlying22 hi1 hy0 hy1 _ _ _ _ ng rfl rfl rfl rfl hc1.out hd1.out (Nat.le_refl _) ?_
  intro W2 r8 hgrow
  obtain ⟨O8, co8, e8, hM⟩ := ownsOf r8 (by omega)
  simp only [Value.slice.injEq, true_and] at e8
  obtain ⟨rfl, rfl⟩ := e8
  rw [← hon.out] at hM
  replace hM := hM.mono (Nat.zero_le _)
  have hb := (Below.refl wd.heap.size wd).grown hgrow (Nat.le_refl _) (fun k e => by cases e)
  replace k3 := k3.below hb
  replace b := b.trans (hb.mono b.size)
  replace hS1 := hS1.below hb
  replace hG1 := hG1.below hb
  replace hL1 := hL1.below hb
  clear hb hgrow r8
  refine hK _ _ ⟨k3.cell, trivial⟩ ?_
  clear hK K
  try simp only [Act.put, List.setIfInBounds_toArray, List.set_cons_zero, List.set_cons_succ]
  refine held_one (i := 6) (by kernel_rfl) rfl rfl (fun K hK => ?_)
  go_simp
  refine (hmi _ _ _ hS1 hG1 hM hL1).mono ?_
  rintro e W3 ⟨rfl, hb⟩
  replace k3 := k3.below hb
  replace b := b.trans (hb.mono b.size)
  clear hb hmi hM hS1 hG1 hL1
  generalize hms : misS a (onL a) loss = ms at *
  replace hms := Lib.hid hms
  refine hK _ _ ⟨k3.cell, trivial⟩ ?_
  clear hK K
  try simp only [Act.put, List.setIfInBounds_toArray, List.set_cons_zero, List.set_cons_succ]
  have hSx : (fun w' : World => (∀ j, w'.cell? ⟨w.heap.size, j, none⟩ = #[Value.slice S ns cs, .slice G ng cg][j]?) ∧ True) W3 := ⟨k3.cell, trivial⟩
  refine held_take (i := 8) (v := ?_) 15 rfl rfl (by kernel_rfl) (by kernel_rfl) (by kernel_rfl) (fun _ _ _ h => h) (Or.inl ⟨by rfl, ?_⟩) hSx ?_
  rotate_left 1
  · intro w' hSw
    try dsimp only at hSw
    obtain ⟨q1, q2⟩ := hSw
    go_simp
    all_goals with_reducible rfl
  try simp only [Act.put, List.setIfInBounds_toArray, List.set_cons_zero, List.set_cons_succ]
  refine held_take (i := 9) (v := ?_) 6 rfl rfl (by kernel_rfl) (by kernel_rfl) (by kernel_rfl) (fun _ _ _ h => h) (Or.inl ⟨by rfl, ?_⟩) hSx ?_
  rotate_left 1
  · intro w' hSw
    try dsimp only at hSw
    obtain ⟨q1, q2⟩ := hSw
    go_simp
    all_goals with_reducible rfl
  try simp only [Act.put, List.setIfInBounds_toArray, List.set_cons_zero, List.set_cons_succ]
  refine wpAnyH_done (by kernel_rfl) (noPanic_normal ?_) _
  go_wp2_with fail
  go_ret
  exact ⟨by rw [hms.out]; rfl, b⟩
end Go.Proofs.Ytfengddpfeneiaa
