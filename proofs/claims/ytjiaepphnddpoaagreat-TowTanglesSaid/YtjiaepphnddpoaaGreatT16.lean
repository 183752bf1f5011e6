/-
  Own texts for one claim, joined: R16 R8 N6 R18 R22.
-/
import Derived.Deep.AppendLies
import Derived.WalkMore
import Derived.Maps.Own
import Derived.Maps.Views
import Derived.WideKeyPair
import Derived.Carry
import Derived.Deep.RegionHeld3
import Derived.Deep.RegionWith
import Derived.BigRegionIn
import Derived.Deep.QuietTactic
import Derived.BigQuiet
import Derived.Deep.RegionHeld3
import Derived.StillTailTactics
import Derived.Test.YtjiaepphnddpoaaGreatChecked
import Derived.Shelf.Abstract
import Derived.WalkKit
import Derived.WalkSpells
import Derived.WalkLawsBesides
import Derived.Lib.Hide
import Derived.OrdersHeld
import Derived.StillTail
import Derived.StillTailTactics
import Derived.RangeFuncNested
import Derived.RangeFuncBound
import Derived.RangeFuncCalls
import Derived.RangeFuncLeaves
import Derived.Shelf.Abstract
import Derived.Shelf.RegionOpen
import Derived.OwnWalkIn
import Derived.TacticsInMore
import Derived.LoopNIn
import Derived.LoopIn
import Derived.OrdersIn
import Derived.Deep.Quiet
import Derived.Deep.QuietTactic
import Derived.BigQuiet
import Derived.Deep.AppendLies
import Derived.Deep.QuietTactic
import Derived.LoopN
import Derived.Deep.RegionWith
import Derived.BigQuiet
import Derived.Deep.AppendLies
import Derived.ChangeKeysEq
import Derived.Laws.AppendOwnNone
import Derived.Test.YtjiaepphnddpoaaGreatT01
import Derived.Test.YtjiaepphnddpoaaGreatT02
import Derived.Test.YtjiaepphnddpoaaGreatT03
import Derived.Test.YtjiaepphnddpoaaGreatT04
import Derived.Test.YtjiaepphnddpoaaGreatT05
import Derived.Test.YtjiaepphnddpoaaGreatT06
import Derived.Test.YtjiaepphnddpoaaGreatT07
import Derived.Test.YtjiaepphnddpoaaGreatT08
import Derived.Test.YtjiaepphnddpoaaGreatT09
import Derived.Test.YtjiaepphnddpoaaGreatT10
import Derived.Test.YtjiaepphnddpoaaGreatT11
import Derived.Test.YtjiaepphnddpoaaGreatT12
import Derived.Test.YtjiaepphnddpoaaGreatT13
import Derived.Test.YtjiaepphnddpoaaGreatT14
import Derived.Test.YtjiaepphnddpoaaGreatT15
namespace Go.Proofs.YtjiaepphnddpoaaGreat
open Go.RowKit Go.Shelf
set_option linter.unusedSimpArgs false
set_option linter.unusedVariables false
theorem rootS_of {n r : Int} (h0 : 0 ≤ r) (h1 : r * r ≤ n) (h2 : n < (r + 1) * (r + 1)) : rootS n = r := by
  have hn : 0 ≤ n := by have := Int.mul_nonneg h0 h0; omega
  obtain ⟨a1, a2⟩ := rootS_bd hn
  have a3 := rootS_up hn
  have b1 := lt_of_sq (a := rootS n) (b := r + 1) (by omega) (by omega)
  have b2 := lt_of_sq (a := r) (b := rootS n + 1) (by omega) (by omega)
  omega
set_option maxRecDepth 100000 in
set_option maxHeartbeats 1000000 in
theorem RRoot_any (n : Int) (w : World) (h0 : 0 ≤ n) (h1 : n ≤ 1099511627776) :
    Calls Tryz.prog 129 #[.int .i64 n] w fun e w' => e = .returned (.tuple #[.int .i64 (rootS n), .int .i64 0]) ∧ w = w' := by
  have hb := fun W => Between_any n 0 1099511627776 W
  simp only [decide_eq_true (show 0 ≤ n ∧ n ≤ 1099511627776 from ⟨h0, h1⟩)] at hb
  have hR : Hid (∀ r : Int, 0 ≤ r → r * r ≤ n → n < (r + 1) * (r + 1) → rootS n = r) := fun r => @rootS_of n r
  go_enter Tryz.func129, Tryz.ntmps129
  go_wp2_with fail
  refine (hb _).mono ?_
  rintro e w' ⟨rfl, rfl⟩
  clear hb
  go_wp2_with fail
  go_loopw [4, 5] (fun a b wr => ∃ lo hi : Int, a = .int .i64 lo ∧ b = .int .i64 hi ∧ 0 ≤ lo ∧ lo < hi ∧ hi ≤ 2097152 ∧ lo * lo ≤ n ∧ n < hi * hi ∧ wr = w) (fun a b wr => (intOf b - intOf a).toNat)
  case atStart => exact ⟨0, 2097152, rfl, rfl, by omega, by omega, by omega, by omega, by omega, rfl⟩
  case round =>
    obtain ⟨lo, hi, rfl, rfl, l0, l1, l2, l3, l4, rfl⟩ := hrel
    have u1 := IntWalk.i64_in (hi - lo) (by omega)
    by_cases hlt : 1 < hi - lo
    · have u2 := IntWalk.i64_in (lo + hi) (by omega)
      obtain ⟨s1, s2, -, s4, -⟩ := tdiv_spec (lo + hi) 2 (by omega)
      have s3 := s2 (by omega)
      generalize (lo + hi).tmod 2 = m at *
      obtain ⟨mid, hM⟩ : ∃ mid, (lo + hi).tdiv 2 = mid := ⟨_, rfl⟩
      rw [hM] at s1
      have m1 : lo < mid ∧ mid < hi := by omega
      have m2 := sq_le (show 0 ≤ mid by omega) (show mid ≤ 2097152 by omega)
      have m3 := Int.mul_nonneg (show 0 ≤ mid by omega) (show 0 ≤ mid by omega)
      have u3 := IntWalk.i64_in (mid * mid) (by omega)
      have u4 := IntWalk.i64_in mid (by omega)
      have u5 : IntKind.i64.wrap ((lo + hi).tdiv 2) = mid := by rw [hM]; exact u4
      clear s1 s2 s3 s4 m2 m3
      replace hM := Lib.hid hM
      by_cases hq : mid * mid ≤ n
      · go_wp2_with fail
        go_roundw
        case rel => exact ⟨mid, hi, by first | rfl | rw [hM.out], rfl, by omega, by omega, l2, hq, l4, trivial⟩
        case measure => simp [intOf]; omega
      · go_wp2_with fail
        go_roundw
        case rel => exact ⟨lo, mid, rfl, by first | rfl | rw [hM.out], l0, by omega, by omega, l3, by omega, trivial⟩
        case measure => simp [intOf]; omega
    · obtain rfl : hi = lo + 1 := by omega
      have hv := hR.out lo l0 l3 l4
      replace hv := Lib.hid hv
      go_wp2
      go_ret2
      rw [hv.out]
      exact ⟨rfl, rfl⟩
set_option maxHeartbeats 400000 in
theorem RAllReg_any (w : World) :
    Calls Tryz.prog 130 #[] w fun e w' => e = .returned (.agg (regA allReg)) ∧ Below w.heap.size w w' := by
  simp only [regA, allReg]
  obtain ⟨w1, hw1⟩ : ∃ w1, w1 = ((w.alloc (.cells #[.int .i64 (-32768), .int .i64 32768, .int .i64 (-32768), .int .i64 32768, .int .i64 (-65536), .int .i64 65536, .int .i64 (-65536), .int .i64 65536] 45)).alloc (.cells #[.int .i64 (-32768), .int .i64 32768] 24)).alloc (.cells #[.int .i64 (-65536), .int .i64 65536] 24) := ⟨_, rfl⟩
  have kz : Blk w1 w.heap.size 45 #[.int .i64 (-32768), .int .i64 32768, .int .i64 (-32768), .int .i64 32768, .int .i64 (-65536), .int .i64 65536, .int .i64 (-65536), .int .i64 65536] := by rw [hw1]; exact ((Blk.new _ _ _).alloc _).alloc _
  have hb : Below w.heap.size w w1 := by rw [hw1]; exact (((Below.refl _ _).alloc (Nat.le_refl _) _).alloc (by simp) _).alloc (by simp; omega) _
  go_enter Tryz.func130, Tryz.ntmps130
  go_wp2
  rw [← hw1]
  clear hw1
  obtain ⟨c4, f4, l4⟩ := kz.rules
  exact bodyPost_ret (v := .agg #[.int .i64 (-32768), .int .i64 32768, .int .i64 (-32768), .int .i64 32768, .int .i64 (-65536), .int .i64 65536, .int .i64 (-65536), .int .i64 65536]) (by simp [results, Tryz.results130, go_sem, c4]) rfl ⟨rfl, hb⟩
set_option maxHeartbeats 400000 in
theorem Rplus_any (a c : Bnd) (w : World) (h : -1000000 ≤ a.lo ∧ a.lo ≤ 1000000 ∧ -1000000 ≤ a.hi ∧ a.hi ≤ 1000000 ∧ -1000000 ≤ c.lo ∧ c.lo ≤ 1000000 ∧ -1000000 ≤ c.hi ∧ c.hi ≤ 1000000) :
    Calls Tryz.prog 165 #[.agg #[.int .i64 a.lo, .int .i64 a.hi], .agg #[.int .i64 c.lo, .int .i64 c.hi]] w fun e w' => e = .returned (.agg #[.int .i64 (a.lo + c.lo), .int .i64 (a.hi + c.hi)]) ∧ Below w.heap.size w w' := by
  have u1 := IntWalk.i64_in (a.lo + c.lo) (by omega)
  have u2 := IntWalk.i64_in (a.hi + c.hi) (by omega)
  obtain ⟨w1, hw1⟩ : ∃ w1, w1 = ((w.alloc (.cells #[.int .i64 a.lo, .int .i64 a.hi] 24)).alloc (.cells #[.int .i64 c.lo, .int .i64 c.hi] 24)).alloc (.cells #[.int .i64 (a.lo + c.lo), .int .i64 (a.hi + c.hi)] 24) := ⟨_, rfl⟩
  have kz : Blk w1 (w.heap.size + 1 + 1) 24 #[.int .i64 (a.lo + c.lo), .int .i64 (a.hi + c.hi)] := by rw [hw1]; exact Blk.newAt (by simp)
  have hb : Below w.heap.size w w1 := by rw [hw1]; exact (((Below.refl _ _).alloc (Nat.le_refl _) _).alloc (by simp) _).alloc (by simp; omega) _
  go_enter Tryz.func165, Tryz.ntmps165
  go_wp2
  rw [← hw1]
  clear hw1
  obtain ⟨c4, f4, l4⟩ := kz.rules
  exact bodyPost_ret (v := .agg #[.int .i64 (a.lo + c.lo), .int .i64 (a.hi + c.hi)]) (by simp [results, Tryz.results165, go_sem, c4]) rfl ⟨rfl, hb⟩
set_option maxRecDepth 100000 in
set_option maxHeartbeats 2000000 in
theorem Radded_any (r f : Reg) (w : World) (hr : okReg r = true) (hf : okReg f = true) :
    Calls Tryz.prog 138 #[.agg (regA r), .agg (regA f)] w fun e w' => e = .returned (.agg (regA (zipR plusB r f))) ∧ Below w.heap.size w w' := by
  obtain ⟨⟨x1, x2, x3⟩, ⟨y1, y2, y3⟩, ⟨s1, s2, s3⟩, d1, d2, d3⟩ := okReg_iff.1 hr
  obtain ⟨⟨a1, a2, a3⟩, ⟨b1, b2, b3⟩, ⟨c1, c2, c3⟩, e1, e2, e3⟩ := okReg_iff.1 hf
  clear hr hf
  simp only [regA, zipR, plusB]
  obtain ⟨w1, hw1⟩ : ∃ w1, w1 = ((w.alloc (.cells #[.int .i64 r.x.lo, .int .i64 r.x.hi, .int .i64 r.y.lo, .int .i64 r.y.hi, .int .i64 r.s.lo, .int .i64 r.s.hi, .int .i64 r.d.lo, .int .i64 r.d.hi] 45)).alloc (.cells #[.int .i64 f.x.lo, .int .i64 f.x.hi, .int .i64 f.y.lo, .int .i64 f.y.hi, .int .i64 f.s.lo, .int .i64 f.s.hi, .int .i64 f.d.lo, .int .i64 f.d.hi] 45)).alloc (.cells #[.int .i64 0, .int .i64 0, .int .i64 0, .int .i64 0, .int .i64 0, .int .i64 0, .int .i64 0, .int .i64 0] 45) := ⟨_, rfl⟩
  have k2 : Blk w1 w.heap.size 45 #[.int .i64 r.x.lo, .int .i64 r.x.hi, .int .i64 r.y.lo, .int .i64 r.y.hi, .int .i64 r.s.lo, .int .i64 r.s.hi, .int .i64 r.d.lo, .int .i64 r.d.hi] := by rw [hw1]; exact ((Blk.new _ _ _).alloc _).alloc _
  have k3 : Blk w1 (w.heap.size + 1) 45 #[.int .i64 f.x.lo, .int .i64 f.x.hi, .int .i64 f.y.lo, .int .i64 f.y.hi, .int .i64 f.s.lo, .int .i64 f.s.hi, .int .i64 f.d.lo, .int .i64 f.d.hi] := by rw [hw1]; exact (Blk.newAt (by simp)).alloc _
  have k4 : Blk w1 (w.heap.size + 1 + 1) 45 #[.int .i64 0, .int .i64 0, .int .i64 0, .int .i64 0, .int .i64 0, .int .i64 0, .int .i64 0, .int .i64 0] := by rw [hw1]; exact Blk.newAt (by simp)
  have hb : Below w.heap.size w w1 := by rw [hw1]; exact (((Below.refl _ _).alloc (Nat.le_refl _) _).alloc (by simp) _).alloc (by simp; omega) _
  go_enter Tryz.func138, Tryz.ntmps138
  go_wp2_with fail
  rw [← hw1]
  clear hw1
  refine wp_held_np (fun w' : World => (∀ j, w'.cell? ⟨w.heap.size, j, none⟩ = #[Value.int .i64 r.x.lo, .int .i64 r.x.hi, .int .i64 r.y.lo, .int .i64 r.y.hi, .int .i64 r.s.lo, .int .i64 r.s.hi, .int .i64 r.d.lo, .int .i64 r.d.hi][j]?) ∧ (∀ j, w'.cell? ⟨w.heap.size + 1, j, none⟩ = #[Value.int .i64 f.x.lo, .int .i64 f.x.hi, .int .i64 f.y.lo, .int .i64 f.y.hi, .int .i64 f.s.lo, .int .i64 f.s.hi, .int .i64 f.d.lo, .int .i64 f.d.hi][j]?)) (by kernel_rfl) ?_
  replace k2 := k2.drew
  replace k3 := k3.drew
  replace k4 := k4.drew
  replace hb := hb.drew
  generalize w1.drew = W at *
  have hS : (fun w' : World => (∀ j, w'.cell? ⟨w.heap.size, j, none⟩ = #[Value.int .i64 r.x.lo, .int .i64 r.x.hi, .int .i64 r.y.lo, .int .i64 r.y.hi, .int .i64 r.s.lo, .int .i64 r.s.hi, .int .i64 r.d.lo, .int .i64 r.d.hi][j]?) ∧ (∀ j, w'.cell? ⟨w.heap.size + 1, j, none⟩ = #[Value.int .i64 f.x.lo, .int .i64 f.x.hi, .int .i64 f.y.lo, .int .i64 f.y.hi, .int .i64 f.s.lo, .int .i64 f.s.hi, .int .i64 f.d.lo, .int .i64 f.d.hi][j]?)) W := ⟨k2.cell, k3.cell⟩
  refine held_take (i := 0) (v := ?_) 5 rfl rfl (by kernel_rfl) (by kernel_rfl) (by kernel_rfl) (fun _ _ _ h => h) (Or.inl ⟨by rfl, ?_⟩) hS ?_
  rotate_left 1
  · intro w' hSw
    try dsimp only at hSw
    obtain ⟨q1, q2⟩ := hSw
    go_simp
    all_goals with_reducible rfl
  try simp only [Act.put, List.setIfInBounds_toArray, List.set_cons_zero, List.set_cons_succ]
  refine held_take (i := 1) (v := ?_) 6 rfl rfl (by kernel_rfl) (by kernel_rfl) (by kernel_rfl) (fun _ _ _ h => h) (Or.inl ⟨by rfl, ?_⟩) hS ?_
  rotate_left 1
  · intro w' hSw
    try dsimp only at hSw
    obtain ⟨q1, q2⟩ := hSw
    go_simp
    all_goals with_reducible rfl
  try simp only [Act.put, List.setIfInBounds_toArray, List.set_cons_zero, List.set_cons_succ]
  refine held_take (i := 2) (v := ?_) 7 rfl rfl (by kernel_rfl) (by kernel_rfl) (by kernel_rfl) (fun _ _ _ h => h) (Or.inl ⟨by rfl, ?_⟩) hS ?_
  rotate_left 1
  · intro w' hSw
    try dsimp only at hSw
    obtain ⟨q1, q2⟩ := hSw
    go_simp
    all_goals with_reducible rfl
  try simp only [Act.put, List.setIfInBounds_toArray, List.set_cons_zero, List.set_cons_succ]
  refine held_take (i := 3) (v := ?_) 8 rfl rfl (by kernel_rfl) (by kernel_rfl) (by kernel_rfl) (fun _ _ _ h => h) (Or.inl ⟨by rfl, ?_⟩) hS ?_
  rotate_left 1
  · intro w' hSw
    try dsimp only at hSw
    obtain ⟨q1, q2⟩ := hSw
    go_simp
    all_goals with_reducible rfl
  try simp only [Act.put, List.setIfInBounds_toArray, List.set_cons_zero, List.set_cons_succ]
  refine held_take (i := 5) (v := ?_) 10 rfl rfl (by kernel_rfl) (by kernel_rfl) (by kernel_rfl) (fun _ _ _ h => h) (Or.inl ⟨by rfl, ?_⟩) hS ?_
  rotate_left 1
  · intro w' hSw
    try dsimp only at hSw
    obtain ⟨q1, q2⟩ := hSw
    go_simp
    all_goals with_reducible rfl
  try simp only [Act.put, List.setIfInBounds_toArray, List.set_cons_zero, List.set_cons_succ]
  refine held_take (i := 6) (v := ?_) 11 rfl rfl (by kernel_rfl) (by kernel_rfl) (by kernel_rfl) (fun _ _ _ h => h) (Or.inl ⟨by rfl, ?_⟩) hS ?_
  rotate_left 1
  · intro w' hSw
    try dsimp only at hSw
    obtain ⟨q1, q2⟩ := hSw
    go_simp
    all_goals with_reducible rfl
  try simp only [Act.put, List.setIfInBounds_toArray, List.set_cons_zero, List.set_cons_succ]
  refine held_take (i := 7) (v := ?_) 12 rfl rfl (by kernel_rfl) (by kernel_rfl) (by kernel_rfl) (fun _ _ _ h => h) (Or.inl ⟨by rfl, ?_⟩) hS ?_
  rotate_left 1
  · intro w' hSw
    try dsimp only at hSw
    obtain ⟨q1, q2⟩ := hSw
    go_simp
    all_goals with_reducible rfl
  try simp only [Act.put, List.setIfInBounds_toArray, List.set_cons_zero, List.set_cons_succ]
  refine held_take (i := 8) (v := ?_) 13 rfl rfl (by kernel_rfl) (by kernel_rfl) (by kernel_rfl) (fun _ _ _ h => h) (Or.inl ⟨by rfl, ?_⟩) hS ?_
  rotate_left 1
  · intro w' hSw
    try dsimp only at hSw
    obtain ⟨q1, q2⟩ := hSw
    go_simp
    all_goals with_reducible rfl
  try simp only [Act.put, List.setIfInBounds_toArray, List.set_cons_zero, List.set_cons_succ]
  refine held_take (i := 10) (v := ?_) 15 rfl rfl (by kernel_rfl) (by kernel_rfl) (by kernel_rfl) (fun _ _ _ h => h) (Or.inl ⟨by rfl, ?_⟩) hS ?_
  rotate_left 1
  · intro w' hSw
    try dsimp only at hSw
    obtain ⟨q1, q2⟩ := hSw
    go_simp
    all_goals with_reducible rfl
  try simp only [Act.put, List.setIfInBounds_toArray, List.set_cons_zero, List.set_cons_succ]
  refine held_take (i := 11) (v := ?_) 16 rfl rfl (by kernel_rfl) (by kernel_rfl) (by kernel_rfl) (fun _ _ _ h => h) (Or.inl ⟨by rfl, ?_⟩) hS ?_
  rotate_left 1
  · intro w' hSw
    try dsimp only at hSw
    obtain ⟨q1, q2⟩ := hSw
    go_simp
    all_goals with_reducible rfl
  try simp only [Act.put, List.setIfInBounds_toArray, List.set_cons_zero, List.set_cons_succ]
  refine held_take (i := 12) (v := ?_) 17 rfl rfl (by kernel_rfl) (by kernel_rfl) (by kernel_rfl) (fun _ _ _ h => h) (Or.inl ⟨by rfl, ?_⟩) hS ?_
  rotate_left 1
  · intro w' hSw
    try dsimp only at hSw
    obtain ⟨q1, q2⟩ := hSw
    go_simp
    all_goals with_reducible rfl
  try simp only [Act.put, List.setIfInBounds_toArray, List.set_cons_zero, List.set_cons_succ]
  refine held_take (i := 13) (v := ?_) 18 rfl rfl (by kernel_rfl) (by kernel_rfl) (by kernel_rfl) (fun _ _ _ h => h) (Or.inl ⟨by rfl, ?_⟩) hS ?_
  rotate_left 1
  · intro w' hSw
    try dsimp only at hSw
    obtain ⟨q1, q2⟩ := hSw
    go_simp
    all_goals with_reducible rfl
  try simp only [Act.put, List.setIfInBounds_toArray, List.set_cons_zero, List.set_cons_succ]
  refine held_take (i := 15) (v := ?_) 20 rfl rfl (by kernel_rfl) (by kernel_rfl) (by kernel_rfl) (fun _ _ _ h => h) (Or.inl ⟨by rfl, ?_⟩) hS ?_
  rotate_left 1
  · intro w' hSw
    try dsimp only at hSw
    obtain ⟨q1, q2⟩ := hSw
    go_simp
    all_goals with_reducible rfl
  try simp only [Act.put, List.setIfInBounds_toArray, List.set_cons_zero, List.set_cons_succ]
  refine held_take (i := 16) (v := ?_) 21 rfl rfl (by kernel_rfl) (by kernel_rfl) (by kernel_rfl) (fun _ _ _ h => h) (Or.inl ⟨by rfl, ?_⟩) hS ?_
  rotate_left 1
  · intro w' hSw
    try dsimp only at hSw
    obtain ⟨q1, q2⟩ := hSw
    go_simp
    all_goals with_reducible rfl
  try simp only [Act.put, List.setIfInBounds_toArray, List.set_cons_zero, List.set_cons_succ]
  refine held_take (i := 17) (v := ?_) 22 rfl rfl (by kernel_rfl) (by kernel_rfl) (by kernel_rfl) (fun _ _ _ h => h) (Or.inl ⟨by rfl, ?_⟩) hS ?_
  rotate_left 1
  · intro w' hSw
    try dsimp only at hSw
    obtain ⟨q1, q2⟩ := hSw
    go_simp
    all_goals with_reducible rfl
  try simp only [Act.put, List.setIfInBounds_toArray, List.set_cons_zero, List.set_cons_succ]
  refine held_take (i := 18) (v := ?_) 23 rfl rfl (by kernel_rfl) (by kernel_rfl) (by kernel_rfl) (fun _ _ _ h => h) (Or.inl ⟨by rfl, ?_⟩) hS ?_
  rotate_left 1
  · intro w' hSw
    try dsimp only at hSw
    obtain ⟨q1, q2⟩ := hSw
    go_simp
    all_goals with_reducible rfl
  try simp only [Act.put, List.setIfInBounds_toArray, List.set_cons_zero, List.set_cons_succ]
  refine held_one (i := 4) (by kernel_rfl) rfl rfl (fun K hK => ?_)
  go_simp
  refine (Rplus_any r.x f.x _ (by omega)).mono ?_
  rintro e W1 ⟨rfl, hbel⟩
  clear hS
  replace k2 := k2.below hbel
  replace k3 := k3.below hbel
  replace k4 := k4.below hbel
  replace hb := hb.trans (hbel.mono hb.size)
  clear hbel
  have hS : (fun w' : World => (∀ j, w'.cell? ⟨w.heap.size, j, none⟩ = #[Value.int .i64 r.x.lo, .int .i64 r.x.hi, .int .i64 r.y.lo, .int .i64 r.y.hi, .int .i64 r.s.lo, .int .i64 r.s.hi, .int .i64 r.d.lo, .int .i64 r.d.hi][j]?) ∧ (∀ j, w'.cell? ⟨w.heap.size + 1, j, none⟩ = #[Value.int .i64 f.x.lo, .int .i64 f.x.hi, .int .i64 f.y.lo, .int .i64 f.y.hi, .int .i64 f.s.lo, .int .i64 f.s.hi, .int .i64 f.d.lo, .int .i64 f.d.hi][j]?)) W1 := ⟨k2.cell, k3.cell⟩
  refine hK _ _ hS ?_
  clear hK K
  try simp only [Act.put, List.setIfInBounds_toArray, List.set_cons_zero, List.set_cons_succ]
  refine held_one (i := 9) (by kernel_rfl) rfl rfl (fun K hK => ?_)
  go_simp
  refine (Rplus_any r.y f.y _ (by omega)).mono ?_
  rintro e W1 ⟨rfl, hbel⟩
  clear hS
  replace k2 := k2.below hbel
  replace k3 := k3.below hbel
  replace k4 := k4.below hbel
  replace hb := hb.trans (hbel.mono hb.size)
  clear hbel
  have hS : (fun w' : World => (∀ j, w'.cell? ⟨w.heap.size, j, none⟩ = #[Value.int .i64 r.x.lo, .int .i64 r.x.hi, .int .i64 r.y.lo, .int .i64 r.y.hi, .int .i64 r.s.lo, .int .i64 r.s.hi, .int .i64 r.d.lo, .int .i64 r.d.hi][j]?) ∧ (∀ j, w'.cell? ⟨w.heap.size + 1, j, none⟩ = #[Value.int .i64 f.x.lo, .int .i64 f.x.hi, .int .i64 f.y.lo, .int .i64 f.y.hi, .int .i64 f.s.lo, .int .i64 f.s.hi, .int .i64 f.d.lo, .int .i64 f.d.hi][j]?)) W1 := ⟨k2.cell, k3.cell⟩
  refine hK _ _ hS ?_
  clear hK K
  try simp only [Act.put, List.setIfInBounds_toArray, List.set_cons_zero, List.set_cons_succ]
  refine held_one (i := 14) (by kernel_rfl) rfl rfl (fun K hK => ?_)
  go_simp
  refine (Rplus_any r.s f.s _ (by omega)).mono ?_
  rintro e W1 ⟨rfl, hbel⟩
  clear hS
  replace k2 := k2.below hbel
  replace k3 := k3.below hbel
  replace k4 := k4.below hbel
  replace hb := hb.trans (hbel.mono hb.size)
  clear hbel
  have hS : (fun w' : World => (∀ j, w'.cell? ⟨w.heap.size, j, none⟩ = #[Value.int .i64 r.x.lo, .int .i64 r.x.hi, .int .i64 r.y.lo, .int .i64 r.y.hi, .int .i64 r.s.lo, .int .i64 r.s.hi, .int .i64 r.d.lo, .int .i64 r.d.hi][j]?) ∧ (∀ j, w'.cell? ⟨w.heap.size + 1, j, none⟩ = #[Value.int .i64 f.x.lo, .int .i64 f.x.hi, .int .i64 f.y.lo, .int .i64 f.y.hi, .int .i64 f.s.lo, .int .i64 f.s.hi, .int .i64 f.d.lo, .int .i64 f.d.hi][j]?)) W1 := ⟨k2.cell, k3.cell⟩
  refine hK _ _ hS ?_
  clear hK K
  try simp only [Act.put, List.setIfInBounds_toArray, List.set_cons_zero, List.set_cons_succ]
  refine held_one (i := 19) (by kernel_rfl) rfl rfl (fun K hK => ?_)
  go_simp
  refine (Rplus_any r.d f.d _ (by omega)).mono ?_
  rintro e W1 ⟨rfl, hbel⟩
  clear hS
  replace k2 := k2.below hbel
  replace k3 := k3.below hbel
  replace k4 := k4.below hbel
  replace hb := hb.trans (hbel.mono hb.size)
  clear hbel
  have hS : (fun w' : World => (∀ j, w'.cell? ⟨w.heap.size, j, none⟩ = #[Value.int .i64 r.x.lo, .int .i64 r.x.hi, .int .i64 r.y.lo, .int .i64 r.y.hi, .int .i64 r.s.lo, .int .i64 r.s.hi, .int .i64 r.d.lo, .int .i64 r.d.hi][j]?) ∧ (∀ j, w'.cell? ⟨w.heap.size + 1, j, none⟩ = #[Value.int .i64 f.x.lo, .int .i64 f.x.hi, .int .i64 f.y.lo, .int .i64 f.y.hi, .int .i64 f.s.lo, .int .i64 f.s.hi, .int .i64 f.d.lo, .int .i64 f.d.hi][j]?)) W1 := ⟨k2.cell, k3.cell⟩
  refine hK _ _ hS ?_
  clear hK K
  try simp only [Act.put, List.setIfInBounds_toArray, List.set_cons_zero, List.set_cons_succ]
  refine held_take (i := 20) (v := ?_) 25 rfl rfl (by kernel_rfl) (by kernel_rfl) (by kernel_rfl) (fun _ _ _ h => h) (Or.inl ⟨by rfl, ?_⟩) hS ?_
  rotate_left 1
  · intro w' hSw
    try dsimp only at hSw
    obtain ⟨q1, q2⟩ := hSw
    go_simp
    all_goals with_reducible rfl
  try simp only [Act.put, List.setIfInBounds_toArray, List.set_cons_zero, List.set_cons_succ]
  have kz := k4.set8 (.int .i64 (r.x.lo + f.x.lo)) (.int .i64 (r.x.hi + f.x.hi)) (.int .i64 (r.y.lo + f.y.lo)) (.int .i64 (r.y.hi + f.y.hi)) (.int .i64 (r.s.lo + f.s.lo)) (.int .i64 (r.s.hi + f.s.hi)) (.int .i64 (r.d.lo + f.d.lo)) (.int .i64 (r.d.hi + f.d.hi))
  have k2z := far_set8 k2 (g := w.heap.size + 1 + 1) (by omega) (.int .i64 (r.x.lo + f.x.lo)) (.int .i64 (r.x.hi + f.x.hi)) (.int .i64 (r.y.lo + f.y.lo)) (.int .i64 (r.y.hi + f.y.hi)) (.int .i64 (r.s.lo + f.s.lo)) (.int .i64 (r.s.hi + f.s.hi)) (.int .i64 (r.d.lo + f.d.lo)) (.int .i64 (r.d.hi + f.d.hi))
  have k3z := far_set8 k3 (g := w.heap.size + 1 + 1) (by omega) (.int .i64 (r.x.lo + f.x.lo)) (.int .i64 (r.x.hi + f.x.hi)) (.int .i64 (r.y.lo + f.y.lo)) (.int .i64 (r.y.hi + f.y.hi)) (.int .i64 (r.s.lo + f.s.lo)) (.int .i64 (r.s.hi + f.s.hi)) (.int .i64 (r.d.lo + f.d.lo)) (.int .i64 (r.d.hi + f.d.hi))
  have bz := below_set8 (g := w.heap.size + 1 + 1) hb (by omega) (.int .i64 (r.x.lo + f.x.lo)) (.int .i64 (r.x.hi + f.x.hi)) (.int .i64 (r.y.lo + f.y.lo)) (.int .i64 (r.y.hi + f.y.hi)) (.int .i64 (r.s.lo + f.s.lo)) (.int .i64 (r.s.hi + f.s.hi)) (.int .i64 (r.d.lo + f.d.lo)) (.int .i64 (r.d.hi + f.d.hi))
  obtain ⟨wz, hwz⟩ : ∃ x, x = set8 W1 (w.heap.size + 1 + 1) (.int .i64 (r.x.lo + f.x.lo)) (.int .i64 (r.x.hi + f.x.hi)) (.int .i64 (r.y.lo + f.y.lo)) (.int .i64 (r.y.hi + f.y.hi)) (.int .i64 (r.s.lo + f.s.lo)) (.int .i64 (r.s.hi + f.s.hi)) (.int .i64 (r.d.lo + f.d.lo)) (.int .i64 (r.d.hi + f.d.hi)) := ⟨_, rfl⟩
  rw [← hwz] at kz k2z k3z bz
  simp only [set8] at hwz
  obtain ⟨c4, f4, l4⟩ := k4.rules
  refine held_one (i := 21) (by kernel_rfl) rfl rfl (fun K hK => ?_)
  go_simp
  rw [← hwz]
  clear hwz c4 f4 l4 hS
  have hS : (fun w' : World => (∀ j, w'.cell? ⟨w.heap.size, j, none⟩ = #[Value.int .i64 r.x.lo, .int .i64 r.x.hi, .int .i64 r.y.lo, .int .i64 r.y.hi, .int .i64 r.s.lo, .int .i64 r.s.hi, .int .i64 r.d.lo, .int .i64 r.d.hi][j]?) ∧ (∀ j, w'.cell? ⟨w.heap.size + 1, j, none⟩ = #[Value.int .i64 f.x.lo, .int .i64 f.x.hi, .int .i64 f.y.lo, .int .i64 f.y.hi, .int .i64 f.s.lo, .int .i64 f.s.hi, .int .i64 f.d.lo, .int .i64 f.d.hi][j]?)) wz := ⟨k2z.cell, k3z.cell⟩
  refine hK _ _ hS ?_
  clear hK K
  refine wpAnyH_done (by kernel_rfl) (noPanic_normal ?_) _
  clear hS
  go_wp2
  obtain ⟨c4, f4, l4⟩ := kz.rules
  exact bodyPost_ret (v := .agg #[.int .i64 (r.x.lo + f.x.lo), .int .i64 (r.x.hi + f.x.hi), .int .i64 (r.y.lo + f.y.lo), .int .i64 (r.y.hi + f.y.hi), .int .i64 (r.s.lo + f.s.lo), .int .i64 (r.s.hi + f.s.hi), .int .i64 (r.d.lo + f.d.lo), .int .i64 (r.d.hi + f.d.hi)]) (by simp [results, Tryz.results138, go_sem, c4]) rfl ⟨rfl, bz⟩
end Go.Proofs.YtjiaepphnddpoaaGreat
namespace Go.Proofs.YtjiaepphnddpoaaGreat
open Go.RowKit Go.Shelf
set_option linter.unusedSimpArgs false
set_option linter.unusedVariables false
end Go.Proofs.YtjiaepphnddpoaaGreat
namespace Go.Proofs.YtjiaepphnddpoaaGreat
open Go.RowKit Go.Shelf
set_option linter.unusedSimpArgs false
set_option linter.unusedVariables false
set_option maxRecDepth 100000 in
set_option maxHeartbeats 4000000 in
theorem Rbends_any (s : Strm) (A O : Option Addr) (n c co B : Nat) (l : List Bnd) (w : World) (ho : okStrm s = true) (hl : okOffs s l = true) (hs : SlAt w B 2 Bnd.cells O n co l) :
    Calls Tryz.prog 128 #[.agg #[.int .i64 s.head, .slice A n c, .int .i64 s.lane.lo, .int .i64 s.lane.hi, .int .i64 s.bend], .slice O n co] w fun e w' => ∃ P pc, e = .returned (.slice P n pc) ∧ SlAt w' w.heap.size 2 Bnd.cells P n pc (bendL s l) ∧ Below w.heap.size w w' := by
  have hh := ok_head ho
  unfold headOk at hh
  have hln := Lib.hid hs.len
  have hn8 : n ≤ 8 := by have := okOffs_len hl; have := hln.out; omega
  have hEl : Hid ((bendL s l).length = n) := by show _ = _; unfold bendL; rw [eachL_length, hln.out]
  obtain ⟨h1, h2, -⟩ := hh
  replace hl := Lib.hid hl
  clear ho
  go_enter Tryz.func128, Tryz.ntmps128
  go_wp2_with fail
  go_loopw [5, 7] (fun v i wr => ∃ k : Nat, i = .int .i64 k ∧ k ≤ n ∧ Blk wr (w.heap.size + 1) 24 #[.int .i64 (prev (still s.head) l k).lo, .int .i64 (prev (still s.head) l k).hi] ∧ wr.ownsRow (w.heap.size + 2) 24 2 v k (((bendL s l).take k).flatMap Bnd.cells) ∧ Below w.heap.size w wr ∧ w.heap.size + 2 ≤ wr.heap.size) (fun v i wr => n - (intOf i).toNat)
  case atStart =>
    refine ⟨0, rfl, Nat.zero_le _, ?_, ⟨rfl, .inl ⟨rfl, rfl⟩⟩, ((Below.refl _ _).alloc (Nat.le_refl _) _).alloc (by simp) _, by simp⟩
    have := Blk.new (w.alloc (.cells #[.int .i64 s.head, .slice A n c, .int .i64 s.lane.lo, .int .i64 s.lane.hi, .int .i64 s.bend] 26)) 24 #[.int .i64 s.head, .int .i64 s.head]
    rw [World.size_alloc] at this
    exact this
  case round =>
    obtain ⟨k, rfl, hk, k6, hown, hb, hsz⟩ := hrel
    by_cases hlt : k < n
    · have hlk : k < l.length := by rw [hln.out]; exact hlt
      have hget := eachL_get (fun _ own bef => bendB own bef) (still s.head) l hlk
      obtain ⟨bO, oO, hA, -, hbl0, e0, e1⟩ := hs.bnd (getD_get (l := l) (still s.head) hlk)
      replace e0 := (hb.cell (p := ⟨bO, oO + k * 2, none⟩) hbl0).trans e0
      replace e1 := (hb.cell (p := ⟨bO, oO + k * 2 + 1, none⟩) hbl0).trans e1
      have hxb := okOffs_get hl.out (List.mem_of_getElem? (getD_get (l := l) (still s.head) hlk))
      have hyb : -16384 ≤ (prev (still s.head) l k).lo ∧ (prev (still s.head) l k).lo ≤ (prev (still s.head) l k).hi ∧ (prev (still s.head) l k).hi ≤ 16384 := by
        cases k with
        | zero => show -16384 ≤ s.head ∧ s.head ≤ s.head ∧ s.head ≤ 16384; omega
        | succ q => exact okOffs_get hl.out (List.mem_of_getElem? (getD_get (l := l) (still s.head) (show q < l.length by omega)))
      have hpk : Hid (prev (still s.head) l (k + 1) = l.getD k (still s.head)) := rfl
      generalize l.getD k (still s.head) = x at *
      generalize prev (still s.head) l k = y at *
      have hnx : Hid (((bendL s l).take (k + 1)).flatMap Bnd.cells = ((bendL s l).take k).flatMap Bnd.cells ++ [.int .i64 (max 0 (max (x.lo - y.hi) (-(x.hi - y.lo)))), .int .i64 (max (x.hi - y.lo) (-(x.lo - y.hi)))]) := by
        show _ = _
        have hg : (bendL s l)[k]? = some (bendB x y) := hget
        rw [List.take_add_one, hg]
        have q1 : max (max 0 (x.lo - y.hi)) (y.lo - x.hi) = max 0 (max (x.lo - y.hi) (-(x.hi - y.lo))) := by omega
        have q2 : max (x.hi - y.lo) (y.hi - x.lo) = max (x.hi - y.lo) (-(x.lo - y.hi)) := by omega
        simp only [List.flatMap_append, Option.toList, List.flatMap_cons, List.flatMap_nil, List.append_nil, Bnd.cells, bendB, q1, q2]
      clear hget
      have u1 := IntWalk.i64_in (x.lo - y.hi) (by omega)
      have u2 := IntWalk.i64_in (x.hi - y.lo) (by omega)
      have hk0 : (0 : Int) ≤ (k : Int) := by omega
      have hk1 : (k : Int) < (n : Int) := by omega
      subst hA
      go_wp2_with fail
      refine wp_held_np (fun w' : World => w'.cell? ⟨bO, oO + k * 2, none⟩ = some (.int .i64 x.lo) ∧ w'.cell? ⟨bO, oO + k * 2 + 1, none⟩ = some (.int .i64 x.hi) ∧ (∀ j, w'.cell? ⟨w.heap.size + 1, j, none⟩ = #[Value.int .i64 y.lo, .int .i64 y.hi][j]?)) (by kernel_rfl) ?_
      replace k6 := k6.drew
      replace hown : wr.drew.ownsRow _ _ _ _ _ _ := hown
      replace hb := hb.drew
      have hS : (fun w' : World => w'.cell? ⟨bO, oO + k * 2, none⟩ = some (.int .i64 x.lo) ∧ w'.cell? ⟨bO, oO + k * 2 + 1, none⟩ = some (.int .i64 x.hi) ∧ (∀ j, w'.cell? ⟨w.heap.size + 1, j, none⟩ = #[Value.int .i64 y.lo, .int .i64 y.hi][j]?)) wr.drew := ⟨e0, e1, k6.cell⟩
      replace hsz : w.heap.size + 2 ≤ wr.drew.heap.size := hsz
      generalize wr.drew = wd at *
      refine held_take (i := 0) (v := ?_) 21 rfl rfl (by kernel_rfl) (by kernel_rfl) (by kernel_rfl) (fun _ _ _ h => h) (Or.inl ⟨by rfl, ?_⟩) hS ?_
      rotate_left 1
      · intro w' hSw
        try dsimp only at hSw
        obtain ⟨q1, q2, q3⟩ := hSw
        go_simp
        all_goals with_reducible rfl
      try simp only [Act.put, List.setIfInBounds_toArray, List.set_cons_zero, List.set_cons_succ]
      refine held_take (i := 1) (v := ?_) 22 rfl rfl (by kernel_rfl) (by kernel_rfl) (by kernel_rfl) (fun _ _ _ h => h) (Or.inl ⟨by rfl, ?_⟩) hS ?_
      rotate_left 1
      · intro w' hSw
        try dsimp only at hSw
        obtain ⟨q1, q2, q3⟩ := hSw
        go_simp
        all_goals with_reducible rfl
      try simp only [Act.put, List.setIfInBounds_toArray, List.set_cons_zero, List.set_cons_succ]
      refine held_take (i := 2) (v := ?_) 23 rfl rfl (by kernel_rfl) (by kernel_rfl) (by kernel_rfl) (fun _ _ _ h => h) (Or.inl ⟨by rfl, ?_⟩) hS ?_
      rotate_left 1
      · intro w' hSw
        try dsimp only at hSw
        obtain ⟨q1, q2, q3⟩ := hSw
        go_simp
        all_goals with_reducible rfl
      try simp only [Act.put, List.setIfInBounds_toArray, List.set_cons_zero, List.set_cons_succ]
      refine held_take (i := 3) (v := ?_) 24 rfl rfl (by kernel_rfl) (by kernel_rfl) (by kernel_rfl) (fun _ _ _ h => h) (Or.inl ⟨by rfl, ?_⟩) hS ?_
      rotate_left 1
      · intro w' hSw
        try dsimp only at hSw
        obtain ⟨q1, q2, q3⟩ := hSw
        go_simp
        all_goals with_reducible rfl
      try simp only [Act.put, List.setIfInBounds_toArray, List.set_cons_zero, List.set_cons_succ]
      refine held_take (i := 4) (v := ?_) 25 rfl rfl (by kernel_rfl) (by kernel_rfl) (by kernel_rfl) (fun _ _ _ h => h) (Or.inl ⟨by rfl, ?_⟩) hS ?_
      rotate_left 1
      · intro w' hSw
        try dsimp only at hSw
        obtain ⟨q1, q2, q3⟩ := hSw
        go_simp
        all_goals with_reducible rfl
      try simp only [Act.put, List.setIfInBounds_toArray, List.set_cons_zero, List.set_cons_succ]
      refine held_take (i := 5) (v := ?_) 26 rfl rfl (by kernel_rfl) (by kernel_rfl) (by kernel_rfl) (fun _ _ _ h => h) (Or.inl ⟨by rfl, ?_⟩) hS ?_
      rotate_left 1
      · intro w' hSw
        try dsimp only at hSw
        obtain ⟨q1, q2, q3⟩ := hSw
        go_simp
        all_goals with_reducible rfl
      try simp only [Act.put, List.setIfInBounds_toArray, List.set_cons_zero, List.set_cons_succ]
      refine held_take (i := 6) (v := ?_) 27 rfl rfl (by kernel_rfl) (by kernel_rfl) (by kernel_rfl) (fun _ _ _ h => h) (Or.inl ⟨by rfl, ?_⟩) hS ?_
      rotate_left 1
      · intro w' hSw
        try dsimp only at hSw
        obtain ⟨q1, q2, q3⟩ := hSw
        go_simp
        all_goals with_reducible rfl
      try simp only [Act.put, List.setIfInBounds_toArray, List.set_cons_zero, List.set_cons_succ]
      refine held_take (i := 7) (v := ?_) 28 rfl rfl (by kernel_rfl) (by kernel_rfl) (by kernel_rfl) (fun _ _ _ h => h) (Or.inl ⟨by rfl, ?_⟩) hS ?_
      rotate_left 1
      · intro w' hSw
        try dsimp only at hSw
        obtain ⟨q1, q2, q3⟩ := hSw
        go_simp
        all_goals with_reducible rfl
      try simp only [Act.put, List.setIfInBounds_toArray, List.set_cons_zero, List.set_cons_succ]
      refine held_take (i := 8) (v := ?_) 29 rfl rfl (by kernel_rfl) (by kernel_rfl) (by kernel_rfl) (fun _ _ _ h => h) (Or.inl ⟨by rfl, ?_⟩) hS ?_
      rotate_left 1
      · intro w' hSw
        try dsimp only at hSw
        obtain ⟨q1, q2, q3⟩ := hSw
        go_simp
        all_goals with_reducible rfl
      try simp only [Act.put, List.setIfInBounds_toArray, List.set_cons_zero, List.set_cons_succ]
      refine held_take (i := 9) (v := ?_) 30 rfl rfl (by kernel_rfl) (by kernel_rfl) (by kernel_rfl) (fun _ _ _ h => h) (Or.inl ⟨by rfl, ?_⟩) hS ?_
      rotate_left 1
      · intro w' hSw
        try dsimp only at hSw
        obtain ⟨q1, q2, q3⟩ := hSw
        go_simp
        all_goals with_reducible rfl
      try simp only [Act.put, List.setIfInBounds_toArray, List.set_cons_zero, List.set_cons_succ]
      refine held_take (i := 10) (v := ?_) 31 rfl rfl (by kernel_rfl) (by kernel_rfl) (by kernel_rfl) (fun _ _ _ h => h) (Or.inl ⟨by rfl, ?_⟩) hS ?_
      rotate_left 1
      · intro w' hSw
        try dsimp only at hSw
        obtain ⟨q1, q2, q3⟩ := hSw
        go_simp
        all_goals with_reducible rfl
      try simp only [Act.put, List.setIfInBounds_toArray, List.set_cons_zero, List.set_cons_succ]
      refine held_take (i := 11) (v := ?_) 32 rfl rfl (by kernel_rfl) (by kernel_rfl) (by kernel_rfl) (fun _ _ _ h => h) (Or.inl ⟨by rfl, ?_⟩) hS ?_
      rotate_left 1
      · intro w' hSw
        try dsimp only at hSw
        obtain ⟨q1, q2, q3⟩ := hSw
        go_simp
        all_goals with_reducible rfl
      try simp only [Act.put, List.setIfInBounds_toArray, List.set_cons_zero, List.set_cons_succ]
      refine held_take (i := 12) (v := ?_) 33 rfl rfl (by kernel_rfl) (by kernel_rfl) (by kernel_rfl) (fun _ _ _ h => h) (Or.inl ⟨by rfl, ?_⟩) hS ?_
      rotate_left 1
      · intro w' hSw
        try dsimp only at hSw
        obtain ⟨q1, q2, q3⟩ := hSw
        go_simp
        all_goals with_reducible rfl
      try simp only [Act.put, List.setIfInBounds_toArray, List.set_cons_zero, List.set_cons_succ]
      refine held_take (i := 13) (v := ?_) 34 rfl rfl (by kernel_rfl) (by kernel_rfl) (by kernel_rfl) (fun _ _ _ h => h) (Or.inl ⟨by rfl, ?_⟩) hS ?_
      rotate_left 1
      · intro w' hSw
        try dsimp only at hSw
        obtain ⟨q1, q2, q3⟩ := hSw
        go_simp
        all_goals with_reducible rfl
      try simp only [Act.put, List.setIfInBounds_toArray, List.set_cons_zero, List.set_cons_succ]
      refine held_take (i := 14) (v := ?_) 35 rfl rfl (by kernel_rfl) (by kernel_rfl) (by kernel_rfl) (fun _ _ _ h => h) (Or.inl ⟨by rfl, ?_⟩) hS ?_
      rotate_left 1
      · intro w' hSw
        try dsimp only at hSw
        obtain ⟨q1, q2, q3⟩ := hSw
        go_simp
        all_goals with_reducible rfl
      try simp only [Act.put, List.setIfInBounds_toArray, List.set_cons_zero, List.set_cons_succ]
      refine held_take (i := 15) (v := ?_) 36 rfl rfl (by kernel_rfl) (by kernel_rfl) (by kernel_rfl) (fun _ _ _ h => h) (Or.inl ⟨by rfl, ?_⟩) hS ?_
      rotate_left 1
      · intro w' hSw
        try dsimp only at hSw
        obtain ⟨q1, q2, q3⟩ := hSw
        go_simp
        all_goals with_reducible rfl
      try simp only [Act.put, List.setIfInBounds_toArray, List.set_cons_zero, List.set_cons_succ]
      refine held_take (i := 16) (v := ?_) 8 rfl rfl (by kernel_rfl) (by kernel_rfl) (by kernel_rfl) (fun _ _ _ h => h) (Or.inl ⟨by rfl, ?_⟩) hS ?_
      rotate_left 1
      · intro w' hSw
        try dsimp only at hSw
        obtain ⟨q1, q2, q3⟩ := hSw
        go_simp
        all_goals with_reducible rfl
      try simp only [Act.put, List.setIfInBounds_toArray, List.set_cons_zero, List.set_cons_succ]
      refine held_take (i := 17) (v := ?_) 9 rfl rfl (by kernel_rfl) (by kernel_rfl) (by kernel_rfl) (fun _ _ _ h => h) (Or.inl ⟨by rfl, ?_⟩) hS ?_
      rotate_left 1
      · intro w' hSw
        try dsimp only at hSw
        obtain ⟨q1, q2, q3⟩ := hSw
        go_simp
        all_goals with_reducible rfl
      try simp only [Act.put, List.setIfInBounds_toArray, List.set_cons_zero, List.set_cons_succ]
      refine wpAnyH_done (by kernel_rfl) (noPanic_normal ?_) _
      obtain ⟨e0, e1, -⟩ := hS
      clear u1 u2
      have u3 := IntWalk.i64_in (-(x.lo - y.hi)) (by omega)
      have u4 := IntWalk.i64_in (-(x.hi - y.lo)) (by omega)
      generalize x.lo - y.hi = lo at *
      generalize x.hi - y.lo = hi at *
      have hmax := max2_int
      have hmax3 := max3_int
      obtain ⟨m1, hm1⟩ : ∃ m1, max 0 (max lo (-hi)) = m1 := ⟨_, rfl⟩
      obtain ⟨m2, hm2⟩ : ∃ m2, max hi (-lo) = m2 := ⟨_, rfl⟩
      rw [hm1, hm2] at hnx
      have hbig1 : Hid (k + 1 ≤ maxLen) := by show k + 1 ≤ maxLen; unfold maxLen; omega
      have hbig2 : Hid ((k + 1) * 16 ≤ 140737488355328) := by show (k + 1) * 16 ≤ 140737488355328; omega
      obtain ⟨i0, hi0, hz0, hz1, hz2⟩ := info_parts Tryz.infoBnd
      have hnews : ∀ (j : Nat) (u : Value), ([.int .i64 m1, .int .i64 m2] : List Value)[j]? = some u → (wd.alloc (.cells #[.int .i64 m1, .int .i64 m2] 24)).cell? ((⟨wd.heap.size, 0, none⟩ : Addr).add j) = some u :=
        World.news_of_block (cs := #[.int .i64 m1, .int .i64 m2]) (World.alloc_heap_new wd _)
      have hownf := hown.alloc (.cells #[.int .i64 m1, .int .i64 m2] 24)
      have hbf := (Below.refl wd.heap.size wd).alloc (Nat.le_refl _) (.cells #[.int .i64 m1, .int .i64 m2] 24)
      have hsz2 : w.heap.size + 2 ≤ (wd.alloc (.cells #[.int .i64 m1, .int .i64 m2] 24)).heap.size := by simp; omega
      have k6f := k6.alloc (.cells #[.int .i64 m1, .int .i64 m2] 24)
      have hbwf := hb.alloc hb.size (.cells #[.int .i64 m1, .int .i64 m2] 24)
      have e0f := (World.cell?_alloc_lt wd (.cells #[.int .i64 m1, .int .i64 m2] 24) ⟨bO, oO + k * 2, none⟩ (by dsimp only; omega)).trans e0
      have e1f := (World.cell?_alloc_lt wd (.cells #[.int .i64 m1, .int .i64 m2] 24) ⟨bO, oO + k * 2 + 1, none⟩ (by dsimp only; omega)).trans e1
      go_wp2_with (at_builtin; first | rw [hm1] | rw [hm2] | (refine wpList_append_lies _ rfl (.tmp 37) (.tmp 47) 27 rfl (w.heap.size + 2) 24 i0 (.agg #[.int .i64 0, .int .i64 0]) 2 16 Tryz.underlying27 hi0 hz0 hz1 hz2 rfl (by decide) u5 k (((bendL s l).take k).flatMap Bnd.cells) rfl hownf ⟨wd.heap.size, 0, none⟩ 1 1 [.int .i64 m1, .int .i64 m2] rfl rfl hnews (by simp [Value.oneCell']) (by decide) hbig1.out hbig2.out hsz2 (wd.heap.size + 1) (by simp) ?_; intro g cap w7 hown7 hgrow hlies hlt7; have hbb : Below (w.heap.size + 2) _ w7 := ⟨hgrow.os, hgrow.tape, hgrow.output, hgrow.size, fun b hb2 => hgrow.block b (Nat.lt_of_lt_of_le hb2 hsz2) (fun e => by have := (hownf.lt _ e.symm).1; omega)⟩; have e0g := (hbb.cell (p := ⟨bO, oO + k * 2, none⟩) (by dsimp only; omega)).trans e0f; have e1g := (hbb.cell (p := ⟨bO, oO + k * 2 + 1, none⟩) (by dsimp only; omega)).trans e1f; have k6g := k6f.belowB hbb (by omega); obtain ⟨c6, f6, l6⟩ := k6g.rules))
      go_roundw
      case rel =>
        refine ⟨k + 1, by go_num, by omega, ?_, ?_, ?_, ?_⟩
        · rw [hpk.out]
          exact (k6g.set_ 0 (.int .i64 x.lo)).set_ 1 (.int .i64 x.hi)
        · rw [hnx.out]
          have hg7 : w.heap.size + 2 ≤ g := (hown7.lt _ rfl).1
          exact ownsRow_setCell (ownsRow_setCell hown7 (by simp [Value.ownBlock]; omega) _) (by simp [Value.ownBlock]; omega) _
        · exact ((hbwf.trans (hbb.mono (by omega))).setCell (p := ⟨w.heap.size + 1, 0, none⟩) (by simp) _).setCell (p := ⟨w.heap.size + 1, 1, none⟩) (by simp) _
        · have := hbb.size
          simp
          omega
      case measure => simp [intOf]; omega
    · obtain rfl : k = n := by omega
      go_wp2
      go_ret
      have ht : (bendL s l).take k = bendL s l := List.take_of_length_le (by rw [hEl.out]; exact Nat.le_refl _)
      rw [ht] at hown
      obtain ⟨P, pc, e2, h2⟩ := SlAt.of_own (enc := Bnd.cells) hown (by omega) (bendL s l) rfl (fun _ => rfl) hEl.out
      exact ⟨P, pc, by rw [e2]; rfl, h2.mono (by omega), hb⟩
end Go.Proofs.YtjiaepphnddpoaaGreat
namespace Go.Proofs.YtjiaepphnddpoaaGreat
open Go.RowKit Go.Shelf
set_option linter.unusedSimpArgs false
set_option linter.unusedVariables false
end Go.Proofs.YtjiaepphnddpoaaGreat
namespace Go.Proofs.YtjiaepphnddpoaaGreat
open Go.RowKit Go.Shelf
set_option linter.unusedSimpArgs false
set_option linter.unusedVariables false
set_option maxRecDepth 100000 in
set_option maxHeartbeats 1000000 in
theorem Ralong_any (b : Bnd) (w : World) :
    Calls Tryz.prog 59 #[.agg #[.int .i64 b.lo, .int .i64 b.hi]] w fun e w' => e = .returned (.bool (okBnd 50 b)) ∧ Below w.heap.size w w' := by
  have hen := fun W => rends_any b (-50) 50 W
  go_enter Tryz.func59, Tryz.ntmps59
  go_wp2_with fail
  refine (hen _).mono ?_
  rintro e w3 ⟨rfl, hb1⟩
  go_wp2
  go_ret
  exact ⟨ret_bool (by simp [okBnd]), ((Below.refl _ _).alloc (Nat.le_refl _) _).trans (hb1.mono (by simp))⟩
end Go.Proofs.YtjiaepphnddpoaaGreat
namespace Go.Proofs.YtjiaepphnddpoaaGreat
open Go.RowKit Go.Shelf
set_option linter.unusedSimpArgs false
set_option linter.unusedVariables false
theorem regcells_one (R : Reg) : ∀ u ∈ Reg.cells R, u.oneCell' = true := by
  intro u hu; simp [Reg.cells] at hu; rcases hu with rfl | rfl | rfl | rfl | rfl | rfl | rfl | rfl <;> rfl
end Go.Proofs.YtjiaepphnddpoaaGreat
namespace Go.Proofs.YtjiaepphnddpoaaGreat
open Go.RowKit Go.Shelf
set_option linter.unusedSimpArgs false
set_option linter.unusedVariables false
set_option maxRecDepth 100000 in
set_option maxHeartbeats 4000000 in
theorem Rnodes_any (s : Strm) (A O : Option Addr) (n c co B1 B : Nat) (bs : List Bnd) (w : World) (ho : okStrm s = true) (hl : okOffs s bs = true) (hss : SlAt w B1 5 Sec.cells A n c s.secs) (hs : SlAt w B 2 Bnd.cells O n co bs) :
    Calls Tryz.prog 82 #[.agg #[.int .i64 s.head, .slice A n c, .int .i64 s.lane.lo, .int .i64 s.lane.hi, .int .i64 s.bend], .slice O n co] w (OwnRegs w n (nodesL s bs)) := by
  have hh := Lib.hid (ok_head ho)
  have hla := Lib.hid (okOffs_all hl)
  have hbl := Lib.hid hs.len
  have hsl := Lib.hid hss.len
  have hn8 : n ≤ 8 := by have := hh.out; unfold headOk at this; have := hsl.out; omega
  have hmin := min2_int
  have hmax := max2_int
  have hbe := fun W h => Rbends_any s A O n c co B bs W ho hl h
  replace ho := Lib.hid ho
  replace hl := Lib.hid hl
  replace hbe := Lib.hid hbe
  go_enter Tryz.func82, Tryz.ntmps82
  go_wp2_with fail
  refine (hbe.out _ (hs.alloc _)).mono ?_
  rintro e w1 ⟨O', co', rfl, hr, hb1⟩
  have k2 := (Blk.new w _ _).below hb1
  have b1 := ((Below.refl w.heap.size w).alloc (Nat.le_refl _) _).trans (hb1.mono (by simp))
  have hss1 := (hss.alloc _).below hb1
  have hs1 := (hs.alloc _).below hb1
  have hbdl := Lib.hid (show (bendL s bs).length = n by rw [bendL, eachL_length]; exact hbl.out)
  clear hb1 hss hs
  go_wp2_with fail
  go_loopw [5, 7, 8, 9] (fun v f q i wr => ∃ k : Nat, i = .int .i64 k ∧ k ≤ n ∧ f = .int .i64 (farS s k) ∧ q = .int .i64 (nearS s bs k) ∧ wr.ownsRow w1.heap.size 45 8 v k ((nodesTo s bs k).flatMap Reg.cells) ∧ Below w1.heap.size w1 wr) (fun v f q i wr => n - (intOf i).toNat)
  case atStart =>
    exact ⟨0, rfl, Nat.zero_le _, rfl, rfl, ⟨rfl, .inl ⟨rfl, rfl⟩⟩, Below.refl _ _⟩
  case round =>
    obtain ⟨k, rfl, hk, rfl, rfl, hown, hb⟩ := hrel
    by_cases hlt : k < n
    · have hk0 : (0 : Int) ≤ (k : Int) := by omega
      have hk1 : (k : Int) < (n : Int) := by omega
      obtain ⟨y, hy⟩ := some_of_lt hbdl.out hlt
      have hyd : (bendL s bs).getD k ⟨0, 0⟩ = y := by rw [List.getD_eq_getElem?_getD, hy]; rfl
      obtain ⟨z, hz⟩ := some_of_lt hbl.out hlt
      have hzd : bs.getD k ⟨0, 0⟩ = z := by rw [List.getD_eq_getElem?_getD, hz]; rfl
      have hks : k < s.secs.length := by have := hsl.out; omega
      obtain ⟨bb, ob, hO, -, hbbl, e0, e1⟩ := hr.bnd hy
      obtain ⟨bs_, os_, hA, -, hsbl, g0, -⟩ := hss1.sec (sec_at s hks)
      obtain ⟨bz, oz, hOz, -, hzbl, z0, z1⟩ := hs1.bnd hz
      replace e0 := (hb.cell (by dsimp only; omega)).trans e0
      replace e1 := (hb.cell (by dsimp only; omega)).trans e1
      have hyb := bend_hi hh.out hla.out k
      rw [hyd] at hyb
      have hsb := sec_len ho.out k
      have hfb := farS_bd ho.out k
      have hnb := nearS_bd ho.out hla.out k
      have hshb := shortS_bd hsb.1 hsb.2 hyb.1
      have hfs : Hid (farS s (k + 1) = farS s k + (s.sec k).len) := rfl
      have hns : Hid (nearS s bs (k + 1) = nearS s bs k + shortS (s.sec k).len y.hi) := by show nearS s bs k + shortS (s.sec k).len ((bendL s bs).getD k ⟨0, 0⟩).hi = _; rw [hyd]
      have hnode : Hid (nodeR s bs k = (tightR { allReg with x := ⟨-(farS s k + (s.sec k).len), -(nearS s bs k + shortS (s.sec k).len y.hi)⟩, y := z }).1) := by
        show nodeR s bs k = _
        unfold nodeR
        rw [hzd, hfs.out, hns.out]
      have m1 : min (s.sec k).len y.hi * min (s.sec k).len y.hi ≤ (s.sec k).len * (s.sec k).len := sq_le (by omega) (by omega)
      have m2 : (s.sec k).len * (s.sec k).len ≤ 1000 * 1000 := sq_le hsb.1 hsb.2
      have m3 : 0 ≤ min (s.sec k).len y.hi * min (s.sec k).len y.hi := Int.mul_nonneg (by omega) (by omega)
      have hroot := fun W => RRoot_any ((s.sec k).len * (s.sec k).len - min (s.sec k).len y.hi * min (s.sec k).len y.hi) W (by omega) (by omega)
      have hsheq : rootS ((s.sec k).len * (s.sec k).len - min (s.sec k).len y.hi * min (s.sec k).len y.hi) = shortS (s.sec k).len y.hi := by unfold shortS; rw [Int.min_comm]
      simp only [hsheq] at hroot
      clear hsheq
      have t1 := IntWalk.i64_in (farS s k + (s.sec k).len) (by omega)
      have t2 := IntWalk.i64_in (nearS s bs k + shortS (s.sec k).len y.hi) (by omega)
      have t3 := IntWalk.i64_in (-(farS s k + (s.sec k).len)) (by omega)
      have t4 := IntWalk.i64_in (-(nearS s bs k + shortS (s.sec k).len y.hi)) (by omega)
      have t5 := IntWalk.i64_in ((s.sec k).len * (s.sec k).len) (by omega)
      have t6 := IntWalk.i64_in (min (s.sec k).len y.hi * min (s.sec k).len y.hi) (by omega)
      have t7 := IntWalk.i64_in ((s.sec k).len * (s.sec k).len - min (s.sec k).len y.hi * min (s.sec k).len y.hi) (by omega)
      replace hy := Lib.hid hy
      replace hz := Lib.hid hz
      clear hyd hzd
      generalize shortS (s.sec k).len y.hi = sh at *
      generalize (s.sec k).len = ln at *
      generalize farS s k = fa at *
      generalize nearS s bs k = ne at *
      subst hO
      subst hA
      subst hOz
      have k2w := k2.belowB hb k2.lt
      have g0w := (hb.cell (p := ⟨bs_, os_ + k * 5, none⟩) hsbl).trans g0
      obtain ⟨c2, f2, l2⟩ := k2w.rules
      have lsb : bs_ < wr.heap.size := by have := hb.size; omega
      have lbz : bz < w1.heap.size := Nat.lt_of_lt_of_le hzbl (Nat.le_refl _)
      go_wp2_with fail
      refine (hroot _).mono ?_
      rintro e w' ⟨rfl, rfl⟩
      have hall := fun W => RAllReg_any W
      simp only [regA, allReg] at hall
      clear hroot m1 m2 m3 t5 t6 t7
      go_wp2_with fail
      clear c2 f2 l2
      refine (hall _).mono ?_
      rintro e w3 ⟨rfl, hb3⟩
      clear hall
      have howna := ownsRow_below hown hb3
      have hba := hb.trans (hb3.mono hb.size)
      clear hb3
      have lw3 := hba.size
      have howna0 := howna
      go_wp2_with fail
      have k10 := Blk.new w3 45 #[.int .i64 (-32768), .int .i64 32768, .int .i64 (-32768), .int .i64 32768, .int .i64 (-65536), .int .i64 65536, .int .i64 (-65536), .int .i64 65536]
      replace howna := howna.alloc (.cells #[.int .i64 (-32768), .int .i64 32768, .int .i64 (-32768), .int .i64 32768, .int .i64 (-65536), .int .i64 65536, .int .i64 (-65536), .int .i64 65536] 45)
      replace hba := hba.alloc hba.size (.cells #[.int .i64 (-32768), .int .i64 32768, .int .i64 (-32768), .int .i64 32768, .int .i64 (-65536), .int .i64 65536, .int .i64 (-65536), .int .i64 65536] 45)
      generalize hV0 : w3.alloc (.cells #[.int .i64 (-32768), .int .i64 32768, .int .i64 (-32768), .int .i64 32768, .int .i64 (-65536), .int .i64 65536, .int .i64 (-65536), .int .i64 65536] 45) = V0 at *
      clear hV0
      refine wp_held_np (fun w' : World => w'.cell? ⟨bz, oz + k * 2, none⟩ = some (.int .i64 z.lo) ∧ w'.cell? ⟨bz, oz + k * 2 + 1, none⟩ = some (.int .i64 z.hi)) (by kernel_rfl) ?_
      replace hba := hba.drew
      replace howna : V0.drew.ownsRow _ _ _ _ _ _ := howna
      replace k10 := k10.drew
      generalize V0.drew = V at *
      have hS : (fun w' : World => w'.cell? ⟨bz, oz + k * 2, none⟩ = some (.int .i64 z.lo) ∧ w'.cell? ⟨bz, oz + k * 2 + 1, none⟩ = some (.int .i64 z.hi)) V := ⟨(hba.cell (p := ⟨bz, oz + k * 2, none⟩) lbz).trans z0, (hba.cell (p := ⟨bz, oz + k * 2 + 1, none⟩) lbz).trans z1⟩
      refine held_take (i := 0) (v := ?_) 57 rfl rfl (by kernel_rfl) (by kernel_rfl) (by kernel_rfl) (fun _ _ _ h => h) (Or.inl ⟨by rfl, ?_⟩) hS ?_
      rotate_left 1
      · intro w' hSw
        try dsimp only at hSw
        obtain ⟨q1, q2⟩ := hSw
        go_simp
        all_goals with_reducible rfl
      try simp only [Act.put, List.setIfInBounds_toArray, List.set_cons_zero, List.set_cons_succ]
      refine held_take (i := 1) (v := ?_) 58 rfl rfl (by kernel_rfl) (by kernel_rfl) (by kernel_rfl) (fun _ _ _ h => h) (Or.inl ⟨by rfl, ?_⟩) hS ?_
      rotate_left 1
      · intro w' hSw
        try dsimp only at hSw
        obtain ⟨q1, q2⟩ := hSw
        go_simp
        all_goals with_reducible rfl
      try simp only [Act.put, List.setIfInBounds_toArray, List.set_cons_zero, List.set_cons_succ]
      refine held_take (i := 2) (v := ?_) 59 rfl rfl (by kernel_rfl) (by kernel_rfl) (by kernel_rfl) (fun _ _ _ h => h) (Or.inl ⟨by rfl, ?_⟩) hS ?_
      rotate_left 1
      · intro w' hSw
        try dsimp only at hSw
        obtain ⟨q1, q2⟩ := hSw
        go_simp
        all_goals with_reducible rfl
      try simp only [Act.put, List.setIfInBounds_toArray, List.set_cons_zero, List.set_cons_succ]
      refine held_take (i := 3) (v := ?_) 60 rfl rfl (by kernel_rfl) (by kernel_rfl) (by kernel_rfl) (fun _ _ _ h => h) (Or.inl ⟨by rfl, ?_⟩) hS ?_
      rotate_left 1
      · intro w' hSw
        try dsimp only at hSw
        obtain ⟨q1, q2⟩ := hSw
        go_simp
        all_goals with_reducible rfl
      try simp only [Act.put, List.setIfInBounds_toArray, List.set_cons_zero, List.set_cons_succ]
      refine held_take (i := 4) (v := ?_) 61 rfl rfl (by kernel_rfl) (by kernel_rfl) (by kernel_rfl) (fun _ _ _ h => h) (Or.inl ⟨by rfl, ?_⟩) hS ?_
      rotate_left 1
      · intro w' hSw
        try dsimp only at hSw
        obtain ⟨q1, q2⟩ := hSw
        go_simp
        all_goals with_reducible rfl
      try simp only [Act.put, List.setIfInBounds_toArray, List.set_cons_zero, List.set_cons_succ]
      refine held_take (i := 5) (v := ?_) 62 rfl rfl (by kernel_rfl) (by kernel_rfl) (by kernel_rfl) (fun _ _ _ h => h) (Or.inl ⟨by rfl, ?_⟩) hS ?_
      rotate_left 1
      · intro w' hSw
        try dsimp only at hSw
        obtain ⟨q1, q2⟩ := hSw
        go_simp
        all_goals with_reducible rfl
      try simp only [Act.put, List.setIfInBounds_toArray, List.set_cons_zero, List.set_cons_succ]
      refine held_take (i := 6) (v := ?_) 63 rfl rfl (by kernel_rfl) (by kernel_rfl) (by kernel_rfl) (fun _ _ _ h => h) (Or.inl ⟨by rfl, ?_⟩) hS ?_
      rotate_left 1
      · intro w' hSw
        try dsimp only at hSw
        obtain ⟨q1, q2⟩ := hSw
        go_simp
        all_goals with_reducible rfl
      try simp only [Act.put, List.setIfInBounds_toArray, List.set_cons_zero, List.set_cons_succ]
      refine held_take (i := 7) (v := ?_) 64 rfl rfl (by kernel_rfl) (by kernel_rfl) (by kernel_rfl) (fun _ _ _ h => h) (Or.inl ⟨by rfl, ?_⟩) hS ?_
      rotate_left 1
      · intro w' hSw
        try dsimp only at hSw
        obtain ⟨q1, q2⟩ := hSw
        go_simp
        all_goals with_reducible rfl
      try simp only [Act.put, List.setIfInBounds_toArray, List.set_cons_zero, List.set_cons_succ]
      refine held_take (i := 8) (v := ?_) 65 rfl rfl (by kernel_rfl) (by kernel_rfl) (by kernel_rfl) (fun _ _ _ h => h) (Or.inl ⟨by rfl, ?_⟩) hS ?_
      rotate_left 1
      · intro w' hSw
        try dsimp only at hSw
        obtain ⟨q1, q2⟩ := hSw
        go_simp
        all_goals with_reducible rfl
      try simp only [Act.put, List.setIfInBounds_toArray, List.set_cons_zero, List.set_cons_succ]
      refine held_take (i := 9) (v := ?_) 66 rfl rfl (by kernel_rfl) (by kernel_rfl) (by kernel_rfl) (fun _ _ _ h => h) (Or.inl ⟨by rfl, ?_⟩) hS ?_
      rotate_left 1
      · intro w' hSw
        try dsimp only at hSw
        obtain ⟨q1, q2⟩ := hSw
        go_simp
        all_goals with_reducible rfl
      try simp only [Act.put, List.setIfInBounds_toArray, List.set_cons_zero, List.set_cons_succ]
      have hvne : u5.ownBlock ≠ some w3.heap.size := fun e => by
        have := howna0.lt _ e
        omega
      have k10a := (k10.set_ 0 (.int .i64 (-(fa + ln)))).set_ 1 (.int .i64 (-(ne + sh)))
      have hbb := (hba.setCell (p := ⟨w3.heap.size, 0, none⟩) lw3 (.int .i64 (-(fa + ln)))).setCell (p := ⟨w3.heap.size, 1, none⟩) lw3 (.int .i64 (-(ne + sh)))
      have hownb := ownsRow_setCell (ownsRow_setCell howna (p := ⟨w3.heap.size, 0, none⟩) hvne (.int .i64 (-(fa + ln)))) (p := ⟨w3.heap.size, 1, none⟩) hvne (.int .i64 (-(ne + sh)))
      obtain ⟨c10, f10, l10⟩ := k10.rules
      refine held_one (i := 10) (by kernel_rfl) rfl rfl (fun K hK => ?_)
      go_simp
      refine hK _ _ ⟨(hbb.cell (p := ⟨bz, oz + k * 2, none⟩) lbz).trans z0, (hbb.cell (p := ⟨bz, oz + k * 2 + 1, none⟩) lbz).trans z1⟩ ?_
      clear hK K c10 f10 l10 hS k10 hba howna
      simp only [List.setIfInBounds_toArray, List.set_cons_zero, List.set_cons_succ] at k10a
      generalize (V.setCell ⟨w3.heap.size, 0, none⟩ (.int .i64 (-(fa + ln)))).setCell ⟨w3.heap.size, 1, none⟩ (.int .i64 (-(ne + sh))) = V1 at *
      have hS : (fun w' : World => w'.cell? ⟨bz, oz + k * 2, none⟩ = some (.int .i64 z.lo) ∧ w'.cell? ⟨bz, oz + k * 2 + 1, none⟩ = some (.int .i64 z.hi)) V1 := ⟨(hbb.cell (p := ⟨bz, oz + k * 2, none⟩) lbz).trans z0, (hbb.cell (p := ⟨bz, oz + k * 2 + 1, none⟩) lbz).trans z1⟩
      try simp only [Act.put, List.setIfInBounds_toArray, List.set_cons_zero, List.set_cons_succ]
      refine held_take (i := 11) (v := ?_) 67 rfl rfl (by kernel_rfl) (by kernel_rfl) (by kernel_rfl) (fun _ _ _ h => h) (Or.inl ⟨by rfl, ?_⟩) hS ?_
      rotate_left 1
      · intro w' hSw
        try dsimp only at hSw
        obtain ⟨q1, q2⟩ := hSw
        go_simp
        all_goals with_reducible rfl
      try simp only [Act.put, List.setIfInBounds_toArray, List.set_cons_zero, List.set_cons_succ]
      have k10b := (k10a.set_ 2 (.int .i64 z.lo)).set_ 3 (.int .i64 z.hi)
      have hbc := (hbb.setCell (p := ⟨w3.heap.size, 2, none⟩) lw3 (.int .i64 z.lo)).setCell (p := ⟨w3.heap.size, 3, none⟩) lw3 (.int .i64 z.hi)
      have hownc := ownsRow_setCell (ownsRow_setCell hownb (p := ⟨w3.heap.size, 2, none⟩) hvne (.int .i64 z.lo)) (p := ⟨w3.heap.size, 3, none⟩) hvne (.int .i64 z.hi)
      obtain ⟨c10, f10, l10⟩ := k10a.rules
      refine held_one (i := 12) (by kernel_rfl) rfl rfl (fun K hK => ?_)
      go_simp
      refine hK _ _ ⟨(hbc.cell (p := ⟨bz, oz + k * 2, none⟩) lbz).trans z0, (hbc.cell (p := ⟨bz, oz + k * 2 + 1, none⟩) lbz).trans z1⟩ ?_
      clear hK K c10 f10 l10 hS k10a hbb hownb
      simp only [List.setIfInBounds_toArray, List.set_cons_zero, List.set_cons_succ] at k10b
      generalize (V1.setCell ⟨w3.heap.size, 2, none⟩ (.int .i64 z.lo)).setCell ⟨w3.heap.size, 3, none⟩ (.int .i64 z.hi) = V2 at *
      refine wpAnyH_done (by kernel_rfl) (noPanic_normal ?_) _
      have hti := fun W => RTight_any { allReg with x := ⟨-(fa + ln), -(ne + sh)⟩, y := z } W
      simp only [← hnode.out] at hti
      simp only [regA, allReg] at hti
      obtain ⟨R, hR⟩ : ∃ R, nodeR s bs k = R := ⟨_, rfl⟩
      simp only [hR] at hti
      replace hR := Lib.hid hR
      obtain ⟨c10, f10, l10⟩ := k10b.rules
      go_wp2_with fail
      refine (hti _).mono ?_
      rintro e w6 ⟨rfl, hb6⟩
      clear hti c10 f10 l10
      have hownd := ownsRow_below hownc hb6
      have hbd := hbc.trans (hb6.mono hbc.size)
      clear k10b hownc hbc hb6
      have hnx := Lib.hid (nodesTo_succ s bs k)
      have hownf := (hownd.alloc (.cells #[.int .i64 R.x.lo, .int .i64 R.x.hi, .int .i64 R.y.lo, .int .i64 R.y.hi, .int .i64 R.s.lo, .int .i64 R.s.hi, .int .i64 R.d.lo, .int .i64 R.d.hi] 45)).alloc (.cells #[.int .i64 R.x.lo, .int .i64 R.x.hi, .int .i64 R.y.lo, .int .i64 R.y.hi, .int .i64 R.s.lo, .int .i64 R.s.hi, .int .i64 R.d.lo, .int .i64 R.d.hi] 45)
      have hbf := Below.alloc (hbd.alloc hbd.size (.cells #[.int .i64 R.x.lo, .int .i64 R.x.hi, .int .i64 R.y.lo, .int .i64 R.y.hi, .int .i64 R.s.lo, .int .i64 R.s.hi, .int .i64 R.d.lo, .int .i64 R.d.hi] 45)) (by rw [World.size_alloc]; have := hbd.size; omega) (.cells #[.int .i64 R.x.lo, .int .i64 R.x.hi, .int .i64 R.y.lo, .int .i64 R.y.hi, .int .i64 R.s.lo, .int .i64 R.s.hi, .int .i64 R.d.lo, .int .i64 R.d.hi] 45)
      have hnews : ∀ (j : Nat) (u : Value), (Reg.cells R)[j]? = some u → ((w6.alloc (.cells #[.int .i64 R.x.lo, .int .i64 R.x.hi, .int .i64 R.y.lo, .int .i64 R.y.hi, .int .i64 R.s.lo, .int .i64 R.s.hi, .int .i64 R.d.lo, .int .i64 R.d.hi] 45)).alloc (.cells #[.int .i64 R.x.lo, .int .i64 R.x.hi, .int .i64 R.y.lo, .int .i64 R.y.hi, .int .i64 R.s.lo, .int .i64 R.s.hi, .int .i64 R.d.lo, .int .i64 R.d.hi] 45)).cell? ((⟨w6.heap.size + 1, 0, none⟩ : Addr).add j) = some u :=
        World.news_of_block (cs := #[.int .i64 R.x.lo, .int .i64 R.x.hi, .int .i64 R.y.lo, .int .i64 R.y.hi, .int .i64 R.s.lo, .int .i64 R.s.hi, .int .i64 R.d.lo, .int .i64 R.d.hi]) (t := 45) (fr := (0, 0)) (by have := World.alloc_heap_new (w6.alloc (.cells #[.int .i64 R.x.lo, .int .i64 R.x.hi, .int .i64 R.y.lo, .int .i64 R.y.hi, .int .i64 R.s.lo, .int .i64 R.s.hi, .int .i64 R.d.lo, .int .i64 R.d.hi] 45)) (.cells #[.int .i64 R.x.lo, .int .i64 R.x.hi, .int .i64 R.y.lo, .int .i64 R.y.hi, .int .i64 R.s.lo, .int .i64 R.s.hi, .int .i64 R.d.lo, .int .i64 R.d.hi] 45); rw [World.size_alloc] at this; exact this)
      have hgne : ∀ b, u5.ownBlock = some b → w1.heap.size ≤ b := fun b e => (howna0.lt _ e).1
      obtain ⟨i0, hi0, hz0, hz1, hz2⟩ := info_parts Tryz.infoReg
      have hbig1 : Hid (k + 1 ≤ maxLen) := by show k + 1 ≤ maxLen; unfold maxLen; omega
      have hbig2 : Hid ((k + 1) * 64 ≤ 140737488355328) := by show (k + 1) * 64 ≤ 140737488355328; omega
      have hone := Lib.hid (regcells_one R)
      go_wp2_with (at_builtin; refine wpList_append_lies _ rfl (.tmp 73) (.tmp 75) 62 rfl w1.heap.size 45 i0 (.agg #[.int .i64 0, .int .i64 0, .int .i64 0, .int .i64 0, .int .i64 0, .int .i64 0, .int .i64 0, .int .i64 0]) 8 64 Tryz.underlying62 hi0 hz0 hz1 hz2 rfl (by decide) u5 k ((nodesTo s bs k).flatMap Reg.cells) rfl hownf ⟨w6.heap.size + 1, 0, none⟩ 1 1 (Reg.cells R) rfl rfl hnews hone.out (by decide) hbig1.out hbig2.out hbf.size (w6.heap.size + 1 + 1) (by simp) ?_; intro g cap w7 hown7 hgrow hlies hlt7)
      have hbg : Below w1.heap.size _ w7 := ⟨hgrow.os, hgrow.tape, hgrow.output, hgrow.size, fun b hb => hgrow.block b (Nat.lt_of_lt_of_le hb hbf.size) (fun e => by have := hgne _ e.symm; omega)⟩
      have hbh := hbf.trans hbg
      go_roundw
      case rel =>
        refine ⟨k + 1, by go_num, by omega, by rw [hfs.out], by rw [hns.out], ?_, hbh⟩
        rw [hnx.out, hR.out, List.flatMap_append]
        simpa using hown7
      case measure => simp [intOf]; omega
    · obtain rfl : k = n := by omega
      go_wp2
      go_ret
      obtain ⟨O2, c2, e2, h2⟩ := SlAt.of_own (enc := Reg.cells) hown (by omega) (nodesTo s bs k) rfl (fun _ => rfl) (by simp [nodesTo])
      have hnl : nodesTo s bs k = nodesL s bs := by unfold nodesTo nodesL; rw [hbl.out]
      rw [hnl] at h2
      exact ⟨O2, c2, by rw [e2]; rfl, h2.mono b1.size, b1.trans (hb.mono b1.size)⟩
end Go.Proofs.YtjiaepphnddpoaaGreat
namespace Go.Proofs.YtjiaepphnddpoaaGreat
open Go.RowKit Go.Shelf
set_option linter.unusedSimpArgs false
set_option linter.unusedVariables false
end Go.Proofs.YtjiaepphnddpoaaGreat
namespace Go.Proofs.YtjiaepphnddpoaaGreat
open Go.RowKit Go.Shelf
set_option linter.unusedSimpArgs false
set_option linter.unusedVariables false
def addQ : Option Bnd → RRow → Option Bnd
  | none, q => some (sqB q)
  | some b, q => some ⟨min b.lo (sqB q).lo, max b.hi (sqB q).hi⟩
def lenTo (r : Reg) (j : Nat) : Option Bnd := (rowsTo r j).foldl addQ none
theorem lenTo_succ (r : Reg) (j : Nat) : lenTo r (j + 1) = if (rowB r (r.x.lo + j)).fr ≤ (rowB r (r.x.lo + j)).to then addQ (lenTo r j) (rowB r (r.x.lo + j)) else lenTo r j := by
  unfold lenTo
  rw [rowsTo_succ, List.foldl_append]
  split <;> rfl
theorem pick_fold : ∀ (L : List RRow) (a c d : Option Bnd), (a = none ∧ c = none ∧ d = none ∨ ∃ x y z, a = some x ∧ c = some y ∧ d = some z ∧ x.lo = y.lo ∧ x.hi = z.hi) →
    (L.foldl addQ a = none ∧ (L.map sqB).foldl (pickO ltLo) c = none ∧ (L.map sqB).foldl (pickO gtHi) d = none ∨ ∃ x y z, L.foldl addQ a = some x ∧ (L.map sqB).foldl (pickO ltLo) c = some y ∧ (L.map sqB).foldl (pickO gtHi) d = some z ∧ x.lo = y.lo ∧ x.hi = z.hi)
  | [], a, c, d, h => h
  | q :: L, a, c, d, h => by
    simp only [List.foldl_cons, List.map_cons]
    refine pick_fold L _ _ _ (.inr ?_)
    rcases h with ⟨rfl, rfl, rfl⟩ | ⟨x, y, z, rfl, rfl, rfl, h1, h2⟩
    · exact ⟨_, _, _, rfl, rfl, rfl, rfl, rfl⟩
    · simp only [addQ, pickO, ltLo, gtHi, decide_eq_true_eq]
      by_cases h3 : (sqB q).lo < y.lo
      · rw [if_pos h3]
        by_cases h4 : z.hi < (sqB q).hi
        · rw [if_pos h4]; exact ⟨_, _, _, rfl, rfl, rfl, by dsimp only; omega, by dsimp only; omega⟩
        · rw [if_neg h4]; exact ⟨_, _, _, rfl, rfl, rfl, by dsimp only; omega, by dsimp only; omega⟩
      · rw [if_neg h3]
        by_cases h4 : z.hi < (sqB q).hi
        · rw [if_pos h4]; exact ⟨_, _, _, rfl, rfl, rfl, by dsimp only; omega, by dsimp only; omega⟩
        · rw [if_neg h4]; exact ⟨_, _, _, rfl, rfl, rfl, by dsimp only; omega, by dsimp only; omega⟩
theorem lenTo_all (r : Reg) : optB (lenTo r (nX r)) = sqsS r := by
  have h := pick_fold (rowsL r) none none none (.inl ⟨rfl, rfl, rfl⟩)
  unfold sqsS pckAll sqL lenTo
  rw [show rowsTo r (nX r) = rowsL r from rfl]
  rcases h with ⟨a, b, c⟩ | ⟨x, y, z, a, b, c, h1, h2⟩
  · (simp only [a, b, c]) <;> rfl
  · simp only [a, b, c, optB, Option.getD_some]
    exact bnd_ext h1 h2
set_option maxRecDepth 100000 in
set_option maxHeartbeats 400000 in
theorem Rsquare_any (x y : Int) (w : World) (h1 : -3000000 ≤ x ∧ x ≤ 3000000) (h2 : -3000000 ≤ y ∧ y ≤ 3000000) :
    Calls Tryz.prog 189 #[.int .i64 x, .int .i64 y] w fun e w' => e = .returned (.int .i64 (x * x + y * y)) ∧ w' = w := by
  have m1 := sq_bd h1.1 h1.2
  have m2 := sq_bd h2.1 h2.2
  have u1 := IntWalk.i64_in (x * x) (by omega)
  have u2 := IntWalk.i64_in (y * y) (by omega)
  have u3 := IntWalk.i64_in (x * x + y * y) (by omega)
  go_enter Tryz.func189, Tryz.ntmps189
  go_wp2
  go_ret
  exact ⟨rfl, rfl⟩
set_option maxRecDepth 100000 in
set_option maxHeartbeats 1000000 in
theorem RrowM_any (r : Reg) (x : Int) (w : World) (hr : midR r) (hx : -1000000 ≤ x ∧ x ≤ 1000000) :
    Calls Tryz.prog 180 #[.agg (regA r), .int .i64 x] w fun e w' => e = .returned (.agg #[.int .i64 x, .int .i64 (rowB r x).fr, .int .i64 (rowB r x).to]) ∧ Below w.heap.size w w' := by
  have hmax := max3_int
  have hmin := min3_int
  obtain ⟨⟨x1, x2, x3, x4⟩, ⟨y1, y2, y3, y4⟩, ⟨s1, s2, s3, s4⟩, d1, d2, d3, d4⟩ := hr
  have t1 := IntWalk.i64_in (r.s.lo - x) (by omega)
  have t2 := IntWalk.i64_in (x - r.d.hi) (by omega)
  have t3 := IntWalk.i64_in (r.s.hi - x) (by omega)
  have t4 := IntWalk.i64_in (x - r.d.lo) (by omega)
  have hfr : max r.y.lo (max (r.s.lo - x) (x - r.d.hi)) = (rowB r x).fr := rfl
  have hto : min r.y.hi (min (r.s.hi - x) (x - r.d.lo)) = (rowB r x).to := rfl
  clear x1 x2 x3 x4 y1 y2 y3 y4 s1 s2 s3 s4 d1 d2 d3 d4 hx
  generalize (rowB r x).fr = fr at *
  generalize (rowB r x).to = to at *
  simp only [regA]
  obtain ⟨w1, hw1⟩ : ∃ w1, w1 = (w.alloc (.cells #[.int .i64 r.x.lo, .int .i64 r.x.hi, .int .i64 r.y.lo, .int .i64 r.y.hi, .int .i64 r.s.lo, .int .i64 r.s.hi, .int .i64 r.d.lo, .int .i64 r.d.hi] 45)).alloc (.cells #[.int .i64 x, .int .i64 fr, .int .i64 to] 235) := ⟨_, rfl⟩
  have k2 : Blk w1 w.heap.size 45 #[.int .i64 r.x.lo, .int .i64 r.x.hi, .int .i64 r.y.lo, .int .i64 r.y.hi, .int .i64 r.s.lo, .int .i64 r.s.hi, .int .i64 r.d.lo, .int .i64 r.d.hi] := by rw [hw1]; exact (Blk.new _ _ _).alloc _
  have kz : Blk w1 (w.heap.size + 1) 235 #[.int .i64 x, .int .i64 fr, .int .i64 to] := by rw [hw1]; exact Blk.newAt (by simp)
  have hb : Below w.heap.size w w1 := by rw [hw1]; exact ((Below.refl _ _).alloc (Nat.le_refl _) _).alloc (by simp) _
  go_enter Tryz.func180, Tryz.ntmps180
  go_wp2
  rw [← hw1]
  clear hw1
  obtain ⟨c4, f4, l4⟩ := kz.rules
  exact bodyPost_ret (v := .agg #[.int .i64 x, .int .i64 fr, .int .i64 to]) (by simp [results, Tryz.results180, go_sem, c4]) rfl ⟨rfl, hb⟩
set_option maxRecDepth 100000 in
set_option maxHeartbeats 2000000 in
theorem Rlengths_any (r : Reg) (w : World) (hr : midR r) :
    Calls Tryz.prog 171 #[.agg (regA r), .agg #[.int .i64 0, .int .i64 0]] w fun e w' => e = .returned (.tuple #[.agg #[.int .i64 (sqsS r).lo, .int .i64 (sqsS r).hi], .bool (lenTo r (nX r)).isSome]) ∧ Below w.heap.size w w' := by
  have hmax := max2_int
  have hmin := min2_int
  obtain ⟨B, hB⟩ : ∃ B, sqsS r = B := ⟨_, rfl⟩
  have hend : Hid (optB (lenTo r (nX r)) = B) := by show _ = _; rw [lenTo_all, hB]
  rw [hB]
  clear hB
  obtain ⟨⟨x1, x2, x3, x4⟩, ⟨y1, y2, y3, y4⟩, ⟨s1, s2, s3, s4⟩, d1, d2, d3, d4⟩ := hr
  have hr : Hid (midR r) := ⟨⟨x1, x2, x3, x4⟩, ⟨y1, y2, y3, y4⟩, ⟨s1, s2, s3, s4⟩, d1, d2, d3, d4⟩
  obtain ⟨w1, hw1⟩ : ∃ w1, w1 = (((w.alloc (.cells #[.int .i64 r.x.lo, .int .i64 r.x.hi, .int .i64 r.y.lo, .int .i64 r.y.hi, .int .i64 r.s.lo, .int .i64 r.s.hi, .int .i64 r.d.lo, .int .i64 r.d.hi] 45)).alloc (.cells #[.int .i64 0, .int .i64 0] 59)).alloc (.cells #[.int .i64 0, .int .i64 0] 24)).alloc (.cells #[.int .i64 0, .int .i64 0] 24) := ⟨_, rfl⟩
  have k2 : Blk w1 w.heap.size 45 #[.int .i64 r.x.lo, .int .i64 r.x.hi, .int .i64 r.y.lo, .int .i64 r.y.hi, .int .i64 r.s.lo, .int .i64 r.s.hi, .int .i64 r.d.lo, .int .i64 r.d.hi] := by rw [hw1]; exact (((Blk.new _ _ _).alloc _).alloc _).alloc _
  have k3 : Blk w1 (w.heap.size + 1) 59 #[.int .i64 0, .int .i64 0] := by rw [hw1]; exact ((Blk.newAt (by simp)).alloc _).alloc _
  have k4 : Blk w1 (w.heap.size + 1 + 1) 24 #[.int .i64 0, .int .i64 0] := by rw [hw1]; exact (Blk.newAt (by simp)).alloc _
  have k6 : Blk w1 (w.heap.size + 1 + 1 + 1) 24 #[.int .i64 0, .int .i64 0] := by rw [hw1]; exact Blk.newAt (by simp)
  have hb : Below w.heap.size w w1 := by rw [hw1]; exact ((((Below.refl _ _).alloc (Nat.le_refl _) _).alloc (by simp) _).alloc (by simp; omega) _).alloc (by simp; omega) _
  simp only [regA]
  go_enter Tryz.func171, Tryz.ntmps171
  go_wp2_with fail
  rw [← hw1]
  clear hw1
  go_loopw [7, 8] (fun s x wr => ∃ j : Nat, x = .int .i64 (r.x.lo + j) ∧ j ≤ nX r ∧ s = .bool (lenTo r j).isSome ∧ Blk wr w.heap.size 45 #[.int .i64 r.x.lo, .int .i64 r.x.hi, .int .i64 r.y.lo, .int .i64 r.y.hi, .int .i64 r.s.lo, .int .i64 r.s.hi, .int .i64 r.d.lo, .int .i64 r.d.hi] ∧ Blk wr (w.heap.size + 1) 59 #[.int .i64 0, .int .i64 0] ∧ Blk wr (w.heap.size + 1 + 1) 24 #[.int .i64 0, .int .i64 0] ∧ Blk wr (w.heap.size + 1 + 1 + 1) 24 #[.int .i64 (optB (lenTo r j)).lo, .int .i64 (optB (lenTo r j)).hi] ∧ Below w.heap.size w wr) (fun s x wr => (r.x.hi + 1 - intOf x).toNat)
  case atStart => exact ⟨0, by simp, Nat.zero_le _, rfl, k2, k3, k4, k6, hb⟩
  case round =>
    clear k2 k3 k4 k6 hb
    obtain ⟨j, rfl, hj, rfl, k2, k3, k4, k6, hb⟩ := hrel
    have hjx : j < nX r ↔ r.x.lo + j ≤ r.x.hi := by unfold nX; omega
    by_cases hlt : r.x.lo + j ≤ r.x.hi
    · have hj1 := Lib.hid (hjx.2 hlt)
      replace hj := Lib.hid hj
      have hstep := Lib.hid (lenTo_succ r j)
      have e1 : (rowB r (r.x.lo + j)).fr = max r.y.lo (max (r.s.lo - (r.x.lo + j)) (r.x.lo + j - r.d.hi)) := rfl
      have e2 : (rowB r (r.x.lo + j)).to = min r.y.hi (min (r.s.hi - (r.x.lo + j)) (r.x.lo + j - r.d.lo)) := rfl
      have e3 : (rowB r (r.x.lo + j)).x = r.x.lo + j := rfl
      have hrow := fun W => RrowM_any r (r.x.lo + j) W hr.out (by omega)
      clear hjx
      obtain ⟨o, ho⟩ : ∃ o, lenTo r j = o := ⟨_, rfl⟩
      rw [ho] at k6 hstep
      rw [ho]
      replace ho := Lib.hid ho
      generalize rowB r (r.x.lo + j) = q at *
      obtain ⟨qx, fr, to⟩ := q
      dsimp only at e1 e2 e3 hrow
      generalize hx : r.x.lo + (j : Int) = x at *
      subst e3
      have hxb : -1000000 ≤ qx ∧ qx ≤ 1000000 := by omega
      have hx0 : r.x.lo ≤ qx := by omega
      replace hx := Lib.hid hx
      have hfb : -3000000 ≤ fr ∧ fr ≤ 3000000 ∧ -3000000 ≤ to ∧ to ≤ 3000000 := by omega
      replace e1 := Lib.hid e1
      replace e2 := Lib.hid e2
      have t5 := IntWalk.i64_in (qx + 1) (by omega)
      simp only [regA] at hrow
      obtain ⟨c2, f2, l2⟩ := k2.rules
      go_wp2_with fail
      clear c2 f2 l2
      refine (hrow _).mono ?_
      rintro e W ⟨rfl, hbel⟩
      clear hrow
      replace k2 := k2.below hbel
      replace k3 := k3.below hbel
      replace k4 := k4.below hbel
      replace k6 := k6.below hbel
      replace hb := hb.trans (hbel.mono hb.size)
      clear hbel
      by_cases hv : fr ≤ to
      · have hv' : ¬ to < fr := by omega
        rw [if_pos hv] at hstep
        have hI := fun W => Into_any 0 fr to W
        obtain ⟨nr, hnr⟩ : ∃ nr, max fr (min 0 to) = nr := ⟨_, rfl⟩
        simp only [hnr] at hI
        have hnb : -3000000 ≤ nr ∧ nr ≤ 3000000 := by omega
        have hs1 := fun W => Rsquare_any qx nr W (by omega) hnb
        have hs2 := fun W => Rsquare_any qx fr W (by omega) (by omega)
        have hs3 := fun W => Rsquare_any qx to W (by omega) (by omega)
        have hsq : Hid (sqB ⟨qx, fr, to⟩ = ⟨qx * qx + nr * nr, max (qx * qx + fr * fr) (qx * qx + to * to)⟩) := by
          show _ = _
          unfold sqB
          dsimp only
          rw [hnr]
          congr 1
          omega
        have z1 : qx - 0 = qx := Int.sub_zero _
        have z2 : nr - 0 = nr := Int.sub_zero _
        have z3 : fr - 0 = fr := Int.sub_zero _
        have z4 : to - 0 = to := Int.sub_zero _
        have u1 := IntWalk.i64_in qx (by omega)
        have u2 := IntWalk.i64_in nr (by omega)
        have u3 := IntWalk.i64_in fr (by omega)
        have u4 := IntWalk.i64_in to (by omega)
        replace hnr := Lib.hid hnr
        generalize qx * qx + nr * nr = near at *
        generalize qx * qx + fr * fr = f1 at *
        generalize qx * qx + to * to = f2 at *
        have k9 := Blk.new W 235 #[.int .i64 qx, .int .i64 fr, .int .i64 to]
        have hbel := (Below.refl W.heap.size W).alloc (Nat.le_refl _) (.cells #[.int .i64 qx, .int .i64 fr, .int .i64 to] 235)
        have hg9 : w.heap.size + 1 + 1 + 1 < W.heap.size := k6.lt
        have k3W := k3
        replace k2 := k2.below hbel
        replace k3 := k3.below hbel
        replace k4 := k4.below hbel
        replace k6 := k6.below hbel
        replace hb := hb.trans (hbel.mono hb.size)
        clear hbel
        obtain ⟨c3, f3, l3⟩ := k3W.rules
        go_wp2_with fail
        clear c3 f3 l3
        generalize W.alloc (.cells #[.int .i64 qx, .int .i64 fr, .int .i64 to] 235) = W2 at *
        generalize W.heap.size = g9 at *
        obtain ⟨c3, f3, l3⟩ := k3.rules
        obtain ⟨c9, f9, l9⟩ := k9.rules
        go_quiet ((first | (go_at_call 175; with_reducible exact Calls.quiet_of_same (flip_w (hI _))) | (go_at_call 189; with_reducible exact Calls.quiet_of_same (hs1 _))))
        clear c3 f3 l3 c9 f9 l9
        replace k2 := k2.drewN nq
        replace k3 := k3.drewN nq
        replace k4 := k4.drewN nq
        replace k6 := k6.drewN nq
        replace k9 := k9.drewN nq
        replace hb := below_drewN hb nq
        generalize W2.drewN nq = W3 at *
        obtain ⟨c3, f3, l3⟩ := k3.rules
        obtain ⟨c9, f9, l9⟩ := k9.rules
        go_wp2_with fail
        go_quiet ((first | (go_at_call 189; with_reducible exact Calls.quiet_of_same (hs2 _)) | (go_at_call 189; with_reducible exact Calls.quiet_of_same (hs3 _))))
        clear c3 f3 l3 c9 f9 l9 k9
        replace k2 := k2.drewN nq
        replace k3 := k3.drewN nq
        replace k4 := k4.drewN nq
        replace k6 := k6.drewN nq
        replace hb := below_drewN hb nq
        generalize W3.drewN nq = W4 at *
        cases o with
        | none =>
          simp only [optB, Option.getD_none, Option.isSome_none] at k6 ⊢
          have hnx : Hid (lenTo r (j + 1) = some ⟨near, max f1 f2⟩) := by show _ = _; rw [hstep.out, ← hsq.out]; rfl
          obtain ⟨c6, f6, l6⟩ := k6.rules
          have k2z := k2
          have k3z := k3
          have k4z := k4
          have k6z := k6
          have hbz := hb
          clear k2 k3 k4 k6 hb
          replace k6z := (k6z.set_ 0 (.int .i64 (near))).set_ 1 (.int .i64 (max f1 f2))
          simp only [List.setIfInBounds_toArray, List.set_cons_zero, List.set_cons_succ] at k6z
          replace k2z := (k2z.far (p := ⟨w.heap.size + 1 + 1 + 1, 0, none⟩) (by dsimp only; omega) (.int .i64 (near))).far (p := ⟨w.heap.size + 1 + 1 + 1, 1, none⟩) (by dsimp only; omega) (.int .i64 (max f1 f2))
          replace k3z := (k3z.far (p := ⟨w.heap.size + 1 + 1 + 1, 0, none⟩) (by dsimp only; omega) (.int .i64 (near))).far (p := ⟨w.heap.size + 1 + 1 + 1, 1, none⟩) (by dsimp only; omega) (.int .i64 (max f1 f2))
          replace k4z := (k4z.far (p := ⟨w.heap.size + 1 + 1 + 1, 0, none⟩) (by dsimp only; omega) (.int .i64 (near))).far (p := ⟨w.heap.size + 1 + 1 + 1, 1, none⟩) (by dsimp only; omega) (.int .i64 (max f1 f2))
          replace hbz := (hbz.setCell (p := ⟨w.heap.size + 1 + 1 + 1, 0, none⟩) (by dsimp only; omega) (.int .i64 (near))).setCell (p := ⟨w.heap.size + 1 + 1 + 1, 1, none⟩) (by dsimp only; omega) (.int .i64 (max f1 f2))
          replace k6z := (k6z.set_ 0 (.int .i64 (near))).set_ 1 (.int .i64 (max f1 f2))
          simp only [List.setIfInBounds_toArray, List.set_cons_zero, List.set_cons_succ] at k6z
          replace k2z := (k2z.far (p := ⟨w.heap.size + 1 + 1 + 1, 0, none⟩) (by dsimp only; omega) (.int .i64 (near))).far (p := ⟨w.heap.size + 1 + 1 + 1, 1, none⟩) (by dsimp only; omega) (.int .i64 (max f1 f2))
          replace k3z := (k3z.far (p := ⟨w.heap.size + 1 + 1 + 1, 0, none⟩) (by dsimp only; omega) (.int .i64 (near))).far (p := ⟨w.heap.size + 1 + 1 + 1, 1, none⟩) (by dsimp only; omega) (.int .i64 (max f1 f2))
          replace k4z := (k4z.far (p := ⟨w.heap.size + 1 + 1 + 1, 0, none⟩) (by dsimp only; omega) (.int .i64 (near))).far (p := ⟨w.heap.size + 1 + 1 + 1, 1, none⟩) (by dsimp only; omega) (.int .i64 (max f1 f2))
          replace hbz := (hbz.setCell (p := ⟨w.heap.size + 1 + 1 + 1, 0, none⟩) (by dsimp only; omega) (.int .i64 (near))).setCell (p := ⟨w.heap.size + 1 + 1 + 1, 1, none⟩) (by dsimp only; omega) (.int .i64 (max f1 f2))
          go_wp2_with fail
          go_roundw
          case rel => exact ⟨j + 1, by rw [← hx.out]; congr 1; push_cast; omega, hj1.out, by rw [hnx.out]; rfl, k2z, k3z, k4z, by rw [hnx.out]; exact k6z, hbz⟩
          case measure => simp [intOf]; omega
        | some b =>
          simp only [optB, Option.getD_some, Option.isSome_some] at k6 ⊢
          have hnx : Hid (lenTo r (j + 1) = some ⟨min b.lo near, max b.hi (max f1 f2)⟩) := by show _ = _; rw [hstep.out]; unfold addQ; dsimp only; rw [hsq.out]
          obtain ⟨c6, f6, l6⟩ := k6.rules
          have k2z := k2
          have k3z := k3
          have k4z := k4
          have k6z := k6
          have hbz := hb
          clear k2 k3 k4 k6 hb
          replace k6z := (k6z.set_ 0 (.int .i64 (min b.lo near))).set_ 1 (.int .i64 (max b.hi (max f1 f2)))
          simp only [List.setIfInBounds_toArray, List.set_cons_zero, List.set_cons_succ] at k6z
          replace k2z := (k2z.far (p := ⟨w.heap.size + 1 + 1 + 1, 0, none⟩) (by dsimp only; omega) (.int .i64 (min b.lo near))).far (p := ⟨w.heap.size + 1 + 1 + 1, 1, none⟩) (by dsimp only; omega) (.int .i64 (max b.hi (max f1 f2)))
          replace k3z := (k3z.far (p := ⟨w.heap.size + 1 + 1 + 1, 0, none⟩) (by dsimp only; omega) (.int .i64 (min b.lo near))).far (p := ⟨w.heap.size + 1 + 1 + 1, 1, none⟩) (by dsimp only; omega) (.int .i64 (max b.hi (max f1 f2)))
          replace k4z := (k4z.far (p := ⟨w.heap.size + 1 + 1 + 1, 0, none⟩) (by dsimp only; omega) (.int .i64 (min b.lo near))).far (p := ⟨w.heap.size + 1 + 1 + 1, 1, none⟩) (by dsimp only; omega) (.int .i64 (max b.hi (max f1 f2)))
          replace hbz := (hbz.setCell (p := ⟨w.heap.size + 1 + 1 + 1, 0, none⟩) (by dsimp only; omega) (.int .i64 (min b.lo near))).setCell (p := ⟨w.heap.size + 1 + 1 + 1, 1, none⟩) (by dsimp only; omega) (.int .i64 (max b.hi (max f1 f2)))
          skip
          go_wp2_with fail
          go_roundw
          case rel => exact ⟨j + 1, by rw [← hx.out]; congr 1; push_cast; omega, hj1.out, by rw [hnx.out]; rfl, k2z, k3z, k4z, by rw [hnx.out]; exact k6z, hbz⟩
          case measure => simp [intOf]; omega
      · have hv' : to < fr := by omega
        rw [if_neg hv] at hstep
        have hbel := (Below.refl W.heap.size W).alloc (Nat.le_refl _) (.cells #[.int .i64 qx, .int .i64 fr, .int .i64 to] 235)
        replace k2 := k2.below hbel
        replace k3 := k3.below hbel
        replace k4 := k4.below hbel
        replace k6 := k6.below hbel
        replace hb := hb.trans (hbel.mono hb.size)
        clear hbel
        go_wp2_with fail
        go_roundw
        case rel => exact ⟨j + 1, by rw [← hx.out]; congr 1; push_cast; omega, hj1.out, by rw [hstep.out], k2, k3, k4, by rw [hstep.out]; exact k6, hb⟩
        case measure => simp [intOf]; omega
    · have hje : j = nX r := by omega
      subst hje
      rw [hend.out] at k6
      have kz := (k4.set_ 0 (.int .i64 B.lo)).set_ 1 (.int .i64 B.hi)
      simp only [List.setIfInBounds_toArray, List.set_cons_zero, List.set_cons_succ] at kz
      have bz := (hb.setCell (p := ⟨w.heap.size + 1 + 1, 0, none⟩) (by dsimp only; omega) (.int .i64 B.lo)).setCell (p := ⟨w.heap.size + 1 + 1, 1, none⟩) (by dsimp only; omega) (.int .i64 B.hi)
      obtain ⟨wz, hwz⟩ : ∃ q, q = (wr.setCell ⟨w.heap.size + 1 + 1, 0, none⟩ (.int .i64 B.lo)).setCell ⟨w.heap.size + 1 + 1, 1, none⟩ (.int .i64 B.hi) := ⟨_, rfl⟩
      rw [← hwz] at kz bz
      obtain ⟨c2, f2, l2⟩ := k2.rules
      obtain ⟨c4, f4, l4⟩ := k4.rules
      obtain ⟨c6, f6, l6⟩ := k6.rules
      go_wp2
      rw [← hwz]
      clear hwz c4 f4 l4 c2 f2 l2 c6 f6 l6
      obtain ⟨c4, f4, l4⟩ := kz.rules
      exact bodyPost_ret (v := .tuple #[.agg #[.int .i64 B.lo, .int .i64 B.hi], .bool (lenTo r (nX r)).isSome]) (by simp [results, Tryz.results171, go_sem, c4]) rfl ⟨rfl, bz⟩
end Go.Proofs.YtjiaepphnddpoaaGreat
