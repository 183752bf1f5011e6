/-
  Own texts for one claim, joined: R23 R24.
-/
import Derived.ChangeKeysEq
import Derived.Deep.QuietTactic
import Derived.BigQuiet
import Derived.Deep.RegionHeld3
import Derived.StillTailTactics
import Derived.Test.YtjiaepphnddpoaaGreatChecked
import Derived.Shelf.Abstract
import Derived.WalkKit
import Derived.WalkSpells
import Derived.WalkLawsBesides
import Derived.Lib.Hide
import Derived.OrdersHeld
import Derived.StillTail
import Derived.StillTailTactics
import Derived.RangeFuncNested
import Derived.RangeFuncBound
import Derived.RangeFuncCalls
import Derived.RangeFuncLeaves
import Derived.Shelf.Abstract
import Derived.Shelf.RegionOpen
import Derived.OwnWalkIn
import Derived.TacticsInMore
import Derived.LoopNIn
import Derived.LoopIn
import Derived.OrdersIn
import Derived.Deep.Quiet
import Derived.Deep.QuietTactic
import Derived.BigQuiet
import Derived.Deep.AppendLies
import Derived.WalkMore
import Derived.Maps.Own
import Derived.Maps.Views
import Derived.WideKeyPair
import Derived.Carry
import Derived.Deep.RegionHeld3
import Derived.Deep.RegionWith
import Derived.BigRegionIn
import Derived.Deep.AppendLies
import Derived.Deep.QuietTactic
import Derived.LoopN
import Derived.Deep.RegionWith
import Derived.BigQuiet
import Derived.Deep.AppendLies
import Derived.Laws.AppendOwnNone
import Derived.Deep.AppendLies
import Derived.Test.YtjiaepphnddpoaaGreatT01
import Derived.Test.YtjiaepphnddpoaaGreatT02
import Derived.Test.YtjiaepphnddpoaaGreatT03
import Derived.Test.YtjiaepphnddpoaaGreatT04
import Derived.Test.YtjiaepphnddpoaaGreatT05
import Derived.Test.YtjiaepphnddpoaaGreatT06
import Derived.Test.YtjiaepphnddpoaaGreatT07
import Derived.Test.YtjiaepphnddpoaaGreatT08
import Derived.Test.YtjiaepphnddpoaaGreatT09
import Derived.Test.YtjiaepphnddpoaaGreatT10
import Derived.Test.YtjiaepphnddpoaaGreatT11
import Derived.Test.YtjiaepphnddpoaaGreatT12
import Derived.Test.YtjiaepphnddpoaaGreatT13
import Derived.Test.YtjiaepphnddpoaaGreatT14
import Derived.Test.YtjiaepphnddpoaaGreatT15
import Derived.Test.YtjiaepphnddpoaaGreatT16
namespace Go.Proofs.YtjiaepphnddpoaaGreat
open Go.RowKit Go.Shelf
set_option linter.unusedSimpArgs false
set_option linter.unusedVariables false
set_option maxRecDepth 100000 in
set_option maxHeartbeats 400000 in
theorem Rother_any (b : Bnd) (w : World) (h : midB b) :
    Calls Tryz.prog 190 #[.agg #[.int .i64 b.lo, .int .i64 b.hi]] w fun e w' => e = .returned (.agg #[.int .i64 (-b.hi), .int .i64 (-b.lo)]) ∧ Below w.heap.size w w' := by
  obtain ⟨h1, h2, h3, h4⟩ := h
  have u1 := IntWalk.i64_in (-b.hi) (by omega)
  have u2 := IntWalk.i64_in (-b.lo) (by omega)
  obtain ⟨w1, hw1⟩ : ∃ w1, w1 = (w.alloc (.cells #[.int .i64 b.lo, .int .i64 b.hi] 24)).alloc (.cells #[.int .i64 (-b.hi), .int .i64 (-b.lo)] 24) := ⟨_, rfl⟩
  have kz : Blk w1 (w.heap.size + 1) 24 #[.int .i64 (-b.hi), .int .i64 (-b.lo)] := by rw [hw1]; exact Blk.newAt (by simp)
  have hb : Below w.heap.size w w1 := by rw [hw1]; exact ((Below.refl _ _).alloc (Nat.le_refl _) _).alloc (by simp) _
  go_enter Tryz.func190, Tryz.ntmps190
  go_wp2
  rw [← hw1]
  clear hw1
  obtain ⟨c4, f4, l4⟩ := kz.rules
  exact bodyPost_ret (v := .agg #[.int .i64 (-b.hi), .int .i64 (-b.lo)]) (by simp [results, Tryz.results190, go_sem, c4]) rfl ⟨rfl, hb⟩
set_option maxRecDepth 100000 in
set_option maxHeartbeats 1000000 in
theorem Ropposite_any (r : Reg) (w : World) (hr : midR r) :
    Calls Tryz.prog 172 #[.agg (regA r)] w fun e w' => e = .returned (.agg (regA (negR r))) ∧ Below w.heap.size w w' := by
  obtain ⟨m1, m2, m3, m4⟩ := hr
  simp only [regA, negR, negB]
  obtain ⟨w1, hw1⟩ : ∃ w1, w1 = (w.alloc (.cells #[.int .i64 r.x.lo, .int .i64 r.x.hi, .int .i64 r.y.lo, .int .i64 r.y.hi, .int .i64 r.s.lo, .int .i64 r.s.hi, .int .i64 r.d.lo, .int .i64 r.d.hi] 45)).alloc (.cells #[.int .i64 0, .int .i64 0, .int .i64 0, .int .i64 0, .int .i64 0, .int .i64 0, .int .i64 0, .int .i64 0] 45) := ⟨_, rfl⟩
  have k1 : Blk w1 w.heap.size 45 #[.int .i64 r.x.lo, .int .i64 r.x.hi, .int .i64 r.y.lo, .int .i64 r.y.hi, .int .i64 r.s.lo, .int .i64 r.s.hi, .int .i64 r.d.lo, .int .i64 r.d.hi] := by rw [hw1]; exact (Blk.new _ _ _).alloc _
  have k2 : Blk w1 (w.heap.size + 1) 45 #[.int .i64 0, .int .i64 0, .int .i64 0, .int .i64 0, .int .i64 0, .int .i64 0, .int .i64 0, .int .i64 0] := by rw [hw1]; exact Blk.newAt (by simp)
  have hb : Below w.heap.size w w1 := by rw [hw1]; exact ((Below.refl _ _).alloc (Nat.le_refl _) _).alloc (by simp) _
  go_enter Tryz.func172, Tryz.ntmps172
  go_wp2_with fail
  rw [← hw1]
  clear hw1
  refine wp_held_np (fun w' : World => ∀ j, w'.cell? ⟨w.heap.size, j, none⟩ = #[Value.int .i64 r.x.lo, .int .i64 r.x.hi, .int .i64 r.y.lo, .int .i64 r.y.hi, .int .i64 r.s.lo, .int .i64 r.s.hi, .int .i64 r.d.lo, .int .i64 r.d.hi][j]?) (by kernel_rfl) ?_
  replace k1 := k1.drew
  replace k2 := k2.drew
  replace hb := hb.drew
  generalize w1.drew = W at *
  have hS : (fun w' : World => ∀ j, w'.cell? ⟨w.heap.size, j, none⟩ = #[Value.int .i64 r.x.lo, .int .i64 r.x.hi, .int .i64 r.y.lo, .int .i64 r.y.hi, .int .i64 r.s.lo, .int .i64 r.s.hi, .int .i64 r.d.lo, .int .i64 r.d.hi][j]?) W := k1.cell
  refine held_take (i := 0) (v := ?_) 3 rfl rfl (by kernel_rfl) (by kernel_rfl) (by kernel_rfl) (fun _ _ _ h => h) (Or.inl ⟨by rfl, ?_⟩) hS ?_
  rotate_left 1
  · intro w' hSw
    try dsimp only at hSw
    obtain q1 := hSw
    go_simp
    all_goals with_reducible rfl
  try simp only [Act.put, List.setIfInBounds_toArray, List.set_cons_zero, List.set_cons_succ]
  refine held_take (i := 1) (v := ?_) 4 rfl rfl (by kernel_rfl) (by kernel_rfl) (by kernel_rfl) (fun _ _ _ h => h) (Or.inl ⟨by rfl, ?_⟩) hS ?_
  rotate_left 1
  · intro w' hSw
    try dsimp only at hSw
    obtain q1 := hSw
    go_simp
    all_goals with_reducible rfl
  try simp only [Act.put, List.setIfInBounds_toArray, List.set_cons_zero, List.set_cons_succ]
  refine held_take (i := 3) (v := ?_) 6 rfl rfl (by kernel_rfl) (by kernel_rfl) (by kernel_rfl) (fun _ _ _ h => h) (Or.inl ⟨by rfl, ?_⟩) hS ?_
  rotate_left 1
  · intro w' hSw
    try dsimp only at hSw
    obtain q1 := hSw
    go_simp
    all_goals with_reducible rfl
  try simp only [Act.put, List.setIfInBounds_toArray, List.set_cons_zero, List.set_cons_succ]
  refine held_take (i := 4) (v := ?_) 7 rfl rfl (by kernel_rfl) (by kernel_rfl) (by kernel_rfl) (fun _ _ _ h => h) (Or.inl ⟨by rfl, ?_⟩) hS ?_
  rotate_left 1
  · intro w' hSw
    try dsimp only at hSw
    obtain q1 := hSw
    go_simp
    all_goals with_reducible rfl
  try simp only [Act.put, List.setIfInBounds_toArray, List.set_cons_zero, List.set_cons_succ]
  refine held_take (i := 6) (v := ?_) 9 rfl rfl (by kernel_rfl) (by kernel_rfl) (by kernel_rfl) (fun _ _ _ h => h) (Or.inl ⟨by rfl, ?_⟩) hS ?_
  rotate_left 1
  · intro w' hSw
    try dsimp only at hSw
    obtain q1 := hSw
    go_simp
    all_goals with_reducible rfl
  try simp only [Act.put, List.setIfInBounds_toArray, List.set_cons_zero, List.set_cons_succ]
  refine held_take (i := 7) (v := ?_) 10 rfl rfl (by kernel_rfl) (by kernel_rfl) (by kernel_rfl) (fun _ _ _ h => h) (Or.inl ⟨by rfl, ?_⟩) hS ?_
  rotate_left 1
  · intro w' hSw
    try dsimp only at hSw
    obtain q1 := hSw
    go_simp
    all_goals with_reducible rfl
  try simp only [Act.put, List.setIfInBounds_toArray, List.set_cons_zero, List.set_cons_succ]
  refine held_take (i := 9) (v := ?_) 12 rfl rfl (by kernel_rfl) (by kernel_rfl) (by kernel_rfl) (fun _ _ _ h => h) (Or.inl ⟨by rfl, ?_⟩) hS ?_
  rotate_left 1
  · intro w' hSw
    try dsimp only at hSw
    obtain q1 := hSw
    go_simp
    all_goals with_reducible rfl
  try simp only [Act.put, List.setIfInBounds_toArray, List.set_cons_zero, List.set_cons_succ]
  refine held_take (i := 10) (v := ?_) 13 rfl rfl (by kernel_rfl) (by kernel_rfl) (by kernel_rfl) (fun _ _ _ h => h) (Or.inl ⟨by rfl, ?_⟩) hS ?_
  rotate_left 1
  · intro w' hSw
    try dsimp only at hSw
    obtain q1 := hSw
    go_simp
    all_goals with_reducible rfl
  try simp only [Act.put, List.setIfInBounds_toArray, List.set_cons_zero, List.set_cons_succ]
  refine held_one (i := 2) (by kernel_rfl) rfl rfl (fun K hK => ?_)
  go_simp
  refine (Rother_any r.x _ m1).mono ?_
  rintro e W1 ⟨rfl, hbel⟩
  clear hS
  replace k1 := k1.below hbel
  replace k2 := k2.below hbel
  replace hb := hb.trans (hbel.mono hb.size)
  clear hbel
  have hS : (fun w' : World => ∀ j, w'.cell? ⟨w.heap.size, j, none⟩ = #[Value.int .i64 r.x.lo, .int .i64 r.x.hi, .int .i64 r.y.lo, .int .i64 r.y.hi, .int .i64 r.s.lo, .int .i64 r.s.hi, .int .i64 r.d.lo, .int .i64 r.d.hi][j]?) W1 := k1.cell
  refine hK _ _ hS ?_
  clear hK K
  try simp only [Act.put, List.setIfInBounds_toArray, List.set_cons_zero, List.set_cons_succ]
  refine held_one (i := 5) (by kernel_rfl) rfl rfl (fun K hK => ?_)
  go_simp
  refine (Rother_any r.y _ m2).mono ?_
  rintro e W2 ⟨rfl, hbel⟩
  clear hS
  replace k1 := k1.below hbel
  replace k2 := k2.below hbel
  replace hb := hb.trans (hbel.mono hb.size)
  clear hbel
  have hS : (fun w' : World => ∀ j, w'.cell? ⟨w.heap.size, j, none⟩ = #[Value.int .i64 r.x.lo, .int .i64 r.x.hi, .int .i64 r.y.lo, .int .i64 r.y.hi, .int .i64 r.s.lo, .int .i64 r.s.hi, .int .i64 r.d.lo, .int .i64 r.d.hi][j]?) W2 := k1.cell
  refine hK _ _ hS ?_
  clear hK K
  try simp only [Act.put, List.setIfInBounds_toArray, List.set_cons_zero, List.set_cons_succ]
  refine held_one (i := 8) (by kernel_rfl) rfl rfl (fun K hK => ?_)
  go_simp
  refine (Rother_any r.s _ m3).mono ?_
  rintro e W3 ⟨rfl, hbel⟩
  clear hS
  replace k1 := k1.below hbel
  replace k2 := k2.below hbel
  replace hb := hb.trans (hbel.mono hb.size)
  clear hbel
  have hS : (fun w' : World => ∀ j, w'.cell? ⟨w.heap.size, j, none⟩ = #[Value.int .i64 r.x.lo, .int .i64 r.x.hi, .int .i64 r.y.lo, .int .i64 r.y.hi, .int .i64 r.s.lo, .int .i64 r.s.hi, .int .i64 r.d.lo, .int .i64 r.d.hi][j]?) W3 := k1.cell
  refine hK _ _ hS ?_
  clear hK K
  try simp only [Act.put, List.setIfInBounds_toArray, List.set_cons_zero, List.set_cons_succ]
  refine held_one (i := 11) (by kernel_rfl) rfl rfl (fun K hK => ?_)
  go_simp
  refine (Rother_any r.d _ m4).mono ?_
  rintro e W4 ⟨rfl, hbel⟩
  clear hS
  replace k1 := k1.below hbel
  replace k2 := k2.below hbel
  replace hb := hb.trans (hbel.mono hb.size)
  clear hbel
  have hS : (fun w' : World => ∀ j, w'.cell? ⟨w.heap.size, j, none⟩ = #[Value.int .i64 r.x.lo, .int .i64 r.x.hi, .int .i64 r.y.lo, .int .i64 r.y.hi, .int .i64 r.s.lo, .int .i64 r.s.hi, .int .i64 r.d.lo, .int .i64 r.d.hi][j]?) W4 := k1.cell
  refine hK _ _ hS ?_
  clear hK K
  try simp only [Act.put, List.setIfInBounds_toArray, List.set_cons_zero, List.set_cons_succ]
  refine held_take (i := 12) (v := ?_) 15 rfl rfl (by kernel_rfl) (by kernel_rfl) (by kernel_rfl) (fun _ _ _ h => h) (Or.inl ⟨by rfl, ?_⟩) hS ?_
  rotate_left 1
  · intro w' hSw
    try dsimp only at hSw
    obtain q1 := hSw
    go_simp
    all_goals with_reducible rfl
  try simp only [Act.put, List.setIfInBounds_toArray, List.set_cons_zero, List.set_cons_succ]
  have kz := k2.set8 (.int .i64 (-r.x.hi)) (.int .i64 (-r.x.lo)) (.int .i64 (-r.y.hi)) (.int .i64 (-r.y.lo)) (.int .i64 (-r.s.hi)) (.int .i64 (-r.s.lo)) (.int .i64 (-r.d.hi)) (.int .i64 (-r.d.lo))
  have k1z := far_set8 k1 (g := w.heap.size + 1) (by omega) (.int .i64 (-r.x.hi)) (.int .i64 (-r.x.lo)) (.int .i64 (-r.y.hi)) (.int .i64 (-r.y.lo)) (.int .i64 (-r.s.hi)) (.int .i64 (-r.s.lo)) (.int .i64 (-r.d.hi)) (.int .i64 (-r.d.lo))
  have bz := below_set8 (g := w.heap.size + 1) hb (by omega) (.int .i64 (-r.x.hi)) (.int .i64 (-r.x.lo)) (.int .i64 (-r.y.hi)) (.int .i64 (-r.y.lo)) (.int .i64 (-r.s.hi)) (.int .i64 (-r.s.lo)) (.int .i64 (-r.d.hi)) (.int .i64 (-r.d.lo))
  obtain ⟨wz, hwz⟩ : ∃ x, x = set8 W4 (w.heap.size + 1) (.int .i64 (-r.x.hi)) (.int .i64 (-r.x.lo)) (.int .i64 (-r.y.hi)) (.int .i64 (-r.y.lo)) (.int .i64 (-r.s.hi)) (.int .i64 (-r.s.lo)) (.int .i64 (-r.d.hi)) (.int .i64 (-r.d.lo)) := ⟨_, rfl⟩
  rw [← hwz] at kz k1z bz
  simp only [set8] at hwz
  obtain ⟨c2, f2, l2⟩ := k2.rules
  refine held_one (i := 13) (by kernel_rfl) rfl rfl (fun K hK => ?_)
  go_simp
  rw [← hwz]
  clear hwz c2 f2 l2 hS
  refine hK _ _ k1z.cell ?_
  clear hK K
  refine wpAnyH_done (by kernel_rfl) (noPanic_normal ?_) _
  go_wp2
  obtain ⟨c2, f2, l2⟩ := kz.rules
  exact bodyPost_ret (v := .agg #[.int .i64 (-r.x.hi), .int .i64 (-r.x.lo), .int .i64 (-r.y.hi), .int .i64 (-r.y.lo), .int .i64 (-r.s.hi), .int .i64 (-r.s.lo), .int .i64 (-r.d.hi), .int .i64 (-r.d.lo)]) (by simp [results, Tryz.results172, go_sem, c2]) rfl ⟨rfl, bz⟩
set_option maxRecDepth 100000 in
set_option maxHeartbeats 400000 in
theorem Rtwo_any (a b : Reg) (w : World) (ha : okReg a = true) (hb0 : okReg b = true) :
    Calls Tryz.prog 188 #[.agg (regA a), .agg (regA b)] w fun e w' => e = .returned (.int .i64 0) ∧ Below w.heap.size w w' := by
  have hc1 := fun W => RCheckR_any a W
  have hc2 := fun W => RCheckR_any b W
  have e1 : chkReg a = 0 := by simp [chkReg, ha]
  have e2 : chkReg b = 0 := by simp [chkReg, hb0]
  simp only [e1] at hc1
  simp only [e2] at hc2
  clear e1 e2 ha hb0
  simp only [regA] at hc1 hc2 ⊢
  obtain ⟨w1, hw1⟩ : ∃ w1, w1 = (w.alloc (.cells #[.int .i64 a.x.lo, .int .i64 a.x.hi, .int .i64 a.y.lo, .int .i64 a.y.hi, .int .i64 a.s.lo, .int .i64 a.s.hi, .int .i64 a.d.lo, .int .i64 a.d.hi] 45)).alloc (.cells #[.int .i64 b.x.lo, .int .i64 b.x.hi, .int .i64 b.y.lo, .int .i64 b.y.hi, .int .i64 b.s.lo, .int .i64 b.s.hi, .int .i64 b.d.lo, .int .i64 b.d.hi] 45) := ⟨_, rfl⟩
  have k3 : Blk w1 (w.heap.size + 1) 45 #[.int .i64 b.x.lo, .int .i64 b.x.hi, .int .i64 b.y.lo, .int .i64 b.y.hi, .int .i64 b.s.lo, .int .i64 b.s.hi, .int .i64 b.d.lo, .int .i64 b.d.hi] := by rw [hw1]; exact Blk.newAt (by simp)
  have hb : Below w.heap.size w w1 := by rw [hw1]; exact ((Below.refl _ _).alloc (Nat.le_refl _) _).alloc (by simp) _
  go_enter Tryz.func188, Tryz.ntmps188
  go_wp2_with fail
  rw [← hw1]
  clear hw1
  refine (hc1 _).mono ?_
  rintro e W ⟨rfl, hbel⟩
  replace k3 := k3.below hbel
  replace hb := hb.trans (hbel.mono hb.size)
  clear hbel
  obtain ⟨c3, f3, l3⟩ := k3.rules
  go_wp2_with fail
  refine (hc2 _).mono ?_
  rintro e W2 ⟨rfl, hbel⟩
  go_wp2
  go_ret
  exact ⟨rfl, hb.trans (hbel.mono hb.size)⟩
set_option maxRecDepth 100000 in
set_option maxHeartbeats 2000000 in
theorem Rtights_any (a b x y : Reg) (w : World) (ha : okReg a = true) (hb0 : okReg b = true) (hx : tightO a = some x) (hy : tightO b = some y) :
    Calls Tryz.prog 170 #[.agg (regA a), .agg (regA b)] w fun e w' => e = .returned (.tuple #[.agg (regA x), .agg (regA y), .int .i64 0]) ∧ Below w.heap.size w w' := by
  have h0 := fun W => Rtwo_any a b W ha hb0
  have hh1 := fun g W k => Rhulls_any g a W k ha
  have hh2 := fun g W k => Rhulls_any g b W k hb0
  simp only [hx, doneR] at hh1
  simp only [hy, doneR] at hh2
  simp only [regA] at h0 hh1 hh2 ⊢
  clear ha hb0 hx hy
  obtain ⟨w1, hw1⟩ : ∃ w1, w1 = (((w.alloc (.cells #[.int .i64 a.x.lo, .int .i64 a.x.hi, .int .i64 a.y.lo, .int .i64 a.y.hi, .int .i64 a.s.lo, .int .i64 a.s.hi, .int .i64 a.d.lo, .int .i64 a.d.hi] 45)).alloc (.cells #[.int .i64 b.x.lo, .int .i64 b.x.hi, .int .i64 b.y.lo, .int .i64 b.y.hi, .int .i64 b.s.lo, .int .i64 b.s.hi, .int .i64 b.d.lo, .int .i64 b.d.hi] 45)).alloc (.cells #[.int .i64 0, .int .i64 0, .int .i64 0, .int .i64 0, .int .i64 0, .int .i64 0, .int .i64 0, .int .i64 0] 45)).alloc (.cells #[.int .i64 0, .int .i64 0, .int .i64 0, .int .i64 0, .int .i64 0, .int .i64 0, .int .i64 0, .int .i64 0] 45) := ⟨_, rfl⟩
  have k2 : Blk w1 w.heap.size 45 #[.int .i64 a.x.lo, .int .i64 a.x.hi, .int .i64 a.y.lo, .int .i64 a.y.hi, .int .i64 a.s.lo, .int .i64 a.s.hi, .int .i64 a.d.lo, .int .i64 a.d.hi] := by rw [hw1]; exact (((Blk.new _ _ _).alloc _).alloc _).alloc _
  have k3 : Blk w1 (w.heap.size + 1) 45 #[.int .i64 b.x.lo, .int .i64 b.x.hi, .int .i64 b.y.lo, .int .i64 b.y.hi, .int .i64 b.s.lo, .int .i64 b.s.hi, .int .i64 b.d.lo, .int .i64 b.d.hi] := by rw [hw1]; exact ((Blk.newAt (by simp)).alloc _).alloc _
  have k4 : Blk w1 (w.heap.size + 1 + 1) 45 #[.int .i64 0, .int .i64 0, .int .i64 0, .int .i64 0, .int .i64 0, .int .i64 0, .int .i64 0, .int .i64 0] := by rw [hw1]; exact (Blk.newAt (by simp)).alloc _
  have k5 : Blk w1 (w.heap.size + 1 + 1 + 1) 45 #[.int .i64 0, .int .i64 0, .int .i64 0, .int .i64 0, .int .i64 0, .int .i64 0, .int .i64 0, .int .i64 0] := by rw [hw1]; exact Blk.newAt (by simp)
  have hb : Below w.heap.size w w1 := by rw [hw1]; exact ((((Below.refl _ _).alloc (Nat.le_refl _) _).alloc (by simp) _).alloc (by simp; omega) _).alloc (by simp; omega) _
  go_enter Tryz.func170, Tryz.ntmps170
  go_wp2_with fail
  rw [← hw1]
  clear hw1
  refine (h0 _).mono ?_
  rintro e W ⟨rfl, hbel⟩
  clear h0
  replace k2 := k2.below hbel
  replace k3 := k3.below hbel
  replace k4 := k4.below hbel
  replace k5 := k5.below hbel
  replace hb := hb.trans (hbel.mono hb.size)
  clear hbel
  obtain ⟨c2, f2, l2⟩ := k2.rules
  go_wp2_with fail
  clear c2 f2 l2
  have kl := Blk.new W 45 #[.int .i64 a.x.lo, .int .i64 a.x.hi, .int .i64 a.y.lo, .int .i64 a.y.hi, .int .i64 a.s.lo, .int .i64 a.s.hi, .int .i64 a.d.lo, .int .i64 a.d.hi]
  have hbel := (Below.refl W.heap.size W).alloc (Nat.le_refl _) (.cells #[.int .i64 a.x.lo, .int .i64 a.x.hi, .int .i64 a.y.lo, .int .i64 a.y.hi, .int .i64 a.s.lo, .int .i64 a.s.hi, .int .i64 a.d.lo, .int .i64 a.d.hi] 45)
  replace k2 := k2.below hbel
  replace k3 := k3.below hbel
  replace k4 := k4.below hbel
  replace k5 := k5.below hbel
  replace hb := hb.trans (hbel.mono hb.size)
  clear hbel
  generalize W.alloc (.cells #[.int .i64 a.x.lo, .int .i64 a.x.hi, .int .i64 a.y.lo, .int .i64 a.y.hi, .int .i64 a.s.lo, .int .i64 a.s.hi, .int .i64 a.d.lo, .int .i64 a.d.hi] 45) = W2 at *
  generalize W.heap.size = gl at *
  refine (hh1 _ _ kl).mono ?_
  rintro e W3 ⟨rfl, hbel⟩
  clear hh1 kl
  replace k2 := k2.below hbel
  replace k3 := k3.below hbel
  replace k4 := k4.below hbel
  replace k5 := k5.below hbel
  replace hb := hb.trans (hbel.mono hb.size)
  clear hbel
  have k8 := Blk.new W3 45 #[.int .i64 x.x.lo, .int .i64 x.x.hi, .int .i64 x.y.lo, .int .i64 x.y.hi, .int .i64 x.s.lo, .int .i64 x.s.hi, .int .i64 x.d.lo, .int .i64 x.d.hi]
  have hbel := (Below.refl W3.heap.size W3).alloc (Nat.le_refl _) (.cells #[.int .i64 x.x.lo, .int .i64 x.x.hi, .int .i64 x.y.lo, .int .i64 x.y.hi, .int .i64 x.s.lo, .int .i64 x.s.hi, .int .i64 x.d.lo, .int .i64 x.d.hi] 45)
  have hg8 : w.heap.size + 1 + 1 + 1 < W3.heap.size := k5.lt
  obtain ⟨c3, f3, l3⟩ := k3.rules
  replace k2 := k2.below hbel
  replace k3 := k3.below hbel
  replace k4 := k4.below hbel
  replace k5 := k5.below hbel
  replace hb := hb.trans (hbel.mono hb.size)
  clear hbel
  have kl : Blk ((W3.alloc (.cells #[.int .i64 x.x.lo, .int .i64 x.x.hi, .int .i64 x.y.lo, .int .i64 x.y.hi, .int .i64 x.s.lo, .int .i64 x.s.hi, .int .i64 x.d.lo, .int .i64 x.d.hi] 45)).alloc (.cells #[.int .i64 b.x.lo, .int .i64 b.x.hi, .int .i64 b.y.lo, .int .i64 b.y.hi, .int .i64 b.s.lo, .int .i64 b.s.hi, .int .i64 b.d.lo, .int .i64 b.d.hi] 45)) (W3.heap.size + 1) 45 #[.int .i64 b.x.lo, .int .i64 b.x.hi, .int .i64 b.y.lo, .int .i64 b.y.hi, .int .i64 b.s.lo, .int .i64 b.s.hi, .int .i64 b.d.lo, .int .i64 b.d.hi] := Blk.newAt (by simp)
  have hbel := (Below.refl (W3.alloc (.cells #[.int .i64 x.x.lo, .int .i64 x.x.hi, .int .i64 x.y.lo, .int .i64 x.y.hi, .int .i64 x.s.lo, .int .i64 x.s.hi, .int .i64 x.d.lo, .int .i64 x.d.hi] 45)).heap.size (W3.alloc (.cells #[.int .i64 x.x.lo, .int .i64 x.x.hi, .int .i64 x.y.lo, .int .i64 x.y.hi, .int .i64 x.s.lo, .int .i64 x.s.hi, .int .i64 x.d.lo, .int .i64 x.d.hi] 45))).alloc (Nat.le_refl _) (.cells #[.int .i64 b.x.lo, .int .i64 b.x.hi, .int .i64 b.y.lo, .int .i64 b.y.hi, .int .i64 b.s.lo, .int .i64 b.s.hi, .int .i64 b.d.lo, .int .i64 b.d.hi] 45)
  replace k2 := k2.below hbel
  replace k3 := k3.below hbel
  replace k4 := k4.below hbel
  replace k5 := k5.below hbel
  replace hb := hb.trans (hbel.mono hb.size)
  replace k8 := k8.below hbel
  clear hbel
  go_wp2_with fail
  clear c3 f3 l3
  generalize (W3.alloc (.cells #[.int .i64 x.x.lo, .int .i64 x.x.hi, .int .i64 x.y.lo, .int .i64 x.y.hi, .int .i64 x.s.lo, .int .i64 x.s.hi, .int .i64 x.d.lo, .int .i64 x.d.hi] 45)).alloc (.cells #[.int .i64 b.x.lo, .int .i64 b.x.hi, .int .i64 b.y.lo, .int .i64 b.y.hi, .int .i64 b.s.lo, .int .i64 b.s.hi, .int .i64 b.d.lo, .int .i64 b.d.hi] 45) = W5 at *
  generalize W3.heap.size = g8 at *
  refine (hh2 _ _ kl).mono ?_
  rintro e W6 ⟨rfl, hbel⟩
  clear hh2 kl
  replace k2 := k2.below hbel
  replace k3 := k3.below hbel
  replace k4 := k4.below hbel
  replace k5 := k5.below hbel
  replace hb := hb.trans (hbel.mono hb.size)
  replace k8 := k8.below hbel
  clear hbel
  have hg10 : g8 < W6.heap.size := k8.lt
  have k10 := Blk.new W6 45 #[.int .i64 y.x.lo, .int .i64 y.x.hi, .int .i64 y.y.lo, .int .i64 y.y.hi, .int .i64 y.s.lo, .int .i64 y.s.hi, .int .i64 y.d.lo, .int .i64 y.d.hi]
  have hbel := (Below.refl W6.heap.size W6).alloc (Nat.le_refl _) (.cells #[.int .i64 y.x.lo, .int .i64 y.x.hi, .int .i64 y.y.lo, .int .i64 y.y.hi, .int .i64 y.s.lo, .int .i64 y.s.hi, .int .i64 y.d.lo, .int .i64 y.d.hi] 45)
  replace k2 := k2.below hbel
  replace k3 := k3.below hbel
  replace k4 := k4.below hbel
  replace k5 := k5.below hbel
  replace hb := hb.trans (hbel.mono hb.size)
  replace k8 := k8.below hbel
  clear hbel
  go_wp2_with fail
  generalize W6.alloc (.cells #[.int .i64 y.x.lo, .int .i64 y.x.hi, .int .i64 y.y.lo, .int .i64 y.y.hi, .int .i64 y.s.lo, .int .i64 y.s.hi, .int .i64 y.d.lo, .int .i64 y.d.hi] 45) = W7 at *
  generalize W6.heap.size = g10 at *
  refine wp_held_np (fun w' : World => (∀ j, w'.cell? ⟨g8, j, none⟩ = #[Value.int .i64 x.x.lo, .int .i64 x.x.hi, .int .i64 x.y.lo, .int .i64 x.y.hi, .int .i64 x.s.lo, .int .i64 x.s.hi, .int .i64 x.d.lo, .int .i64 x.d.hi][j]?) ∧ (∀ j, w'.cell? ⟨g10, j, none⟩ = #[Value.int .i64 y.x.lo, .int .i64 y.x.hi, .int .i64 y.y.lo, .int .i64 y.y.hi, .int .i64 y.s.lo, .int .i64 y.s.hi, .int .i64 y.d.lo, .int .i64 y.d.hi][j]?)) (by kernel_rfl) ?_
  replace k4 := k4.drew
  replace k5 := k5.drew
  replace k8 := k8.drew
  replace k10 := k10.drew
  replace hb := hb.drew
  generalize W7.drew = Wd at *
  have hS : (fun w' : World => (∀ j, w'.cell? ⟨g8, j, none⟩ = #[Value.int .i64 x.x.lo, .int .i64 x.x.hi, .int .i64 x.y.lo, .int .i64 x.y.hi, .int .i64 x.s.lo, .int .i64 x.s.hi, .int .i64 x.d.lo, .int .i64 x.d.hi][j]?) ∧ (∀ j, w'.cell? ⟨g10, j, none⟩ = #[Value.int .i64 y.x.lo, .int .i64 y.x.hi, .int .i64 y.y.lo, .int .i64 y.y.hi, .int .i64 y.s.lo, .int .i64 y.s.hi, .int .i64 y.d.lo, .int .i64 y.d.hi][j]?)) Wd := ⟨k8.cell, k10.cell⟩
  refine held_take (i := 0) (v := ?_) 41 rfl rfl (by kernel_rfl) (by kernel_rfl) (by kernel_rfl) (fun _ _ _ h => h) (Or.inl ⟨by rfl, ?_⟩) hS ?_
  rotate_left 1
  · intro w' hSw
    try dsimp only at hSw
    obtain ⟨q1, q2⟩ := hSw
    go_simp
    all_goals with_reducible rfl
  try simp only [Act.put, List.setIfInBounds_toArray, List.set_cons_zero, List.set_cons_succ]
  refine held_take (i := 1) (v := ?_) 42 rfl rfl (by kernel_rfl) (by kernel_rfl) (by kernel_rfl) (fun _ _ _ h => h) (Or.inl ⟨by rfl, ?_⟩) hS ?_
  rotate_left 1
  · intro w' hSw
    try dsimp only at hSw
    obtain ⟨q1, q2⟩ := hSw
    go_simp
    all_goals with_reducible rfl
  try simp only [Act.put, List.setIfInBounds_toArray, List.set_cons_zero, List.set_cons_succ]
  have k4z := k4.set8 (.int .i64 x.x.lo) (.int .i64 x.x.hi) (.int .i64 x.y.lo) (.int .i64 x.y.hi) (.int .i64 x.s.lo) (.int .i64 x.s.hi) (.int .i64 x.d.lo) (.int .i64 x.d.hi)
  have k5z := far_set8 k5 (show w.heap.size + 1 + 1 + 1 ≠ w.heap.size + 1 + 1 by omega) (.int .i64 x.x.lo) (.int .i64 x.x.hi) (.int .i64 x.y.lo) (.int .i64 x.y.hi) (.int .i64 x.s.lo) (.int .i64 x.s.hi) (.int .i64 x.d.lo) (.int .i64 x.d.hi)
  have k8z := far_set8 k8 (show g8 ≠ w.heap.size + 1 + 1 by omega) (.int .i64 x.x.lo) (.int .i64 x.x.hi) (.int .i64 x.y.lo) (.int .i64 x.y.hi) (.int .i64 x.s.lo) (.int .i64 x.s.hi) (.int .i64 x.d.lo) (.int .i64 x.d.hi)
  have k10z := far_set8 k10 (show g10 ≠ w.heap.size + 1 + 1 by omega) (.int .i64 x.x.lo) (.int .i64 x.x.hi) (.int .i64 x.y.lo) (.int .i64 x.y.hi) (.int .i64 x.s.lo) (.int .i64 x.s.hi) (.int .i64 x.d.lo) (.int .i64 x.d.hi)
  have hbz := below_set8 (g := w.heap.size + 1 + 1) hb (by omega) (.int .i64 x.x.lo) (.int .i64 x.x.hi) (.int .i64 x.y.lo) (.int .i64 x.y.hi) (.int .i64 x.s.lo) (.int .i64 x.s.hi) (.int .i64 x.d.lo) (.int .i64 x.d.hi)
  obtain ⟨wz, hwz⟩ : ∃ q, q = set8 Wd (w.heap.size + 1 + 1) (.int .i64 x.x.lo) (.int .i64 x.x.hi) (.int .i64 x.y.lo) (.int .i64 x.y.hi) (.int .i64 x.s.lo) (.int .i64 x.s.hi) (.int .i64 x.d.lo) (.int .i64 x.d.hi) := ⟨_, rfl⟩
  rw [← hwz] at k4z k5z k8z k10z hbz
  simp only [set8] at hwz
  obtain ⟨c4, f4, l4⟩ := k4.rules
  refine held_one (i := 2) (by kernel_rfl) rfl rfl (fun K hK => ?_)
  go_simp
  rw [← hwz]
  refine hK _ _ ⟨k8z.cell, k10z.cell⟩ ?_
  clear hK K hwz c4 f4 l4 k4 k5 k8 k10 hb hS
  try simp only [Act.put, List.setIfInBounds_toArray, List.set_cons_zero, List.set_cons_succ]
  have k5y := k5z.set8 (.int .i64 y.x.lo) (.int .i64 y.x.hi) (.int .i64 y.y.lo) (.int .i64 y.y.hi) (.int .i64 y.s.lo) (.int .i64 y.s.hi) (.int .i64 y.d.lo) (.int .i64 y.d.hi)
  have k4y := far_set8 k4z (show w.heap.size + 1 + 1 ≠ w.heap.size + 1 + 1 + 1 by omega) (.int .i64 y.x.lo) (.int .i64 y.x.hi) (.int .i64 y.y.lo) (.int .i64 y.y.hi) (.int .i64 y.s.lo) (.int .i64 y.s.hi) (.int .i64 y.d.lo) (.int .i64 y.d.hi)
  have k8y := far_set8 k8z (show g8 ≠ w.heap.size + 1 + 1 + 1 by omega) (.int .i64 y.x.lo) (.int .i64 y.x.hi) (.int .i64 y.y.lo) (.int .i64 y.y.hi) (.int .i64 y.s.lo) (.int .i64 y.s.hi) (.int .i64 y.d.lo) (.int .i64 y.d.hi)
  have k10y := far_set8 k10z (show g10 ≠ w.heap.size + 1 + 1 + 1 by omega) (.int .i64 y.x.lo) (.int .i64 y.x.hi) (.int .i64 y.y.lo) (.int .i64 y.y.hi) (.int .i64 y.s.lo) (.int .i64 y.s.hi) (.int .i64 y.d.lo) (.int .i64 y.d.hi)
  have hby := below_set8 (g := w.heap.size + 1 + 1 + 1) hbz (by omega) (.int .i64 y.x.lo) (.int .i64 y.x.hi) (.int .i64 y.y.lo) (.int .i64 y.y.hi) (.int .i64 y.s.lo) (.int .i64 y.s.hi) (.int .i64 y.d.lo) (.int .i64 y.d.hi)
  obtain ⟨wy2, hwy⟩ : ∃ q, q = set8 wz (w.heap.size + 1 + 1 + 1) (.int .i64 y.x.lo) (.int .i64 y.x.hi) (.int .i64 y.y.lo) (.int .i64 y.y.hi) (.int .i64 y.s.lo) (.int .i64 y.s.hi) (.int .i64 y.d.lo) (.int .i64 y.d.hi) := ⟨_, rfl⟩
  rw [← hwy] at k4y k5y k8y k10y hby
  simp only [set8] at hwy
  obtain ⟨c5, f5, l5⟩ := k5z.rules
  refine held_one (i := 3) (by kernel_rfl) rfl rfl (fun K hK => ?_)
  go_simp
  rw [← hwy]
  have hS : (fun w' : World => (∀ j, w'.cell? ⟨g8, j, none⟩ = #[Value.int .i64 x.x.lo, .int .i64 x.x.hi, .int .i64 x.y.lo, .int .i64 x.y.hi, .int .i64 x.s.lo, .int .i64 x.s.hi, .int .i64 x.d.lo, .int .i64 x.d.hi][j]?) ∧ (∀ j, w'.cell? ⟨g10, j, none⟩ = #[Value.int .i64 y.x.lo, .int .i64 y.x.hi, .int .i64 y.y.lo, .int .i64 y.y.hi, .int .i64 y.s.lo, .int .i64 y.s.hi, .int .i64 y.d.lo, .int .i64 y.d.hi][j]?)) wy2 := ⟨k8y.cell, k10y.cell⟩
  refine hK _ _ hS ?_
  clear hK K hwy c5 f5 l5 k4z k5z hbz k8z k10z
  try simp only [Act.put, List.setIfInBounds_toArray, List.set_cons_zero, List.set_cons_succ]
  refine held_take (i := 4) (v := ?_) 6 rfl rfl (by kernel_rfl) (by kernel_rfl) (by kernel_rfl) (fun _ _ _ h => h) (Or.inl ⟨by rfl, ?_⟩) hS ?_
  rotate_left 1
  · intro w' hSw
    try dsimp only at hSw
    obtain ⟨q1, q2⟩ := hSw
    go_simp
    all_goals with_reducible rfl
  try simp only [Act.put, List.setIfInBounds_toArray, List.set_cons_zero, List.set_cons_succ]
  refine wpAnyH_done (by kernel_rfl) (noPanic_normal ?_) _
  clear hS
  go_wp2
  obtain ⟨c4, f4, l4⟩ := k4y.rules
  obtain ⟨c5, f5, l5⟩ := k5y.rules
  exact bodyPost_ret (v := .tuple #[.agg #[.int .i64 x.x.lo, .int .i64 x.x.hi, .int .i64 x.y.lo, .int .i64 x.y.hi, .int .i64 x.s.lo, .int .i64 x.s.hi, .int .i64 x.d.lo, .int .i64 x.d.hi], .agg #[.int .i64 y.x.lo, .int .i64 y.x.hi, .int .i64 y.y.lo, .int .i64 y.y.hi, .int .i64 y.s.lo, .int .i64 y.s.hi, .int .i64 y.d.lo, .int .i64 y.d.hi], .int .i64 0]) (by simp [results, Tryz.results170, go_sem, c4, c5]) rfl ⟨rfl, hby⟩
set_option maxRecDepth 100000 in
set_option maxHeartbeats 2000000 in
theorem RGap_any (a b x y : Reg) (w : World) (ha : okReg a = true) (hb0 : okReg b = true) (hx : tightO a = some x) (hy : tightO b = some y) :
    Calls Tryz.prog 150 #[.agg (regA a), .agg (regA b)] w fun e w' => e = .returned (.tuple #[.agg #[.int .i64 (gapS x y).lo, .int .i64 (gapS x y).hi], .int .i64 0]) ∧ Below w.heap.size w w' := by
  have h1 := fun W => Rtights_any a b x y W ha hb0 hx hy
  have hox := tight_ok ha hx
  have hoy := tight_ok hb0 hy
  have h2 := fun W => Ropposite_any y W (okReg_mid hoy)
  have h3 := fun W => Radded_any x (negR y) W hox (negR_ok hoy)
  have he : zipR plusB x (negR y) = zipR minusB x y := by
    unfold zipR plusB minusB negR negB
    simp only [Reg.mk.injEq, Bnd.mk.injEq]
    omega
  simp only [he] at h3
  have h4 := fun W => Rlengths_any (zipR minusB x y) W (minus_mid hox hoy)
  have hg : gapS x y = sqsS (zipR minusB x y) := rfl
  rw [hg]
  clear hg he
  generalize zipR minusB x y = M at *
  generalize negR y = N at *
  generalize sqsS M = B at *
  generalize (lenTo M (nX M)).isSome = S at *
  simp only [regA] at h1 h2 h3 h4 ⊢
  clear ha hb0 hx hy hox hoy
  obtain ⟨w1, hw1⟩ : ∃ w1, w1 = ((w.alloc (.cells #[.int .i64 a.x.lo, .int .i64 a.x.hi, .int .i64 a.y.lo, .int .i64 a.y.hi, .int .i64 a.s.lo, .int .i64 a.s.hi, .int .i64 a.d.lo, .int .i64 a.d.hi] 45)).alloc (.cells #[.int .i64 b.x.lo, .int .i64 b.x.hi, .int .i64 b.y.lo, .int .i64 b.y.hi, .int .i64 b.s.lo, .int .i64 b.s.hi, .int .i64 b.d.lo, .int .i64 b.d.hi] 45)).alloc (.cells #[.int .i64 0, .int .i64 0] 24) := ⟨_, rfl⟩
  have k4 : Blk w1 (w.heap.size + 1 + 1) 24 #[.int .i64 0, .int .i64 0] := by rw [hw1]; exact Blk.newAt (by simp)
  have hb : Below w.heap.size w w1 := by rw [hw1]; exact (((Below.refl _ _).alloc (Nat.le_refl _) _).alloc (by simp) _).alloc (by simp; omega) _
  go_enter Tryz.func150, Tryz.ntmps150
  go_wp2_with fail
  rw [← hw1]
  clear hw1
  refine (h1 _).mono ?_
  rintro e W ⟨rfl, hbel⟩
  clear h1
  replace k4 := k4.below hbel
  replace hb := hb.trans (hbel.mono hb.size)
  clear hbel
  have k6 : Blk ((W.alloc (.cells #[.int .i64 x.x.lo, .int .i64 x.x.hi, .int .i64 x.y.lo, .int .i64 x.y.hi, .int .i64 x.s.lo, .int .i64 x.s.hi, .int .i64 x.d.lo, .int .i64 x.d.hi] 45)).alloc (.cells #[.int .i64 y.x.lo, .int .i64 y.x.hi, .int .i64 y.y.lo, .int .i64 y.y.hi, .int .i64 y.s.lo, .int .i64 y.s.hi, .int .i64 y.d.lo, .int .i64 y.d.hi] 45)) W.heap.size 45 #[.int .i64 x.x.lo, .int .i64 x.x.hi, .int .i64 x.y.lo, .int .i64 x.y.hi, .int .i64 x.s.lo, .int .i64 x.s.hi, .int .i64 x.d.lo, .int .i64 x.d.hi] := (Blk.new _ _ _).alloc _
  have k7 : Blk ((W.alloc (.cells #[.int .i64 x.x.lo, .int .i64 x.x.hi, .int .i64 x.y.lo, .int .i64 x.y.hi, .int .i64 x.s.lo, .int .i64 x.s.hi, .int .i64 x.d.lo, .int .i64 x.d.hi] 45)).alloc (.cells #[.int .i64 y.x.lo, .int .i64 y.x.hi, .int .i64 y.y.lo, .int .i64 y.y.hi, .int .i64 y.s.lo, .int .i64 y.s.hi, .int .i64 y.d.lo, .int .i64 y.d.hi] 45)) (W.heap.size + 1) 45 #[.int .i64 y.x.lo, .int .i64 y.x.hi, .int .i64 y.y.lo, .int .i64 y.y.hi, .int .i64 y.s.lo, .int .i64 y.s.hi, .int .i64 y.d.lo, .int .i64 y.d.hi] := Blk.newAt (by simp)
  have hbel := ((Below.refl W.heap.size W).alloc (Nat.le_refl _) (.cells #[.int .i64 x.x.lo, .int .i64 x.x.hi, .int .i64 x.y.lo, .int .i64 x.y.hi, .int .i64 x.s.lo, .int .i64 x.s.hi, .int .i64 x.d.lo, .int .i64 x.d.hi] 45)).alloc (by simp) (.cells #[.int .i64 y.x.lo, .int .i64 y.x.hi, .int .i64 y.y.lo, .int .i64 y.y.hi, .int .i64 y.s.lo, .int .i64 y.s.hi, .int .i64 y.d.lo, .int .i64 y.d.hi] 45)
  have hg6 : w.heap.size + 1 + 1 < W.heap.size := k4.lt
  replace k4 := k4.below hbel
  replace hb := hb.trans (hbel.mono hb.size)
  clear hbel
  go_wp2_with fail
  generalize (W.alloc (.cells #[.int .i64 x.x.lo, .int .i64 x.x.hi, .int .i64 x.y.lo, .int .i64 x.y.hi, .int .i64 x.s.lo, .int .i64 x.s.hi, .int .i64 x.d.lo, .int .i64 x.d.hi] 45)).alloc (.cells #[.int .i64 y.x.lo, .int .i64 y.x.hi, .int .i64 y.y.lo, .int .i64 y.y.hi, .int .i64 y.s.lo, .int .i64 y.s.hi, .int .i64 y.d.lo, .int .i64 y.d.hi] 45) = W2 at *
  generalize W.heap.size = g6 at *
  refine wp_held_np (fun w' : World => (∀ j, w'.cell? ⟨g6, j, none⟩ = #[Value.int .i64 x.x.lo, .int .i64 x.x.hi, .int .i64 x.y.lo, .int .i64 x.y.hi, .int .i64 x.s.lo, .int .i64 x.s.hi, .int .i64 x.d.lo, .int .i64 x.d.hi][j]?) ∧ (∀ j, w'.cell? ⟨g6 + 1, j, none⟩ = #[Value.int .i64 y.x.lo, .int .i64 y.x.hi, .int .i64 y.y.lo, .int .i64 y.y.hi, .int .i64 y.s.lo, .int .i64 y.s.hi, .int .i64 y.d.lo, .int .i64 y.d.hi][j]?)) (by kernel_rfl) ?_
  have hSb : Hid (∀ W', Below W2.heap.size W2 W' → (fun w' : World => (∀ j, w'.cell? ⟨g6, j, none⟩ = #[Value.int .i64 x.x.lo, .int .i64 x.x.hi, .int .i64 x.y.lo, .int .i64 x.y.hi, .int .i64 x.s.lo, .int .i64 x.s.hi, .int .i64 x.d.lo, .int .i64 x.d.hi][j]?) ∧ (∀ j, w'.cell? ⟨g6 + 1, j, none⟩ = #[Value.int .i64 y.x.lo, .int .i64 y.x.hi, .int .i64 y.y.lo, .int .i64 y.y.hi, .int .i64 y.s.lo, .int .i64 y.s.hi, .int .i64 y.d.lo, .int .i64 y.d.hi][j]?)) W') := by
    show ∀ _, _
    intro W' hb9
    exact ⟨(k6.below hb9).cell, (k7.below hb9).cell⟩
  have hb9 : Below W2.heap.size W2 W2.drew := (Below.refl _ _).drew
  have hS := hSb.out _ hb9
  generalize W2.drew = wd at *
  refine held_take (i := 0) (v := ?_) 23 rfl rfl (by kernel_rfl) (by kernel_rfl) (by kernel_rfl) (fun _ _ _ h => h) (Or.inl ⟨by rfl, ?_⟩) hS ?_
  rotate_left 1
  · intro w' hSw
    try dsimp only at hSw
    obtain ⟨q1, q2⟩ := hSw
    go_simp
    all_goals with_reducible rfl
  try simp only [Act.put, List.setIfInBounds_toArray, List.set_cons_zero, List.set_cons_succ]
  refine held_take (i := 1) (v := ?_) 24 rfl rfl (by kernel_rfl) (by kernel_rfl) (by kernel_rfl) (fun _ _ _ h => h) (Or.inl ⟨by rfl, ?_⟩) hS ?_
  rotate_left 1
  · intro w' hSw
    try dsimp only at hSw
    obtain ⟨q1, q2⟩ := hSw
    go_simp
    all_goals with_reducible rfl
  try simp only [Act.put, List.setIfInBounds_toArray, List.set_cons_zero, List.set_cons_succ]
  refine held_take (i := 4) (v := ?_) 27 rfl rfl (by kernel_rfl) (by kernel_rfl) (by kernel_rfl) (fun _ _ _ h => h) (Or.inl ⟨by rfl, ?_⟩) hS ?_
  rotate_left 1
  · intro w' hSw
    try dsimp only at hSw
    obtain ⟨q1, q2⟩ := hSw
    go_simp
    all_goals with_reducible rfl
  try simp only [Act.put, List.setIfInBounds_toArray, List.set_cons_zero, List.set_cons_succ]
  refine wpAnyH_fin (f := fun a g => (((((((a.put (some 25) (.agg #[.int .i64 N.x.lo, .int .i64 N.x.hi, .int .i64 N.y.lo, .int .i64 N.y.hi, .int .i64 N.s.lo, .int .i64 N.s.hi, .int .i64 N.d.lo, .int .i64 N.d.hi])).put (some 26) (.agg #[.int .i64 M.x.lo, .int .i64 M.x.hi, .int .i64 M.y.lo, .int .i64 M.y.hi, .int .i64 M.s.lo, .int .i64 M.s.hi, .int .i64 M.d.lo, .int .i64 M.d.hi])).put (some 28) (.tuple #[.agg #[.int .i64 B.lo, .int .i64 B.hi], .bool S])).put (some 22) (.tuple #[.agg #[.int .i64 B.lo, .int .i64 B.hi], .bool S])).put (some 29) (.agg #[.int .i64 B.lo, .int .i64 B.hi])).put (some 30) (.bool S)).put (some 9) (.pointer (some ⟨g, 0, none⟩))).put (some 10) (.bool S)) (B := fun g W' => Blk W' g 24 #[.int .i64 B.lo, .int .i64 B.hi] ∧ Below W2.heap.size W2 W') ?_ (fun hrest => ?_)
  · rintro g9 W3 ⟨k9, hb10⟩
    try simp only [Act.put, List.setIfInBounds_toArray, List.set_cons_zero, List.set_cons_succ]
    refine noPanic_normal ?_
    clear hS hSb h2 h3 h4 hb9
    replace k4 := k4.below hb10
    replace hb := hb.trans (hb10.mono hb.size)
    have kz := (k4.set_ 0 (.int .i64 B.lo)).set_ 1 (.int .i64 B.hi)
    simp only [List.setIfInBounds_toArray, List.set_cons_zero, List.set_cons_succ] at kz
    have bz := (hb.setCell (p := ⟨w.heap.size + 1 + 1, 0, none⟩) (by dsimp only; omega) (.int .i64 B.lo)).setCell (p := ⟨w.heap.size + 1 + 1, 1, none⟩) (by dsimp only; omega) (.int .i64 B.hi)
    obtain ⟨wz, hwz⟩ : ∃ x, x = (W3.setCell ⟨w.heap.size + 1 + 1, 0, none⟩ (.int .i64 B.lo)).setCell ⟨w.heap.size + 1 + 1, 1, none⟩ (.int .i64 B.hi) := ⟨_, rfl⟩
    rw [← hwz] at kz bz
    obtain ⟨c4, f4, l4⟩ := k4.rules
    obtain ⟨c9, f9, l9⟩ := k9.rules
    go_wp2
    rw [← hwz]
    clear hwz c4 f4 l4 c9 f9 l9
    obtain ⟨c4, f4, l4⟩ := kz.rules
    exact bodyPost_ret (v := .tuple #[.agg #[.int .i64 B.lo, .int .i64 B.hi], .int .i64 0]) (by simp [results, Tryz.results150, go_sem, c4]) rfl ⟨rfl, bz⟩
  · try simp only [Act.put, List.setIfInBounds_toArray, List.set_cons_zero, List.set_cons_succ] at hrest
    refine held_two (i := 2) (j := 9) (by kernel_rfl) rfl rfl rfl rfl (fun K hK => ?_) (fun K hK => ?_)
    · skip
      go_simp
      refine (h2 _).mono ?_
      rintro e X1 ⟨rfl, hbel⟩
      replace hb9 := hb9.trans (hbel.mono hb9.size)
      try replace k9 := k9.below hbel
      clear hS hbel
      have hS := hSb.out _ hb9
      refine hK _ _ hS ?_
      clear hK K
      try simp only [Act.put, List.setIfInBounds_toArray, List.set_cons_zero, List.set_cons_succ]
      refine held_two (i := 3) (j := 9) (by kernel_rfl) rfl rfl rfl rfl (fun K hK => ?_) (fun K hK => ?_)
      · skip
        go_simp
        refine (h3 _).mono ?_
        rintro e X2 ⟨rfl, hbel⟩
        replace hb9 := hb9.trans (hbel.mono hb9.size)
        try replace k9 := k9.below hbel
        clear hS hbel
        have hS := hSb.out _ hb9
        refine hK _ _ hS ?_
        clear hK K
        try simp only [Act.put, List.setIfInBounds_toArray, List.set_cons_zero, List.set_cons_succ]
        refine held_two (i := 5) (j := 9) (by kernel_rfl) rfl rfl rfl rfl (fun K hK => ?_) (fun K hK => ?_)
        · skip
          go_simp
          refine (h4 _).mono ?_
          rintro e X3 ⟨rfl, hbel⟩
          replace hb9 := hb9.trans (hbel.mono hb9.size)
          try replace k9 := k9.below hbel
          clear hS hbel
          have hS := hSb.out _ hb9
          refine hK _ _ hS ?_
          clear hK K
          try simp only [Act.put, List.setIfInBounds_toArray, List.set_cons_zero, List.set_cons_succ]
          refine held_take (i := 6) (v := ?_) 22 rfl rfl (by kernel_rfl) (by kernel_rfl) (by kernel_rfl) (fun _ _ _ h => h) (Or.inl ⟨by rfl, ?_⟩) hS ?_
          rotate_left 1
          · intro w' hSw
            try dsimp only at hSw
            obtain ⟨q1, q2⟩ := hSw
            go_simp
            all_goals with_reducible rfl
          try simp only [Act.put, List.setIfInBounds_toArray, List.set_cons_zero, List.set_cons_succ]
          refine held_take (i := 7) (v := ?_) 29 rfl rfl (by kernel_rfl) (by kernel_rfl) (by kernel_rfl) (fun _ _ _ h => h) (Or.inl ⟨by rfl, ?_⟩) hS ?_
          rotate_left 1
          · intro w' hSw
            try dsimp only at hSw
            obtain ⟨q1, q2⟩ := hSw
            go_simp
            all_goals with_reducible rfl
          try simp only [Act.put, List.setIfInBounds_toArray, List.set_cons_zero, List.set_cons_succ]
          refine held_take (i := 8) (v := ?_) 30 rfl rfl (by kernel_rfl) (by kernel_rfl) (by kernel_rfl) (fun _ _ _ h => h) (Or.inl ⟨by rfl, ?_⟩) hS ?_
          rotate_left 1
          · intro w' hSw
            try dsimp only at hSw
            obtain ⟨q1, q2⟩ := hSw
            go_simp
            all_goals with_reducible rfl
          try simp only [Act.put, List.setIfInBounds_toArray, List.set_cons_zero, List.set_cons_succ]
          refine held_one (i := 9) (by kernel_rfl) rfl rfl (fun K hK => ?_)
          go_simp
          have hgg := hb9.size
          have k9 := Blk.new X3 24 #[.int .i64 0, .int .i64 0]
          replace hb9 := hb9.alloc hb9.size (.cells #[.int .i64 0, .int .i64 0] 24)
          clear hS
          have hS := hSb.out _ hb9
          refine hK _ _ hS ?_
          clear hK K
          try simp only [Act.put, List.setIfInBounds_toArray, List.set_cons_zero, List.set_cons_succ]
          generalize X3.heap.size = g9 at *
          generalize X3.alloc (.cells #[.int .i64 0, .int .i64 0] 24) = X4 at *
          refine held_one (i := 10) (by kernel_rfl) rfl rfl (fun K hK => ?_)
          have kz := (k9.set_ 0 (.int .i64 B.lo)).set_ 1 (.int .i64 B.hi)
          simp only [List.setIfInBounds_toArray, List.set_cons_zero, List.set_cons_succ] at kz
          have bz := (hb9.setCell (p := ⟨g9, 0, none⟩) (by dsimp only; omega) (.int .i64 B.lo)).setCell (p := ⟨g9, 1, none⟩) (by dsimp only; omega) (.int .i64 B.hi)
          obtain ⟨X5, hwz⟩ : ∃ x, x = (X4.setCell ⟨g9, 0, none⟩ (.int .i64 B.lo)).setCell ⟨g9, 1, none⟩ (.int .i64 B.hi) := ⟨_, rfl⟩
          rw [← hwz] at kz bz
          obtain ⟨c9, f9, l9⟩ := k9.rules
          go_simp
          rw [← hwz]
          clear hwz c9 f9 l9 hS
          have hS := hSb.out _ bz
          refine hK _ _ hS ?_
          clear hK K
          try simp only [Act.put, List.setIfInBounds_toArray, List.set_cons_zero, List.set_cons_succ]
          refine held_take (i := 11) (v := ?_) 10 rfl rfl (by kernel_rfl) (by kernel_rfl) (by kernel_rfl) (fun _ _ _ h => h) (Or.inl ⟨by rfl, ?_⟩) hS ?_
          rotate_left 1
          · intro w' hSw
            try dsimp only at hSw
            obtain ⟨q1, q2⟩ := hSw
            go_simp
            all_goals with_reducible rfl
          try simp only [Act.put, List.setIfInBounds_toArray, List.set_cons_zero, List.set_cons_succ]
          refine wpAnyH_done (by kernel_rfl) (hrest (g9) _ ⟨kz, bz⟩) _
        · skip
          go_simp
          have hgg := hb9.size
          have k9 := Blk.new X2 24 #[.int .i64 0, .int .i64 0]
          replace hb9 := hb9.alloc hb9.size (.cells #[.int .i64 0, .int .i64 0] 24)
          clear hS
          have hS := hSb.out _ hb9
          refine hK _ _ hS ?_
          clear hK K
          try simp only [Act.put, List.setIfInBounds_toArray, List.set_cons_zero, List.set_cons_succ]
          generalize X2.heap.size = g9 at *
          generalize X2.alloc (.cells #[.int .i64 0, .int .i64 0] 24) = X6 at *
          refine held_one (i := 5) (by kernel_rfl) rfl rfl (fun K hK => ?_)
          go_simp
          refine (h4 _).mono ?_
          rintro e X7 ⟨rfl, hbel⟩
          replace hb9 := hb9.trans (hbel.mono hb9.size)
          try replace k9 := k9.below hbel
          clear hS hbel
          have hS := hSb.out _ hb9
          refine hK _ _ hS ?_
          clear hK K
          try simp only [Act.put, List.setIfInBounds_toArray, List.set_cons_zero, List.set_cons_succ]
          refine held_take (i := 6) (v := ?_) 22 rfl rfl (by kernel_rfl) (by kernel_rfl) (by kernel_rfl) (fun _ _ _ h => h) (Or.inl ⟨by rfl, ?_⟩) hS ?_
          rotate_left 1
          · intro w' hSw
            try dsimp only at hSw
            obtain ⟨q1, q2⟩ := hSw
            go_simp
            all_goals with_reducible rfl
          try simp only [Act.put, List.setIfInBounds_toArray, List.set_cons_zero, List.set_cons_succ]
          refine held_take (i := 7) (v := ?_) 29 rfl rfl (by kernel_rfl) (by kernel_rfl) (by kernel_rfl) (fun _ _ _ h => h) (Or.inl ⟨by rfl, ?_⟩) hS ?_
          rotate_left 1
          · intro w' hSw
            try dsimp only at hSw
            obtain ⟨q1, q2⟩ := hSw
            go_simp
            all_goals with_reducible rfl
          try simp only [Act.put, List.setIfInBounds_toArray, List.set_cons_zero, List.set_cons_succ]
          refine held_take (i := 8) (v := ?_) 30 rfl rfl (by kernel_rfl) (by kernel_rfl) (by kernel_rfl) (fun _ _ _ h => h) (Or.inl ⟨by rfl, ?_⟩) hS ?_
          rotate_left 1
          · intro w' hSw
            try dsimp only at hSw
            obtain ⟨q1, q2⟩ := hSw
            go_simp
            all_goals with_reducible rfl
          try simp only [Act.put, List.setIfInBounds_toArray, List.set_cons_zero, List.set_cons_succ]
          refine held_one (i := 10) (by kernel_rfl) rfl rfl (fun K hK => ?_)
          have kz := (k9.set_ 0 (.int .i64 B.lo)).set_ 1 (.int .i64 B.hi)
          simp only [List.setIfInBounds_toArray, List.set_cons_zero, List.set_cons_succ] at kz
          have bz := (hb9.setCell (p := ⟨g9, 0, none⟩) (by dsimp only; omega) (.int .i64 B.lo)).setCell (p := ⟨g9, 1, none⟩) (by dsimp only; omega) (.int .i64 B.hi)
          obtain ⟨X8, hwz⟩ : ∃ x, x = (X7.setCell ⟨g9, 0, none⟩ (.int .i64 B.lo)).setCell ⟨g9, 1, none⟩ (.int .i64 B.hi) := ⟨_, rfl⟩
          rw [← hwz] at kz bz
          obtain ⟨c9, f9, l9⟩ := k9.rules
          go_simp
          rw [← hwz]
          clear hwz c9 f9 l9 hS
          have hS := hSb.out _ bz
          refine hK _ _ hS ?_
          clear hK K
          try simp only [Act.put, List.setIfInBounds_toArray, List.set_cons_zero, List.set_cons_succ]
          refine held_take (i := 11) (v := ?_) 10 rfl rfl (by kernel_rfl) (by kernel_rfl) (by kernel_rfl) (fun _ _ _ h => h) (Or.inl ⟨by rfl, ?_⟩) hS ?_
          rotate_left 1
          · intro w' hSw
            try dsimp only at hSw
            obtain ⟨q1, q2⟩ := hSw
            go_simp
            all_goals with_reducible rfl
          try simp only [Act.put, List.setIfInBounds_toArray, List.set_cons_zero, List.set_cons_succ]
          refine wpAnyH_done (by kernel_rfl) (hrest (g9) _ ⟨kz, bz⟩) _
      · skip
        go_simp
        have hgg := hb9.size
        have k9 := Blk.new X1 24 #[.int .i64 0, .int .i64 0]
        replace hb9 := hb9.alloc hb9.size (.cells #[.int .i64 0, .int .i64 0] 24)
        clear hS
        have hS := hSb.out _ hb9
        refine hK _ _ hS ?_
        clear hK K
        try simp only [Act.put, List.setIfInBounds_toArray, List.set_cons_zero, List.set_cons_succ]
        generalize X1.heap.size = g9 at *
        generalize X1.alloc (.cells #[.int .i64 0, .int .i64 0] 24) = X9 at *
        refine held_one (i := 3) (by kernel_rfl) rfl rfl (fun K hK => ?_)
        go_simp
        refine (h3 _).mono ?_
        rintro e X10 ⟨rfl, hbel⟩
        replace hb9 := hb9.trans (hbel.mono hb9.size)
        try replace k9 := k9.below hbel
        clear hS hbel
        have hS := hSb.out _ hb9
        refine hK _ _ hS ?_
        clear hK K
        try simp only [Act.put, List.setIfInBounds_toArray, List.set_cons_zero, List.set_cons_succ]
        refine held_one (i := 5) (by kernel_rfl) rfl rfl (fun K hK => ?_)
        go_simp
        refine (h4 _).mono ?_
        rintro e X11 ⟨rfl, hbel⟩
        replace hb9 := hb9.trans (hbel.mono hb9.size)
        try replace k9 := k9.below hbel
        clear hS hbel
        have hS := hSb.out _ hb9
        refine hK _ _ hS ?_
        clear hK K
        try simp only [Act.put, List.setIfInBounds_toArray, List.set_cons_zero, List.set_cons_succ]
        refine held_take (i := 6) (v := ?_) 22 rfl rfl (by kernel_rfl) (by kernel_rfl) (by kernel_rfl) (fun _ _ _ h => h) (Or.inl ⟨by rfl, ?_⟩) hS ?_
        rotate_left 1
        · intro w' hSw
          try dsimp only at hSw
          obtain ⟨q1, q2⟩ := hSw
          go_simp
          all_goals with_reducible rfl
        try simp only [Act.put, List.setIfInBounds_toArray, List.set_cons_zero, List.set_cons_succ]
        refine held_take (i := 7) (v := ?_) 29 rfl rfl (by kernel_rfl) (by kernel_rfl) (by kernel_rfl) (fun _ _ _ h => h) (Or.inl ⟨by rfl, ?_⟩) hS ?_
        rotate_left 1
        · intro w' hSw
          try dsimp only at hSw
          obtain ⟨q1, q2⟩ := hSw
          go_simp
          all_goals with_reducible rfl
        try simp only [Act.put, List.setIfInBounds_toArray, List.set_cons_zero, List.set_cons_succ]
        refine held_take (i := 8) (v := ?_) 30 rfl rfl (by kernel_rfl) (by kernel_rfl) (by kernel_rfl) (fun _ _ _ h => h) (Or.inl ⟨by rfl, ?_⟩) hS ?_
        rotate_left 1
        · intro w' hSw
          try dsimp only at hSw
          obtain ⟨q1, q2⟩ := hSw
          go_simp
          all_goals with_reducible rfl
        try simp only [Act.put, List.setIfInBounds_toArray, List.set_cons_zero, List.set_cons_succ]
        refine held_one (i := 10) (by kernel_rfl) rfl rfl (fun K hK => ?_)
        have kz := (k9.set_ 0 (.int .i64 B.lo)).set_ 1 (.int .i64 B.hi)
        simp only [List.setIfInBounds_toArray, List.set_cons_zero, List.set_cons_succ] at kz
        have bz := (hb9.setCell (p := ⟨g9, 0, none⟩) (by dsimp only; omega) (.int .i64 B.lo)).setCell (p := ⟨g9, 1, none⟩) (by dsimp only; omega) (.int .i64 B.hi)
        obtain ⟨X12, hwz⟩ : ∃ x, x = (X11.setCell ⟨g9, 0, none⟩ (.int .i64 B.lo)).setCell ⟨g9, 1, none⟩ (.int .i64 B.hi) := ⟨_, rfl⟩
        rw [← hwz] at kz bz
        obtain ⟨c9, f9, l9⟩ := k9.rules
        go_simp
        rw [← hwz]
        clear hwz c9 f9 l9 hS
        have hS := hSb.out _ bz
        refine hK _ _ hS ?_
        clear hK K
        try simp only [Act.put, List.setIfInBounds_toArray, List.set_cons_zero, List.set_cons_succ]
        refine held_take (i := 11) (v := ?_) 10 rfl rfl (by kernel_rfl) (by kernel_rfl) (by kernel_rfl) (fun _ _ _ h => h) (Or.inl ⟨by rfl, ?_⟩) hS ?_
        rotate_left 1
        · intro w' hSw
          try dsimp only at hSw
          obtain ⟨q1, q2⟩ := hSw
          go_simp
          all_goals with_reducible rfl
        try simp only [Act.put, List.setIfInBounds_toArray, List.set_cons_zero, List.set_cons_succ]
        refine wpAnyH_done (by kernel_rfl) (hrest (g9) _ ⟨kz, bz⟩) _
    · skip
      go_simp
      have hgg := hb9.size
      have k9 := Blk.new wd 24 #[.int .i64 0, .int .i64 0]
      replace hb9 := hb9.alloc hb9.size (.cells #[.int .i64 0, .int .i64 0] 24)
      clear hS
      have hS := hSb.out _ hb9
      refine hK _ _ hS ?_
      clear hK K
      try simp only [Act.put, List.setIfInBounds_toArray, List.set_cons_zero, List.set_cons_succ]
      generalize wd.heap.size = g9 at *
      generalize wd.alloc (.cells #[.int .i64 0, .int .i64 0] 24) = X13 at *
      refine held_one (i := 2) (by kernel_rfl) rfl rfl (fun K hK => ?_)
      go_simp
      refine (h2 _).mono ?_
      rintro e X14 ⟨rfl, hbel⟩
      replace hb9 := hb9.trans (hbel.mono hb9.size)
      try replace k9 := k9.below hbel
      clear hS hbel
      have hS := hSb.out _ hb9
      refine hK _ _ hS ?_
      clear hK K
      try simp only [Act.put, List.setIfInBounds_toArray, List.set_cons_zero, List.set_cons_succ]
      refine held_one (i := 3) (by kernel_rfl) rfl rfl (fun K hK => ?_)
      go_simp
      refine (h3 _).mono ?_
      rintro e X15 ⟨rfl, hbel⟩
      replace hb9 := hb9.trans (hbel.mono hb9.size)
      try replace k9 := k9.below hbel
      clear hS hbel
      have hS := hSb.out _ hb9
      refine hK _ _ hS ?_
      clear hK K
      try simp only [Act.put, List.setIfInBounds_toArray, List.set_cons_zero, List.set_cons_succ]
      refine held_one (i := 5) (by kernel_rfl) rfl rfl (fun K hK => ?_)
      go_simp
      refine (h4 _).mono ?_
      rintro e X16 ⟨rfl, hbel⟩
      replace hb9 := hb9.trans (hbel.mono hb9.size)
      try replace k9 := k9.below hbel
      clear hS hbel
      have hS := hSb.out _ hb9
      refine hK _ _ hS ?_
      clear hK K
      try simp only [Act.put, List.setIfInBounds_toArray, List.set_cons_zero, List.set_cons_succ]
      refine held_take (i := 6) (v := ?_) 22 rfl rfl (by kernel_rfl) (by kernel_rfl) (by kernel_rfl) (fun _ _ _ h => h) (Or.inl ⟨by rfl, ?_⟩) hS ?_
      rotate_left 1
      · intro w' hSw
        try dsimp only at hSw
        obtain ⟨q1, q2⟩ := hSw
        go_simp
        all_goals with_reducible rfl
      try simp only [Act.put, List.setIfInBounds_toArray, List.set_cons_zero, List.set_cons_succ]
      refine held_take (i := 7) (v := ?_) 29 rfl rfl (by kernel_rfl) (by kernel_rfl) (by kernel_rfl) (fun _ _ _ h => h) (Or.inl ⟨by rfl, ?_⟩) hS ?_
      rotate_left 1
      · intro w' hSw
        try dsimp only at hSw
        obtain ⟨q1, q2⟩ := hSw
        go_simp
        all_goals with_reducible rfl
      try simp only [Act.put, List.setIfInBounds_toArray, List.set_cons_zero, List.set_cons_succ]
      refine held_take (i := 8) (v := ?_) 30 rfl rfl (by kernel_rfl) (by kernel_rfl) (by kernel_rfl) (fun _ _ _ h => h) (Or.inl ⟨by rfl, ?_⟩) hS ?_
      rotate_left 1
      · intro w' hSw
        try dsimp only at hSw
        obtain ⟨q1, q2⟩ := hSw
        go_simp
        all_goals with_reducible rfl
      try simp only [Act.put, List.setIfInBounds_toArray, List.set_cons_zero, List.set_cons_succ]
      refine held_one (i := 10) (by kernel_rfl) rfl rfl (fun K hK => ?_)
      have kz := (k9.set_ 0 (.int .i64 B.lo)).set_ 1 (.int .i64 B.hi)
      simp only [List.setIfInBounds_toArray, List.set_cons_zero, List.set_cons_succ] at kz
      have bz := (hb9.setCell (p := ⟨g9, 0, none⟩) (by dsimp only; omega) (.int .i64 B.lo)).setCell (p := ⟨g9, 1, none⟩) (by dsimp only; omega) (.int .i64 B.hi)
      obtain ⟨X17, hwz⟩ : ∃ x, x = (X16.setCell ⟨g9, 0, none⟩ (.int .i64 B.lo)).setCell ⟨g9, 1, none⟩ (.int .i64 B.hi) := ⟨_, rfl⟩
      rw [← hwz] at kz bz
      obtain ⟨c9, f9, l9⟩ := k9.rules
      go_simp
      rw [← hwz]
      clear hwz c9 f9 l9 hS
      have hS := hSb.out _ bz
      refine hK _ _ hS ?_
      clear hK K
      try simp only [Act.put, List.setIfInBounds_toArray, List.set_cons_zero, List.set_cons_succ]
      refine held_take (i := 11) (v := ?_) 10 rfl rfl (by kernel_rfl) (by kernel_rfl) (by kernel_rfl) (fun _ _ _ h => h) (Or.inl ⟨by rfl, ?_⟩) hS ?_
      rotate_left 1
      · intro w' hSw
        try dsimp only at hSw
        obtain ⟨q1, q2⟩ := hSw
        go_simp
        all_goals with_reducible rfl
      try simp only [Act.put, List.setIfInBounds_toArray, List.set_cons_zero, List.set_cons_succ]
      refine wpAnyH_done (by kernel_rfl) (hrest (g9) _ ⟨kz, bz⟩) _
end Go.Proofs.YtjiaepphnddpoaaGreat
namespace Go.Proofs.YtjiaepphnddpoaaGreat
open Go.RowKit Go.Shelf
set_option linter.unusedSimpArgs false
set_option linter.unusedVariables false
set_option maxRecDepth 100000 in
set_option maxHeartbeats 1000000 in
theorem Rspread_any (L M : Option Addr) (n c m cm : Nat) (ds : List StD) (es : List BdD) (w : World) (hL : SpL w L n c ds) (hM : BpL w M m cm es) :
    Calls Tryz.prog 99 #[.slice L n c, .slice M m cm] w fun e w' => e = .returned (.bool (sprOk ds es)) ∧ Below w.heap.size w w' := by
  have hdl := Lib.hid hL.1.len
  have hel := Lib.hid hM.1.len
  have hw1 := fun W => Between_any (n : Int) 1 4 W
  by_cases h1 : 1 ≤ n ∧ n ≤ 4
  · simp only [decide_eq_true (show 1 ≤ (n : Int) ∧ (n : Int) ≤ 4 by omega)] at hw1
    by_cases h2 : m = n
    · subst h2
      have hok : Hid (sprOk ds es = sprTo ds es m) := by
        show _ = _
        unfold sprOk
        rw [hdl.out, hel.out, decide_eq_true ⟨h1.1, h1.2, rfl⟩, Bool.true_and]
      go_enter Tryz.func99, Tryz.ntmps99
      go_wp2_with fail
      refine (hw1 _).mono ?_
      rintro e w' ⟨rfl, rfl⟩
      clear hw1
      go_wp2_with fail
      go_loopw [5] (fun i wr => ∃ k : Nat, i = .int .i64 k ∧ k ≤ m ∧ sprTo ds es k = true ∧ Below w.heap.size w wr) (fun i wr => m - (intOf i).toNat)
      case atStart => exact ⟨0, rfl, Nat.zero_le _, rfl, Below.refl _ _⟩
      case round =>
        obtain ⟨k, rfl, hk, hsp, hb⟩ := hrel
        replace hsp := Lib.hid hsp
        by_cases hlt : k < m
        · have hk0 : (0 : Int) ≤ (k : Int) := by omega
          have hk1 : (k : Int) < (m : Int) := by omega
          obtain ⟨d, hd⟩ := some_of_lt hdl.out hlt
          obtain ⟨e, he⟩ := some_of_lt hel.out hlt
          have hst : StOk w d := hL.2 d (List.mem_of_getElem? hd)
          have hbt : BdOk w e := hM.2 e (List.mem_of_getElem? he)
          have hnx := Lib.hid (sprTo_succ hd he)
          obtain ⟨bL, oL, hA, -, hbL, z0, z1, z2, z3, z4⟩ := hL.1.std hd
          obtain ⟨bM, oM, hB, -, hbM, y0⟩ := hM.1.bdd he
          subst hA
          subst hB
          replace hd := Lib.hid hd
          replace he := Lib.hid he
          have hck := fun W h1 h2 => Rbegun_any d.s d.A e.O d.n d.c e.n e.c 0 0 e.bs W h1 h2
          go_wp2_with fail
          refine wp_held_np (fun w' : World => w'.cell? ⟨bL, oL + k * 5, none⟩ = some (.int .i64 d.s.head) ∧ w'.cell? ⟨bL, oL + k * 5 + 1, none⟩ = some (.slice d.A d.n d.c) ∧ w'.cell? ⟨bL, oL + k * 5 + 2, none⟩ = some (.int .i64 d.s.lane.lo) ∧ w'.cell? ⟨bL, oL + k * 5 + 3, none⟩ = some (.int .i64 d.s.lane.hi) ∧ w'.cell? ⟨bL, oL + k * 5 + 4, none⟩ = some (.int .i64 d.s.bend) ∧ w'.cell? ⟨bM, oM + k, none⟩ = some (.slice e.O e.n e.c)) (by kernel_rfl) ?_
          replace hb := hb.drew
          generalize wr.drew = W at *
          have hS : (fun w' : World => w'.cell? ⟨bL, oL + k * 5, none⟩ = some (.int .i64 d.s.head) ∧ w'.cell? ⟨bL, oL + k * 5 + 1, none⟩ = some (.slice d.A d.n d.c) ∧ w'.cell? ⟨bL, oL + k * 5 + 2, none⟩ = some (.int .i64 d.s.lane.lo) ∧ w'.cell? ⟨bL, oL + k * 5 + 3, none⟩ = some (.int .i64 d.s.lane.hi) ∧ w'.cell? ⟨bL, oL + k * 5 + 4, none⟩ = some (.int .i64 d.s.bend) ∧ w'.cell? ⟨bM, oM + k, none⟩ = some (.slice e.O e.n e.c)) W := ⟨(hb.cell (p := ⟨bL, oL + k * 5, none⟩) hbL).trans z0, (hb.cell (p := ⟨bL, oL + k * 5 + 1, none⟩) hbL).trans z1, (hb.cell (p := ⟨bL, oL + k * 5 + 2, none⟩) hbL).trans z2, (hb.cell (p := ⟨bL, oL + k * 5 + 3, none⟩) hbL).trans z3, (hb.cell (p := ⟨bL, oL + k * 5 + 4, none⟩) hbL).trans z4, (hb.cell (p := ⟨bM, oM + k, none⟩) hbM).trans y0⟩
          refine held_take (i := 0) (v := ?_) 23 rfl rfl (by kernel_rfl) (by kernel_rfl) (by kernel_rfl) (fun _ _ _ h => h) (Or.inl ⟨by rfl, ?_⟩) hS ?_
          rotate_left 1
          · intro w' hSw
            try dsimp only at hSw
            obtain ⟨q0, q1, q2, q3, q4, q5⟩ := hSw
            go_simp
            all_goals with_reducible rfl
          try simp only [Act.put, List.setIfInBounds_toArray, List.set_cons_zero, List.set_cons_succ]
          refine held_take (i := 1) (v := ?_) 24 rfl rfl (by kernel_rfl) (by kernel_rfl) (by kernel_rfl) (fun _ _ _ h => h) (Or.inl ⟨by rfl, ?_⟩) hS ?_
          rotate_left 1
          · intro w' hSw
            try dsimp only at hSw
            obtain ⟨q0, q1, q2, q3, q4, q5⟩ := hSw
            go_simp
            all_goals with_reducible rfl
          try simp only [Act.put, List.setIfInBounds_toArray, List.set_cons_zero, List.set_cons_succ]
          refine held_take (i := 2) (v := ?_) 25 rfl rfl (by kernel_rfl) (by kernel_rfl) (by kernel_rfl) (fun _ _ _ h => h) (Or.inl ⟨by rfl, ?_⟩) hS ?_
          rotate_left 1
          · intro w' hSw
            try dsimp only at hSw
            obtain ⟨q0, q1, q2, q3, q4, q5⟩ := hSw
            go_simp
            all_goals with_reducible rfl
          try simp only [Act.put, List.setIfInBounds_toArray, List.set_cons_zero, List.set_cons_succ]
          refine held_take (i := 3) (v := ?_) 26 rfl rfl (by kernel_rfl) (by kernel_rfl) (by kernel_rfl) (fun _ _ _ h => h) (Or.inl ⟨by rfl, ?_⟩) hS ?_
          rotate_left 1
          · intro w' hSw
            try dsimp only at hSw
            obtain ⟨q0, q1, q2, q3, q4, q5⟩ := hSw
            go_simp
            all_goals with_reducible rfl
          try simp only [Act.put, List.setIfInBounds_toArray, List.set_cons_zero, List.set_cons_succ]
          refine held_take (i := 4) (v := ?_) 27 rfl rfl (by kernel_rfl) (by kernel_rfl) (by kernel_rfl) (fun _ _ _ h => h) (Or.inl ⟨by rfl, ?_⟩) hS ?_
          rotate_left 1
          · intro w' hSw
            try dsimp only at hSw
            obtain ⟨q0, q1, q2, q3, q4, q5⟩ := hSw
            go_simp
            all_goals with_reducible rfl
          try simp only [Act.put, List.setIfInBounds_toArray, List.set_cons_zero, List.set_cons_succ]
          refine held_take (i := 5) (v := ?_) 28 rfl rfl (by kernel_rfl) (by kernel_rfl) (by kernel_rfl) (fun _ _ _ h => h) (Or.inl ⟨by rfl, ?_⟩) hS ?_
          rotate_left 1
          · intro w' hSw
            try dsimp only at hSw
            obtain ⟨q0, q1, q2, q3, q4, q5⟩ := hSw
            go_simp
            all_goals with_reducible rfl
          try simp only [Act.put, List.setIfInBounds_toArray, List.set_cons_zero, List.set_cons_succ]
          refine held_take (i := 6) (v := ?_) 29 rfl rfl (by kernel_rfl) (by kernel_rfl) (by kernel_rfl) (fun _ _ _ h => h) (Or.inl ⟨by rfl, ?_⟩) hS ?_
          rotate_left 1
          · intro w' hSw
            try dsimp only at hSw
            obtain ⟨q0, q1, q2, q3, q4, q5⟩ := hSw
            go_simp
            all_goals with_reducible rfl
          try simp only [Act.put, List.setIfInBounds_toArray, List.set_cons_zero, List.set_cons_succ]
          refine held_take (i := 7) (v := ?_) 30 rfl rfl (by kernel_rfl) (by kernel_rfl) (by kernel_rfl) (fun _ _ _ h => h) (Or.inl ⟨by rfl, ?_⟩) hS ?_
          rotate_left 1
          · intro w' hSw
            try dsimp only at hSw
            obtain ⟨q0, q1, q2, q3, q4, q5⟩ := hSw
            go_simp
            all_goals with_reducible rfl
          try simp only [Act.put, List.setIfInBounds_toArray, List.set_cons_zero, List.set_cons_succ]
          refine held_one (i := 8) (by kernel_rfl) rfl rfl (fun K hK => ?_)
          go_simp
          refine (hck _ (SlAt.below (hst.mono (Nat.zero_le _)) (hb.mono (Nat.le_refl _))) (SlAt.below hbt hb)).mono ?_
          rintro e1 W1 ⟨rfl, hbel⟩
          clear hS
          replace hb := hb.trans (hbel.mono hb.size)
          clear hbel
          have hS : (fun w' : World => w'.cell? ⟨bL, oL + k * 5, none⟩ = some (.int .i64 d.s.head) ∧ w'.cell? ⟨bL, oL + k * 5 + 1, none⟩ = some (.slice d.A d.n d.c) ∧ w'.cell? ⟨bL, oL + k * 5 + 2, none⟩ = some (.int .i64 d.s.lane.lo) ∧ w'.cell? ⟨bL, oL + k * 5 + 3, none⟩ = some (.int .i64 d.s.lane.hi) ∧ w'.cell? ⟨bL, oL + k * 5 + 4, none⟩ = some (.int .i64 d.s.bend) ∧ w'.cell? ⟨bM, oM + k, none⟩ = some (.slice e.O e.n e.c)) W1 := ⟨(hb.cell (p := ⟨bL, oL + k * 5, none⟩) hbL).trans z0, (hb.cell (p := ⟨bL, oL + k * 5 + 1, none⟩) hbL).trans z1, (hb.cell (p := ⟨bL, oL + k * 5 + 2, none⟩) hbL).trans z2, (hb.cell (p := ⟨bL, oL + k * 5 + 3, none⟩) hbL).trans z3, (hb.cell (p := ⟨bL, oL + k * 5 + 4, none⟩) hbL).trans z4, (hb.cell (p := ⟨bM, oM + k, none⟩) hbM).trans y0⟩
          refine hK _ _ hS ?_
          clear hK K
          try simp only [Act.put, List.setIfInBounds_toArray, List.set_cons_zero, List.set_cons_succ]
          refine held_take (i := 9) (v := ?_) 32 rfl rfl (by kernel_rfl) (by kernel_rfl) (by kernel_rfl) (fun _ _ _ h => h) (Or.inl ⟨by rfl, ?_⟩) hS ?_
          rotate_left 1
          · intro w' hSw
            try dsimp only at hSw
            obtain ⟨q0, q1, q2, q3, q4, q5⟩ := hSw
            go_simp
            all_goals with_reducible rfl
          try simp only [Act.put, List.setIfInBounds_toArray, List.set_cons_zero, List.set_cons_succ]
          refine wpAnyH_done (by kernel_rfl) (noPanic_normal ?_) _
          clear hS z0 z1 z2 z3 z4 y0 hck hst hbt
          by_cases her : errB d.s e.bs = 0
          · rw [decide_eq_true her, Bool.and_true] at hnx
            rw [her]
            replace her := Lib.hid her
            go_wp2_with fail
            go_roundw
            case rel => exact ⟨k + 1, by go_num, by omega, by rw [hnx.out]; exact hsp.out, hb⟩
            case measure => simp [intOf]; omega
          · rw [decide_eq_false her, Bool.and_false] at hnx
            have her2 : (errB d.s e.bs != 0) = true := by rw [bne_iff_ne]; exact her
            generalize errB d.s e.bs = er at *
            replace her := Lib.hid her
            go_wp2
            go_ret
            exact ⟨ret_bool (by rw [hok.out]; exact (sprTo_no hnx.out m (by omega)).symm), hb⟩
        · obtain rfl : m = k := by omega
          go_wp2
          go_ret
          exact ⟨ret_bool (by rw [hok.out]; exact hsp.out.symm), hb⟩
    · have hno : Hid (sprOk ds es = false) := by
        show _ = _
        unfold sprOk
        rw [hdl.out, hel.out, decide_eq_false (by omega), Bool.false_and]
      have hne : ((m : Int) != (n : Int)) = true := by rw [bne_iff_ne]; omega
      go_enter Tryz.func99, Tryz.ntmps99
      go_wp2_with fail
      refine (hw1 _).mono ?_
      rintro e w' ⟨rfl, rfl⟩
      go_wp2
      go_ret
      exact ⟨ret_bool hno.out.symm, Below.refl _ _⟩
  · simp only [decide_eq_false (show ¬ (1 ≤ (n : Int) ∧ (n : Int) ≤ 4) by omega)] at hw1
    have hno : Hid (sprOk ds es = false) := by
      show _ = _
      unfold sprOk
      rw [hdl.out, hel.out, decide_eq_false (by omega), Bool.false_and]
    go_enter Tryz.func99, Tryz.ntmps99
    go_wp2_with fail
    refine (hw1 _).mono ?_
    rintro e w' ⟨rfl, rfl⟩
    go_wp2
    go_ret
    exact ⟨ret_bool hno.out.symm, Below.refl _ _⟩
end Go.Proofs.YtjiaepphnddpoaaGreat
