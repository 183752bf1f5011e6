/-
  Walks: squares, two, Gap (package region).
-/
import Derived.Test.YthjdjpcomocffaaGreatG11
namespace Go.Proofs.YthjdjpcomocffaaGreat
open Go.RowKit Go.Shelf
set_option linter.unusedSimpArgs false
set_option linter.unusedVariables false

set_option maxRecDepth 100000 in
set_option maxHeartbeats 1000000 in
theorem squares_any (r : Reg) (w : World) (hr : midR r) :
    Calls Tryz.prog 96 #[.agg (regA r), .agg #[.int .i64 0, .int .i64 0]] w fun e w' => e = .returned (.tuple #[.agg #[.int .i64 (sqsS r).lo, .int .i64 (sqsS r).hi], .bool (pckAll ltLo r).isSome]) ∧ Below w.heap.size w w' := by
  have h1 := fun gf gp W h => pick_ltLo r gf gp W hr h
  have h2 := fun gf gp W h => pick_gtHi r gf gp W hr h
  have hsq : Hid (sqsS r = ⟨(optB (pckAll ltLo r)).lo, (optB (pckAll gtHi r)).hi⟩) := rfl
  obtain ⟨P, hP⟩ : ∃ P, optB (pckAll ltLo r) = P := ⟨_, rfl⟩
  obtain ⟨Q, hQ⟩ : ∃ Q, optB (pckAll gtHi r) = Q := ⟨_, rfl⟩
  simp only [hP] at h1 hsq
  simp only [hQ] at h2 hsq
  clear hP hQ
  generalize (pckAll ltLo r).isSome = S at *
  generalize (pckAll gtHi r).isSome = S2 at *
  have e1 := hsq.out
  rw [e1]
  clear hsq e1
  dsimp only
  replace hr := Lib.hid hr
  obtain ⟨w1, hw1⟩ : ∃ w1, w1 = ((w.alloc (.cells (regA r) 134)).alloc (.cells #[.int .i64 0, .int .i64 0] 65)).alloc (.cells #[.int .i64 0, .int .i64 0] 24) := ⟨_, rfl⟩
  have k2 : Blk w1 w.heap.size 134 (regA r) := by rw [hw1]; exact ((Blk.new _ _ _).alloc _).alloc _
  have k3 : Blk w1 (w.heap.size + 1) 65 #[.int .i64 0, .int .i64 0] := by rw [hw1]; exact (Blk.newAt (by simp)).alloc _
  have k4 : Blk w1 (w.heap.size + 1 + 1) 24 #[.int .i64 0, .int .i64 0] := by rw [hw1]; exact Blk.newAt (by simp)
  have hb : Below w.heap.size w w1 := by rw [hw1]; exact (((Below.refl _ _).alloc (Nat.le_refl _) _).alloc (by simp) _).alloc (by simp; omega) _
  simp only [regA] at hw1 ⊢
  go_enter Tryz.func96, Tryz.ntmps96
  go_wp2_with fail
  rw [← hw1]
  clear hw1
  refine (h1 _ _ _ ⟨k2, k3⟩).mono ?_
  rintro e W ⟨rfl, hbel⟩
  clear h1
  replace k2 := k2.below hbel
  replace k3 := k3.below hbel
  replace k4 := k4.below hbel
  replace hb := hb.trans (hbel.mono hb.size)
  clear hbel
  go_wp2_with fail
  have hg7 : w.heap.size + 1 + 1 < W.heap.size := k4.lt
  have k7 := Blk.new W 24 #[.int .i64 P.lo, .int .i64 P.hi]
  have hbel := (Below.refl W.heap.size W).alloc (Nat.le_refl _) (.cells #[.int .i64 P.lo, .int .i64 P.hi] 24)
  replace k2 := k2.below hbel
  replace k3 := k3.below hbel
  replace k4 := k4.below hbel
  replace hb := hb.trans (hbel.mono hb.size)
  clear hbel
  generalize W.alloc (.cells #[.int .i64 P.lo, .int .i64 P.hi] 24) = W2 at *
  generalize W.heap.size = g7 at *
  refine (h2 _ _ _ ⟨k2, k3⟩).mono ?_
  rintro e W ⟨rfl, hbel⟩
  clear h2
  replace k2 := k2.below hbel
  replace k3 := k3.below hbel
  replace k4 := k4.below hbel
  replace hb := hb.trans (hbel.mono hb.size)
  replace k7 := k7.below hbel
  clear hbel
  have kz0 := (k4.set_ 0 (.int .i64 P.lo)).set_ 1 (.int .i64 Q.hi)
  simp only [List.setIfInBounds_toArray, List.set_cons_zero, List.set_cons_succ] at kz0
  have kz := kz0.alloc (.cells #[.int .i64 Q.lo, .int .i64 Q.hi] 24)
  have bz0 := (hb.setCell (p := ⟨w.heap.size + 1 + 1, 0, none⟩) (by dsimp only; omega) (.int .i64 P.lo)).setCell (p := ⟨w.heap.size + 1 + 1, 1, none⟩) (by dsimp only; omega) (.int .i64 Q.hi)
  have bz := bz0.alloc bz0.size (.cells #[.int .i64 Q.lo, .int .i64 Q.hi] 24)
  obtain ⟨wz, hwz⟩ : ∃ x, x = ((W.setCell ⟨w.heap.size + 1 + 1, 0, none⟩ (.int .i64 P.lo)).setCell ⟨w.heap.size + 1 + 1, 1, none⟩ (.int .i64 Q.hi)).alloc (.cells #[.int .i64 Q.lo, .int .i64 Q.hi] 24) := ⟨_, rfl⟩
  rw [← hwz] at kz bz
  obtain ⟨c7, f7, l7⟩ := k7.rules
  obtain ⟨c4, f4, l4⟩ := k4.rules
  go_wp2
  rw [← hwz]
  clear hwz c4 f4 l4 c7 f7 l7
  obtain ⟨c4, f4, l4⟩ := kz.rules
  exact bodyPost_ret (v := .tuple #[.agg #[.int .i64 P.lo, .int .i64 Q.hi], .bool S]) (by simp [results, Tryz.results96, go_sem, c4]) rfl ⟨rfl, bz⟩
set_option maxRecDepth 100000 in
set_option maxHeartbeats 400000 in
theorem rminusB_any (a b : Bnd) (w : World) (h1 : -1000000 ≤ a.lo ∧ a.lo ≤ 1000000 ∧ -1000000 ≤ a.hi ∧ a.hi ≤ 1000000) (h2 : -1000000 ≤ b.lo ∧ b.lo ≤ 1000000 ∧ -1000000 ≤ b.hi ∧ b.hi ≤ 1000000) :
    Calls Tryz.prog 97 #[.agg #[.int .i64 a.lo, .int .i64 a.hi], .agg #[.int .i64 b.lo, .int .i64 b.hi]] w fun e w' => e = .returned (.agg #[.int .i64 (minusB a b).lo, .int .i64 (minusB a b).hi]) ∧ Below w.heap.size w w' := by
  go_enter Tryz.func97, Tryz.ntmps97
  go_wp2
  all_goals
    refine bodyPost_ret (v := .agg #[.int .i64 (minusB a b).lo, .int .i64 (minusB a b).hi]) (by simp [results, Tryz.results97, go_sem, minusB] <;> omega) rfl ⟨rfl, ?_⟩
    exact (((Below.refl w.heap.size w).alloc (Nat.le_refl _) _).alloc (by simp) _).alloc (by simp; omega) _
theorem op_minusB : OpB 97 minusB := fun W a b h1 h2 => rminusB_any a b W h1 h2
theorem eg_minusB : Enters Tryz.prog 97 := enters_of Tryz.func97 (by kernel_rfl) rfl
theorem SlAt.two {w : World} {g : Nat} {t : TypeId} {a b : Int} (k : Blk w g t #[.int .i64 a, .int .i64 b]) : SlAt w 0 1 ivs (some ⟨g, 0, none⟩) 2 2 [a, b] :=
  ⟨rfl, Nat.le_refl _, by omega, fun _ => ⟨g, 0, rfl, Nat.zero_le _, k.lt, fun i x hi j v hv => by
    match i, hi with
    | 0, hi => simp at hi; subst hi; match j, hv with
      | 0, hv => simp [ivs] at hv; subst hv; exact k.cell 0
      | j + 1, hv => simp [ivs] at hv
    | 1, hi => simp at hi; subst hi; match j, hv with
      | 0, hv => simp [ivs] at hv; subst hv; exact k.cell 1
      | j + 1, hv => simp [ivs] at hv
    | i + 2, hi => simp at hi⟩⟩
set_option maxRecDepth 100000 in
set_option maxHeartbeats 2000000 in
theorem two_any (a b x y : Reg) (w : World) (ha : okReg a = true) (hb0 : okReg b = true) (hx : tightO a = some x) (hy : tightO b = some y) :
    Calls Tryz.prog 95 #[.agg (regA a), .agg (regA b)] w fun e w' => e = .returned (.tuple #[.agg (regA x), .agg (regA y), .int .i64 0]) ∧ Below w.heap.size w w' := by
  have hc1 := fun W => rCheck_any a W
  have hc2 := fun W => rCheck_any b W
  have e1 : chkReg a = 0 := by simp [chkReg, ha]
  have e2 : chkReg b = 0 := by simp [chkReg, hb0]
  simp only [e1] at hc1
  simp only [e2] at hc2
  have hr1 := fun W => rbounds_any a W
  have hr2 := fun W => rbounds_any b W
  have ht1 := fun W => tight_any a W ha
  have ht2 := fun W => tight_any b W hb0
  simp only [hx, doneR] at ht1
  simp only [hy, doneR] at ht2
  have hfi := fun g W h => firstE_any (some ⟨g, 0, none⟩) 2 2 0 [0, 0] W h
  have e3 : firstE [0, 0] = 0 := rfl
  simp only [e3] at hfi
  simp only [regA] at hc1 hc2 hr1 hr2 ht1 ht2 ⊢
  clear e1 e2 e3 ha hb0 hx hy
  obtain ⟨w1, hw1⟩ : ∃ w1, w1 = (((w.alloc (.cells #[.int .i64 a.x.lo, .int .i64 a.x.hi, .int .i64 a.y.lo, .int .i64 a.y.hi, .int .i64 a.s.lo, .int .i64 a.s.hi, .int .i64 a.d.lo, .int .i64 a.d.hi] 58)).alloc (.cells #[.int .i64 b.x.lo, .int .i64 b.x.hi, .int .i64 b.y.lo, .int .i64 b.y.hi, .int .i64 b.s.lo, .int .i64 b.s.hi, .int .i64 b.d.lo, .int .i64 b.d.hi] 58)).alloc (.cells #[.int .i64 0, .int .i64 0, .int .i64 0, .int .i64 0, .int .i64 0, .int .i64 0, .int .i64 0, .int .i64 0] 134)).alloc (.cells #[.int .i64 0, .int .i64 0, .int .i64 0, .int .i64 0, .int .i64 0, .int .i64 0, .int .i64 0, .int .i64 0] 134) := ⟨_, rfl⟩
  have k2 : Blk w1 w.heap.size 58 #[.int .i64 a.x.lo, .int .i64 a.x.hi, .int .i64 a.y.lo, .int .i64 a.y.hi, .int .i64 a.s.lo, .int .i64 a.s.hi, .int .i64 a.d.lo, .int .i64 a.d.hi] := by rw [hw1]; exact (((Blk.new _ _ _).alloc _).alloc _).alloc _
  have k3 : Blk w1 (w.heap.size + 1) 58 #[.int .i64 b.x.lo, .int .i64 b.x.hi, .int .i64 b.y.lo, .int .i64 b.y.hi, .int .i64 b.s.lo, .int .i64 b.s.hi, .int .i64 b.d.lo, .int .i64 b.d.hi] := by rw [hw1]; exact ((Blk.newAt (by simp)).alloc _).alloc _
  have k4 : Blk w1 (w.heap.size + 1 + 1) 134 #[.int .i64 0, .int .i64 0, .int .i64 0, .int .i64 0, .int .i64 0, .int .i64 0, .int .i64 0, .int .i64 0] := by rw [hw1]; exact (Blk.newAt (by simp)).alloc _
  have k5 : Blk w1 (w.heap.size + 1 + 1 + 1) 134 #[.int .i64 0, .int .i64 0, .int .i64 0, .int .i64 0, .int .i64 0, .int .i64 0, .int .i64 0, .int .i64 0] := by rw [hw1]; exact Blk.newAt (by simp)
  have hb : Below w.heap.size w w1 := by rw [hw1]; exact ((((Below.refl _ _).alloc (Nat.le_refl _) _).alloc (by simp) _).alloc (by simp; omega) _).alloc (by simp; omega) _
  go_enter Tryz.func95, Tryz.ntmps95
  go_wp2_with fail
  rw [← hw1]
  clear hw1
  refine wp_held_np (fun w' : World => (∀ j, w'.cell? ⟨w.heap.size, j, none⟩ = #[Value.int .i64 a.x.lo, .int .i64 a.x.hi, .int .i64 a.y.lo, .int .i64 a.y.hi, .int .i64 a.s.lo, .int .i64 a.s.hi, .int .i64 a.d.lo, .int .i64 a.d.hi][j]?) ∧ (∀ j, w'.cell? ⟨w.heap.size + 1, j, none⟩ = #[Value.int .i64 b.x.lo, .int .i64 b.x.hi, .int .i64 b.y.lo, .int .i64 b.y.hi, .int .i64 b.s.lo, .int .i64 b.s.hi, .int .i64 b.d.lo, .int .i64 b.d.hi][j]?)) (by kernel_rfl) ?_
  have hbel : Below w1.heap.size w1 w1.drew := (Below.refl _ _).drew
  replace k2 := k2.below hbel
  replace k3 := k3.below hbel
  replace k4 := k4.below hbel
  replace k5 := k5.below hbel
  replace hb := hb.trans (hbel.mono hb.size)
  clear hbel
  generalize w1.drew = W at *
  have hS : (fun w' : World => (∀ j, w'.cell? ⟨w.heap.size, j, none⟩ = #[Value.int .i64 a.x.lo, .int .i64 a.x.hi, .int .i64 a.y.lo, .int .i64 a.y.hi, .int .i64 a.s.lo, .int .i64 a.s.hi, .int .i64 a.d.lo, .int .i64 a.d.hi][j]?) ∧ (∀ j, w'.cell? ⟨w.heap.size + 1, j, none⟩ = #[Value.int .i64 b.x.lo, .int .i64 b.x.hi, .int .i64 b.y.lo, .int .i64 b.y.hi, .int .i64 b.s.lo, .int .i64 b.s.hi, .int .i64 b.d.lo, .int .i64 b.d.hi][j]?)) W := ⟨k2.cell, k3.cell⟩
  refine held_take (i := 0) (v := ?_) 10 rfl rfl (by kernel_rfl) (by kernel_rfl) (by kernel_rfl) (fun _ _ _ h => h) (Or.inl ⟨by rfl, ?_⟩) hS ?_
  rotate_left 1
  · intro w' hSw
    try dsimp only at hSw
    obtain ⟨q1, q2⟩ := hSw
    go_simp
    all_goals with_reducible rfl
  try simp only [Act.put, List.setIfInBounds_toArray, List.set_cons_zero, List.set_cons_succ]
  refine held_take (i := 2) (v := ?_) 12 rfl rfl (by kernel_rfl) (by kernel_rfl) (by kernel_rfl) (fun _ _ _ h => h) (Or.inl ⟨by rfl, ?_⟩) hS ?_
  rotate_left 1
  · intro w' hSw
    try dsimp only at hSw
    obtain ⟨q1, q2⟩ := hSw
    go_simp
    all_goals with_reducible rfl
  try simp only [Act.put, List.setIfInBounds_toArray, List.set_cons_zero, List.set_cons_succ]
  refine held_one (i := 1) (by kernel_rfl) rfl rfl (fun K hK => ?_)
  go_simp
  refine (hc1 _).mono ?_
  rintro e W2 ⟨rfl, hbel⟩
  clear hS
  replace k2 := k2.below hbel
  replace k3 := k3.below hbel
  replace k4 := k4.below hbel
  replace k5 := k5.below hbel
  replace hb := hb.trans (hbel.mono hb.size)
  clear hbel
  have hS : (fun w' : World => (∀ j, w'.cell? ⟨w.heap.size, j, none⟩ = #[Value.int .i64 a.x.lo, .int .i64 a.x.hi, .int .i64 a.y.lo, .int .i64 a.y.hi, .int .i64 a.s.lo, .int .i64 a.s.hi, .int .i64 a.d.lo, .int .i64 a.d.hi][j]?) ∧ (∀ j, w'.cell? ⟨w.heap.size + 1, j, none⟩ = #[Value.int .i64 b.x.lo, .int .i64 b.x.hi, .int .i64 b.y.lo, .int .i64 b.y.hi, .int .i64 b.s.lo, .int .i64 b.s.hi, .int .i64 b.d.lo, .int .i64 b.d.hi][j]?)) W2 := ⟨k2.cell, k3.cell⟩
  refine hK _ _ hS ?_
  clear hK K
  try simp only [Act.put, List.setIfInBounds_toArray, List.set_cons_zero, List.set_cons_succ]
  refine held_one (i := 3) (by kernel_rfl) rfl rfl (fun K hK => ?_)
  go_simp
  refine (hc2 _).mono ?_
  rintro e W3 ⟨rfl, hbel⟩
  clear hS
  replace k2 := k2.below hbel
  replace k3 := k3.below hbel
  replace k4 := k4.below hbel
  replace k5 := k5.below hbel
  replace hb := hb.trans (hbel.mono hb.size)
  clear hbel
  have hS : (fun w' : World => (∀ j, w'.cell? ⟨w.heap.size, j, none⟩ = #[Value.int .i64 a.x.lo, .int .i64 a.x.hi, .int .i64 a.y.lo, .int .i64 a.y.hi, .int .i64 a.s.lo, .int .i64 a.s.hi, .int .i64 a.d.lo, .int .i64 a.d.hi][j]?) ∧ (∀ j, w'.cell? ⟨w.heap.size + 1, j, none⟩ = #[Value.int .i64 b.x.lo, .int .i64 b.x.hi, .int .i64 b.y.lo, .int .i64 b.y.hi, .int .i64 b.s.lo, .int .i64 b.s.hi, .int .i64 b.d.lo, .int .i64 b.d.hi][j]?)) W3 := ⟨k2.cell, k3.cell⟩
  refine hK _ _ hS ?_
  clear hK K
  try simp only [Act.put, List.setIfInBounds_toArray, List.set_cons_zero, List.set_cons_succ]
  have hbel := (Below.refl W3.heap.size W3).alloc (Nat.le_refl _) (.cells #[.int .i64 0, .int .i64 0] 31)
  have kl := Blk.new W3 31 #[.int .i64 0, .int .i64 0]
  replace k2 := k2.below hbel
  replace k3 := k3.below hbel
  replace k4 := k4.below hbel
  replace k5 := k5.below hbel
  replace hb := hb.trans (hbel.mono hb.size)
  clear hbel
  have hS2 : (fun w' : World => (∀ j, w'.cell? ⟨w.heap.size, j, none⟩ = #[Value.int .i64 a.x.lo, .int .i64 a.x.hi, .int .i64 a.y.lo, .int .i64 a.y.hi, .int .i64 a.s.lo, .int .i64 a.s.hi, .int .i64 a.d.lo, .int .i64 a.d.hi][j]?) ∧ (∀ j, w'.cell? ⟨w.heap.size + 1, j, none⟩ = #[Value.int .i64 b.x.lo, .int .i64 b.x.hi, .int .i64 b.y.lo, .int .i64 b.y.hi, .int .i64 b.s.lo, .int .i64 b.s.hi, .int .i64 b.d.lo, .int .i64 b.d.hi][j]?)) (W3.alloc (.cells #[.int .i64 0, .int .i64 0] 31)) := ⟨k2.cell, k3.cell⟩
  refine held_one (i := 4) (by kernel_rfl) rfl rfl (fun K hK => ?_)
  go_simp
  refine hK _ _ hS2 ?_
  clear hK K hS
  have hS := hS2
  clear hS2
  try simp only [Act.put, List.setIfInBounds_toArray, List.set_cons_zero, List.set_cons_succ]
  generalize W3.alloc (.cells #[.int .i64 0, .int .i64 0] 31) = W4 at *
  generalize W3.heap.size = gl at *
  have hsl := SlAt.two kl
  refine held_one (i := 5) (by kernel_rfl) rfl rfl (fun K hK => ?_)
  go_simp
  refine (hfi _ _ hsl).mono ?_
  rintro e w' ⟨rfl, rfl⟩
  refine hK _ _ hS ?_
  clear hK K hsl kl
  try simp only [Act.put, List.setIfInBounds_toArray, List.set_cons_zero, List.set_cons_succ]
  refine held_take (i := 6) (v := ?_) 7 rfl rfl (by kernel_rfl) (by kernel_rfl) (by kernel_rfl) (fun _ _ _ h => h) (Or.inl ⟨by rfl, ?_⟩) hS ?_
  rotate_left 1
  · intro w' hSw
    try dsimp only at hSw
    obtain ⟨q1, q2⟩ := hSw
    go_simp
    all_goals with_reducible rfl
  try simp only [Act.put, List.setIfInBounds_toArray, List.set_cons_zero, List.set_cons_succ]
  refine wpAnyH_done (by kernel_rfl) (noPanic_normal ?_) _
  clear hS hc1 hc2
  obtain ⟨c2, f2, l2⟩ := k2.rules
  go_wp2_with fail
  clear c2 f2 l2
  refine (hr1 _).mono ?_
  rintro e W5 ⟨rfl, hbel⟩
  clear hr1
  replace k2 := k2.below hbel
  replace k3 := k3.below hbel
  replace k4 := k4.below hbel
  replace k5 := k5.below hbel
  replace hb := hb.trans (hbel.mono hb.size)
  clear hbel
  go_wp2_with fail
  refine (ht1 _).mono ?_
  rintro e W6 ⟨rfl, hbel⟩
  clear ht1
  replace k2 := k2.below hbel
  replace k3 := k3.below hbel
  replace k4 := k4.below hbel
  replace k5 := k5.below hbel
  replace hb := hb.trans (hbel.mono hb.size)
  clear hbel
  have k4a := k4.set8 (.int .i64 x.x.lo) (.int .i64 x.x.hi) (.int .i64 x.y.lo) (.int .i64 x.y.hi) (.int .i64 x.s.lo) (.int .i64 x.s.hi) (.int .i64 x.d.lo) (.int .i64 x.d.hi)
  have k2a := far_set8 k2 (show w.heap.size ≠ w.heap.size + 1 + 1 by omega) (.int .i64 x.x.lo) (.int .i64 x.x.hi) (.int .i64 x.y.lo) (.int .i64 x.y.hi) (.int .i64 x.s.lo) (.int .i64 x.s.hi) (.int .i64 x.d.lo) (.int .i64 x.d.hi)
  have k3a := far_set8 k3 (show w.heap.size + 1 ≠ w.heap.size + 1 + 1 by omega) (.int .i64 x.x.lo) (.int .i64 x.x.hi) (.int .i64 x.y.lo) (.int .i64 x.y.hi) (.int .i64 x.s.lo) (.int .i64 x.s.hi) (.int .i64 x.d.lo) (.int .i64 x.d.hi)
  have k5a := far_set8 k5 (show w.heap.size + 1 + 1 + 1 ≠ w.heap.size + 1 + 1 by omega) (.int .i64 x.x.lo) (.int .i64 x.x.hi) (.int .i64 x.y.lo) (.int .i64 x.y.hi) (.int .i64 x.s.lo) (.int .i64 x.s.hi) (.int .i64 x.d.lo) (.int .i64 x.d.hi)
  have hba := below_set8 (g := w.heap.size + 1 + 1) hb (by omega) (.int .i64 x.x.lo) (.int .i64 x.x.hi) (.int .i64 x.y.lo) (.int .i64 x.y.hi) (.int .i64 x.s.lo) (.int .i64 x.s.hi) (.int .i64 x.d.lo) (.int .i64 x.d.hi)
  obtain ⟨wz, hwz⟩ : ∃ q, q = set8 W6 (w.heap.size + 1 + 1) (.int .i64 x.x.lo) (.int .i64 x.x.hi) (.int .i64 x.y.lo) (.int .i64 x.y.hi) (.int .i64 x.s.lo) (.int .i64 x.s.hi) (.int .i64 x.d.lo) (.int .i64 x.d.hi) := ⟨_, rfl⟩
  rw [← hwz] at k4a k2a k3a k5a hba
  simp only [set8] at hwz
  obtain ⟨c4, f4, l4⟩ := k4.rules
  obtain ⟨c3, f3, l3⟩ := k3.rules
  go_wp2_with fail
  rw [← hwz]
  clear hwz c4 f4 l4 c3 f3 l3 k2 k3 k4 k5 hb
  refine (hr2 _).mono ?_
  rintro e W7 ⟨rfl, hbel⟩
  clear hr2
  replace k3 := k3a.below hbel
  replace k4 := k4a.below hbel
  replace k5 := k5a.below hbel
  replace hb := hba.trans (hbel.mono hba.size)
  clear hbel k2a k3a k4a k5a hba
  go_wp2_with fail
  refine (ht2 _).mono ?_
  rintro e W8 ⟨rfl, hbel⟩
  clear ht2
  replace k4 := k4.below hbel
  replace k5 := k5.below hbel
  replace hb := hb.trans (hbel.mono hb.size)
  clear hbel k3
  have k5a := (k5.set8 (.int .i64 y.x.lo) (.int .i64 y.x.hi) (.int .i64 y.y.lo) (.int .i64 y.y.hi) (.int .i64 y.s.lo) (.int .i64 y.s.hi) (.int .i64 y.d.lo) (.int .i64 y.d.hi))
  have k4a := far_set8 k4 (show w.heap.size + 1 + 1 ≠ w.heap.size + 1 + 1 + 1 by omega) (.int .i64 y.x.lo) (.int .i64 y.x.hi) (.int .i64 y.y.lo) (.int .i64 y.y.hi) (.int .i64 y.s.lo) (.int .i64 y.s.hi) (.int .i64 y.d.lo) (.int .i64 y.d.hi)
  have hba := below_set8 (g := w.heap.size + 1 + 1 + 1) hb (by omega) (.int .i64 y.x.lo) (.int .i64 y.x.hi) (.int .i64 y.y.lo) (.int .i64 y.y.hi) (.int .i64 y.s.lo) (.int .i64 y.s.hi) (.int .i64 y.d.lo) (.int .i64 y.d.hi)
  obtain ⟨wy, hwy⟩ : ∃ q, q = set8 W8 (w.heap.size + 1 + 1 + 1) (.int .i64 y.x.lo) (.int .i64 y.x.hi) (.int .i64 y.y.lo) (.int .i64 y.y.hi) (.int .i64 y.s.lo) (.int .i64 y.s.hi) (.int .i64 y.d.lo) (.int .i64 y.d.hi) := ⟨_, rfl⟩
  rw [← hwy] at k5a k4a hba
  simp only [set8] at hwy
  obtain ⟨c5, f5, l5⟩ := k5.rules
  have hsz8 : wy.heap.size = W8.heap.size := by rw [hwy]; simp [World.setCell]
  have kl : Blk (wy.alloc (.cells #[.int .i64 0, .int .i64 0] 31)) W8.heap.size 31 #[.int .i64 0, .int .i64 0] := by rw [← hsz8]; exact Blk.new _ _ _
  have hbel := (Below.refl wy.heap.size wy).alloc (Nat.le_refl _) (.cells #[.int .i64 0, .int .i64 0] 31)
  replace k5a := k5a.below hbel
  replace k4a := k4a.below hbel
  replace hba := hba.trans (hbel.mono hba.size)
  clear hbel hsz8
  go_wp2_with fail
  rw [← hwy]
  clear hwy c5 f5 l5 k4 k5 hb
  generalize wy.alloc (.cells #[.int .i64 0, .int .i64 0] 31) = W9 at *
  generalize W8.heap.size = g9 at *
  refine (hfi _ _ (SlAt.two kl)).mono ?_
  rintro e w' ⟨rfl, rfl⟩
  clear hfi kl
  go_wp2_with fail
  refine wp_held_np (fun w' : World => (∀ j, w'.cell? ⟨w.heap.size + 1 + 1, j, none⟩ = #[Value.int .i64 x.x.lo, .int .i64 x.x.hi, .int .i64 x.y.lo, .int .i64 x.y.hi, .int .i64 x.s.lo, .int .i64 x.s.hi, .int .i64 x.d.lo, .int .i64 x.d.hi][j]?) ∧ (∀ j, w'.cell? ⟨w.heap.size + 1 + 1 + 1, j, none⟩ = #[Value.int .i64 y.x.lo, .int .i64 y.x.hi, .int .i64 y.y.lo, .int .i64 y.y.hi, .int .i64 y.s.lo, .int .i64 y.s.hi, .int .i64 y.d.lo, .int .i64 y.d.hi][j]?)) (by kernel_rfl) ?_
  replace k4a := k4a.drew
  replace k5a := k5a.drew
  replace hba := hba.drew
  generalize W9.drew = Wd at *
  have hS : (fun w' : World => (∀ j, w'.cell? ⟨w.heap.size + 1 + 1, j, none⟩ = #[Value.int .i64 x.x.lo, .int .i64 x.x.hi, .int .i64 x.y.lo, .int .i64 x.y.hi, .int .i64 x.s.lo, .int .i64 x.s.hi, .int .i64 x.d.lo, .int .i64 x.d.hi][j]?) ∧ (∀ j, w'.cell? ⟨w.heap.size + 1 + 1 + 1, j, none⟩ = #[Value.int .i64 y.x.lo, .int .i64 y.x.hi, .int .i64 y.y.lo, .int .i64 y.y.hi, .int .i64 y.s.lo, .int .i64 y.s.hi, .int .i64 y.d.lo, .int .i64 y.d.hi][j]?)) Wd := ⟨k4a.cell, k5a.cell⟩
  refine held_take (i := 0) (v := ?_) 42 rfl rfl (by kernel_rfl) (by kernel_rfl) (by kernel_rfl) (fun _ _ _ h => h) (Or.inl ⟨by rfl, ?_⟩) hS ?_
  rotate_left 1
  · intro w' hSw
    try dsimp only at hSw
    obtain ⟨q1, q2⟩ := hSw
    go_simp
    all_goals with_reducible rfl
  try simp only [Act.put, List.setIfInBounds_toArray, List.set_cons_zero, List.set_cons_succ]
  refine held_take (i := 1) (v := ?_) 43 rfl rfl (by kernel_rfl) (by kernel_rfl) (by kernel_rfl) (fun _ _ _ h => h) (Or.inl ⟨by rfl, ?_⟩) hS ?_
  rotate_left 1
  · intro w' hSw
    try dsimp only at hSw
    obtain ⟨q1, q2⟩ := hSw
    go_simp
    all_goals with_reducible rfl
  try simp only [Act.put, List.setIfInBounds_toArray, List.set_cons_zero, List.set_cons_succ]
  have k4z := k4a.set8 (.int .i64 x.x.lo) (.int .i64 x.x.hi) (.int .i64 x.y.lo) (.int .i64 x.y.hi) (.int .i64 x.s.lo) (.int .i64 x.s.hi) (.int .i64 x.d.lo) (.int .i64 x.d.hi)
  have k5z := far_set8 k5a (show w.heap.size + 1 + 1 + 1 ≠ w.heap.size + 1 + 1 by omega) (.int .i64 x.x.lo) (.int .i64 x.x.hi) (.int .i64 x.y.lo) (.int .i64 x.y.hi) (.int .i64 x.s.lo) (.int .i64 x.s.hi) (.int .i64 x.d.lo) (.int .i64 x.d.hi)
  have hbz := below_set8 (g := w.heap.size + 1 + 1) hba (by omega) (.int .i64 x.x.lo) (.int .i64 x.x.hi) (.int .i64 x.y.lo) (.int .i64 x.y.hi) (.int .i64 x.s.lo) (.int .i64 x.s.hi) (.int .i64 x.d.lo) (.int .i64 x.d.hi)
  obtain ⟨wz, hwz⟩ : ∃ q, q = set8 Wd (w.heap.size + 1 + 1) (.int .i64 x.x.lo) (.int .i64 x.x.hi) (.int .i64 x.y.lo) (.int .i64 x.y.hi) (.int .i64 x.s.lo) (.int .i64 x.s.hi) (.int .i64 x.d.lo) (.int .i64 x.d.hi) := ⟨_, rfl⟩
  rw [← hwz] at k4z k5z hbz
  simp only [set8] at hwz
  obtain ⟨c4, f4, l4⟩ := k4a.rules
  refine held_one (i := 2) (by kernel_rfl) rfl rfl (fun K hK => ?_)
  go_simp
  rw [← hwz]
  refine hK _ _ ⟨k4z.cell, k5z.cell⟩ ?_
  clear hK K hwz c4 f4 l4 k4a k5a hba hS
  try simp only [Act.put, List.setIfInBounds_toArray, List.set_cons_zero, List.set_cons_succ]
  have k5y := k5z.set8 (.int .i64 y.x.lo) (.int .i64 y.x.hi) (.int .i64 y.y.lo) (.int .i64 y.y.hi) (.int .i64 y.s.lo) (.int .i64 y.s.hi) (.int .i64 y.d.lo) (.int .i64 y.d.hi)
  have k4y := far_set8 k4z (show w.heap.size + 1 + 1 ≠ w.heap.size + 1 + 1 + 1 by omega) (.int .i64 y.x.lo) (.int .i64 y.x.hi) (.int .i64 y.y.lo) (.int .i64 y.y.hi) (.int .i64 y.s.lo) (.int .i64 y.s.hi) (.int .i64 y.d.lo) (.int .i64 y.d.hi)
  have hby := below_set8 (g := w.heap.size + 1 + 1 + 1) hbz (by omega) (.int .i64 y.x.lo) (.int .i64 y.x.hi) (.int .i64 y.y.lo) (.int .i64 y.y.hi) (.int .i64 y.s.lo) (.int .i64 y.s.hi) (.int .i64 y.d.lo) (.int .i64 y.d.hi)
  obtain ⟨wy2, hwy⟩ : ∃ q, q = set8 wz (w.heap.size + 1 + 1 + 1) (.int .i64 y.x.lo) (.int .i64 y.x.hi) (.int .i64 y.y.lo) (.int .i64 y.y.hi) (.int .i64 y.s.lo) (.int .i64 y.s.hi) (.int .i64 y.d.lo) (.int .i64 y.d.hi) := ⟨_, rfl⟩
  rw [← hwy] at k4y k5y hby
  simp only [set8] at hwy
  obtain ⟨c5, f5, l5⟩ := k5z.rules
  refine held_one (i := 3) (by kernel_rfl) rfl rfl (fun K hK => ?_)
  go_simp
  rw [← hwy]
  have hS : (fun w' : World => (∀ j, w'.cell? ⟨w.heap.size + 1 + 1, j, none⟩ = #[Value.int .i64 x.x.lo, .int .i64 x.x.hi, .int .i64 x.y.lo, .int .i64 x.y.hi, .int .i64 x.s.lo, .int .i64 x.s.hi, .int .i64 x.d.lo, .int .i64 x.d.hi][j]?) ∧ (∀ j, w'.cell? ⟨w.heap.size + 1 + 1 + 1, j, none⟩ = #[Value.int .i64 y.x.lo, .int .i64 y.x.hi, .int .i64 y.y.lo, .int .i64 y.y.hi, .int .i64 y.s.lo, .int .i64 y.s.hi, .int .i64 y.d.lo, .int .i64 y.d.hi][j]?)) wy2 := ⟨k4y.cell, k5y.cell⟩
  refine hK _ _ hS ?_
  clear hK K hwy c5 f5 l5 k4z k5z hbz
  try simp only [Act.put, List.setIfInBounds_toArray, List.set_cons_zero, List.set_cons_succ]
  refine held_take (i := 4) (v := ?_) 6 rfl rfl (by kernel_rfl) (by kernel_rfl) (by kernel_rfl) (fun _ _ _ h => h) (Or.inl ⟨by rfl, ?_⟩) hS ?_
  rotate_left 1
  · intro w' hSw
    try dsimp only at hSw
    obtain ⟨q1, q2⟩ := hSw
    go_simp
    all_goals with_reducible rfl
  try simp only [Act.put, List.setIfInBounds_toArray, List.set_cons_zero, List.set_cons_succ]
  refine wpAnyH_done (by kernel_rfl) (noPanic_normal ?_) _
  clear hS
  go_wp2
  obtain ⟨c4, f4, l4⟩ := k4y.rules
  obtain ⟨c5, f5, l5⟩ := k5y.rules
  exact bodyPost_ret (v := .tuple #[.agg #[.int .i64 x.x.lo, .int .i64 x.x.hi, .int .i64 x.y.lo, .int .i64 x.y.hi, .int .i64 x.s.lo, .int .i64 x.s.hi, .int .i64 x.d.lo, .int .i64 x.d.hi], .agg #[.int .i64 y.x.lo, .int .i64 y.x.hi, .int .i64 y.y.lo, .int .i64 y.y.hi, .int .i64 y.s.lo, .int .i64 y.s.hi, .int .i64 y.d.lo, .int .i64 y.d.hi], .int .i64 0]) (by simp [results, Tryz.results95, go_sem, c4, c5]) rfl ⟨rfl, hby⟩
theorem minus_mid {a b : Reg} (ha : okReg a = true) (hb : okReg b = true) : midR (zipR minusB a b) := by
  obtain ⟨⟨x1, x2, x3⟩, ⟨y1, y2, y3⟩, ⟨s1, s2, s3⟩, d1, d2, d3⟩ := okReg_iff.1 ha
  obtain ⟨⟨a1, a2, a3⟩, ⟨b1, b2, b3⟩, ⟨c1, c2, c3⟩, e1, e2, e3⟩ := okReg_iff.1 hb
  unfold midR midB zipR minusB
  dsimp only
  omega
set_option maxRecDepth 100000 in
set_option maxHeartbeats 1000000 in
theorem Gap_any (a b x y : Reg) (w : World) (ha : okReg a = true) (hb0 : okReg b = true) (hx : tightO a = some x) (hy : tightO b = some y) :
    Calls Tryz.prog 84 #[.agg (regA a), .agg (regA b)] w fun e w' => e = .returned (.tuple #[.agg #[.int .i64 (gapS x y).lo, .int .i64 (gapS x y).hi], .int .i64 0]) ∧ Below w.heap.size w w' := by
  have h1 := fun W => two_any a b x y W ha hb0 hx hy
  have hox := tight_ok ha hx
  have hoy := tight_ok hb0 hy
  have h2 := fun W => combined_any x y minusB 97 W eg_minusB (okReg_mid hox) (okReg_mid hoy) op_minusB
  have h3 := fun W => squares_any (zipR minusB x y) W (minus_mid hox hoy)
  have hg : gapS x y = sqsS (zipR minusB x y) := rfl
  rw [hg]
  clear hg
  generalize zipR minusB x y = M at *
  generalize sqsS M = B at *
  generalize (pckAll ltLo M).isSome = S at *
  simp only [regA] at h1 h2 h3 ⊢
  clear ha hb0 hx hy hox hoy
  obtain ⟨w1, hw1⟩ : ∃ w1, w1 = ((w.alloc (.cells #[.int .i64 a.x.lo, .int .i64 a.x.hi, .int .i64 a.y.lo, .int .i64 a.y.hi, .int .i64 a.s.lo, .int .i64 a.s.hi, .int .i64 a.d.lo, .int .i64 a.d.hi] 58)).alloc (.cells #[.int .i64 b.x.lo, .int .i64 b.x.hi, .int .i64 b.y.lo, .int .i64 b.y.hi, .int .i64 b.s.lo, .int .i64 b.s.hi, .int .i64 b.d.lo, .int .i64 b.d.hi] 58)).alloc (.cells #[.int .i64 0, .int .i64 0] 24) := ⟨_, rfl⟩
  have k2 : Blk w1 w.heap.size 58 #[.int .i64 a.x.lo, .int .i64 a.x.hi, .int .i64 a.y.lo, .int .i64 a.y.hi, .int .i64 a.s.lo, .int .i64 a.s.hi, .int .i64 a.d.lo, .int .i64 a.d.hi] := by rw [hw1]; exact ((Blk.new _ _ _).alloc _).alloc _
  have k3 : Blk w1 (w.heap.size + 1) 58 #[.int .i64 b.x.lo, .int .i64 b.x.hi, .int .i64 b.y.lo, .int .i64 b.y.hi, .int .i64 b.s.lo, .int .i64 b.s.hi, .int .i64 b.d.lo, .int .i64 b.d.hi] := by rw [hw1]; exact (Blk.newAt (by simp)).alloc _
  have k4 : Blk w1 (w.heap.size + 1 + 1) 24 #[.int .i64 0, .int .i64 0] := by rw [hw1]; exact Blk.newAt (by simp)
  have hb : Below w.heap.size w w1 := by rw [hw1]; exact (((Below.refl _ _).alloc (Nat.le_refl _) _).alloc (by simp) _).alloc (by simp; omega) _
  go_enter Tryz.func84, Tryz.ntmps84
  go_wp2_with fail
  rw [← hw1]
  clear hw1
  refine (h1 _).mono ?_
  rintro e W ⟨rfl, hbel⟩
  clear h1
  replace k2 := k2.below hbel
  replace k3 := k3.below hbel
  replace k4 := k4.below hbel
  replace hb := hb.trans (hbel.mono hb.size)
  clear hbel
  go_wp2_with fail
  have hbel := ((Below.refl W.heap.size W).alloc (Nat.le_refl _) (.cells #[.int .i64 x.x.lo, .int .i64 x.x.hi, .int .i64 x.y.lo, .int .i64 x.y.hi, .int .i64 x.s.lo, .int .i64 x.s.hi, .int .i64 x.d.lo, .int .i64 x.d.hi] 134)).alloc (by simp) (.cells #[.int .i64 y.x.lo, .int .i64 y.x.hi, .int .i64 y.y.lo, .int .i64 y.y.hi, .int .i64 y.s.lo, .int .i64 y.s.hi, .int .i64 y.d.lo, .int .i64 y.d.hi] 134)
  replace k2 := k2.below hbel
  replace k3 := k3.below hbel
  replace k4 := k4.below hbel
  replace hb := hb.trans (hbel.mono hb.size)
  clear hbel
  generalize (W.alloc (.cells #[.int .i64 x.x.lo, .int .i64 x.x.hi, .int .i64 x.y.lo, .int .i64 x.y.hi, .int .i64 x.s.lo, .int .i64 x.s.hi, .int .i64 x.d.lo, .int .i64 x.d.hi] 134)).alloc (.cells #[.int .i64 y.x.lo, .int .i64 y.x.hi, .int .i64 y.y.lo, .int .i64 y.y.hi, .int .i64 y.s.lo, .int .i64 y.s.hi, .int .i64 y.d.lo, .int .i64 y.d.hi] 134) = W2 at *
  refine (h2 _).mono ?_
  rintro e W3 ⟨rfl, hbel⟩
  clear h2
  replace k2 := k2.below hbel
  replace k3 := k3.below hbel
  replace k4 := k4.below hbel
  replace hb := hb.trans (hbel.mono hb.size)
  clear hbel
  go_wp2_with fail
  refine (h3 _).mono ?_
  rintro e W4 ⟨rfl, hbel⟩
  clear h3
  replace k2 := k2.below hbel
  replace k3 := k3.below hbel
  replace k4 := k4.below hbel
  replace hb := hb.trans (hbel.mono hb.size)
  clear hbel
  have kz0 := (k4.set_ 0 (.int .i64 B.lo)).set_ 1 (.int .i64 B.hi)
  simp only [List.setIfInBounds_toArray, List.set_cons_zero, List.set_cons_succ] at kz0
  have kz := kz0.alloc (.cells #[.int .i64 B.lo, .int .i64 B.hi] 24)
  have bz0 := (hb.setCell (p := ⟨w.heap.size + 1 + 1, 0, none⟩) (by dsimp only; omega) (.int .i64 B.lo)).setCell (p := ⟨w.heap.size + 1 + 1, 1, none⟩) (by dsimp only; omega) (.int .i64 B.hi)
  have bz := bz0.alloc bz0.size (.cells #[.int .i64 B.lo, .int .i64 B.hi] 24)
  obtain ⟨wz, hwz⟩ : ∃ x, x = ((W4.setCell ⟨w.heap.size + 1 + 1, 0, none⟩ (.int .i64 B.lo)).setCell ⟨w.heap.size + 1 + 1, 1, none⟩ (.int .i64 B.hi)).alloc (.cells #[.int .i64 B.lo, .int .i64 B.hi] 24) := ⟨_, rfl⟩
  rw [← hwz] at kz bz
  obtain ⟨c4, f4, l4⟩ := k4.rules
  go_wp2
  rw [← hwz]
  clear hwz c4 f4 l4
  obtain ⟨c4, f4, l4⟩ := kz.rules
  exact bodyPost_ret (v := .tuple #[.agg #[.int .i64 B.lo, .int .i64 B.hi], .int .i64 0]) (by simp [results, Tryz.results84, go_sem, c4]) rfl ⟨rfl, bz⟩
end Go.Proofs.YthjdjpcomocffaaGreat
