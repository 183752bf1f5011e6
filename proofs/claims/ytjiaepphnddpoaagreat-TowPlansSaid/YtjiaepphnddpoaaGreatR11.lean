/-
  The specification's package: the pulls of bounds, and Pulls.
-/
import Derived.Test.YtjiaepphnddpoaaGreatR8
namespace Go.Proofs.YtjiaepphnddpoaaGreat
open Go.RowKit Go.Shelf
set_option linter.unusedSimpArgs false
set_option linter.unusedVariables false

set_option maxRecDepth 100000 in
set_option maxHeartbeats 2000000 in
theorem Rpulls_any (s : Strm) (A O : Option Addr) (n c co B1 B : Nat) (l : List Bnd) (v : Int) (cur : Bnd) (w : World) (ho : okStrm s = true) (hl : okOffs s l = true) (hv : okSpeed v = true) (hc : okBnd 50 cur = true) (hss : SlAt w B1 5 Sec.cells A n c s.secs) (hs : SlAt w B 2 Bnd.cells O n co l) :
    Calls Tryz.prog 155 #[.agg #[.int .i64 s.head, .slice A n c, .int .i64 s.lane.lo, .int .i64 s.lane.hi, .int .i64 s.bend], .slice O n co, .int .i64 v, .agg #[.int .i64 cur.lo, .int .i64 cur.hi]] w fun e w' => ∃ P pc, e = .returned (.slice P n pc) ∧ SlAt w' w.heap.size 2 Bnd.cells P n pc (pullL s l v cur) ∧ Below w.heap.size w w' := by
  have hn8 : n ≤ 8 := by have := ok_head ho; unfold headOk at this; have := hss.len; omega
  have hln := hs.len
  obtain ⟨v1, v2⟩ := of_decide_eq_true (p := 0 ≤ v ∧ v ≤ 100) hv
  obtain ⟨q1, q2, q3⟩ := of_decide_eq_true (p := -50 ≤ cur.lo ∧ cur.lo ≤ cur.hi ∧ cur.hi ≤ 50) hc
  obtain ⟨p1, p2⟩ := ok_pull ho hl
  have hbe := Lib.hid (fun W (hW : Below w.heap.size w W) => Rbends_any s A O n c co B l W ho hl (hs.below hW))
  have hlo := fun W X xc B2 (h : SlAt W B2 2 Bnd.cells X n xc (bendL s l)) => Rlows_any X n xc B2 (bendL s l) W (by omega) h
  have hhi := fun W X xc B2 (h : SlAt W B2 2 Bnd.cells X n xc (bendL s l)) => Rhighs_any X n xc B2 (bendL s l) W (by omega) h
  have hst1 := fun W P pc B2 (hW : Below w.heap.size w W) (h1 : SlAt W B2 1 ivs P n pc ((bendL s l).map (·.lo))) => Rpull_any s A P n c pc B1 B2 ((bendL s l).map (·.lo)) (max 0 (v - cur.hi)) W ho (by omega) (by omega) p1 (hss.below hW) h1
  have hst2 := fun W P pc B2 (hW : Below w.heap.size w W) (h1 : SlAt W B2 1 ivs P n pc ((bendL s l).map (·.hi))) => Rpull_any s A P n c pc B1 B2 ((bendL s l).map (·.hi)) (max 0 (v - cur.lo)) W ho (by omega) (by omega) p2 (hss.below hW) h1
  have hpe := pullL_eq s l v cur
  have hE1 := pullZ_lo (max 0 (v - cur.hi)) (max 0 (v - cur.lo)) s.secs (bendL s l)
  have hE2 := pullZ_hi (max 0 (v - cur.hi)) (max 0 (v - cur.lo)) s.secs (bendL s l)
  have hEl := pullL_len s l v cur
  rw [← hpe] at hE1 hE2
  rw [hln] at hEl
  simp only [← hE1] at hst1
  simp only [← hE2] at hst2
  generalize pullL s l v cur = E at *
  generalize bendL s l = bd at *
  replace hEl := Lib.hid hEl
  clear hE1 hE2 hpe p1 p2 hc hv ho hl hln hss
  have hmax := max2_int
  obtain ⟨x1, hx1⟩ : ∃ x1, v - cur.hi = x1 := ⟨_, rfl⟩
  obtain ⟨x2, hx2⟩ : ∃ x2, v - cur.lo = x2 := ⟨_, rfl⟩
  simp only [hx1] at hst1
  simp only [hx2] at hst2
  have u1 : IntKind.i64.wrap (v - cur.hi) = x1 := by rw [IntWalk.i64_in (v - cur.hi) (by omega), hx1]
  have u2 : IntKind.i64.wrap (v - cur.lo) = x2 := by rw [IntWalk.i64_in (v - cur.lo) (by omega), hx2]
  clear hx1 hx2 v1 v2 q1 q2 q3
  obtain ⟨w1, hw1⟩ : ∃ w1, w1 = (w.alloc (.cells #[.int .i64 s.head, .slice A n c, .int .i64 s.lane.lo, .int .i64 s.lane.hi, .int .i64 s.bend] 26)).alloc (.cells #[.int .i64 cur.lo, .int .i64 cur.hi] 24) := ⟨_, rfl⟩
  have k3 : Blk w1 w.heap.size 26 #[.int .i64 s.head, .slice A n c, .int .i64 s.lane.lo, .int .i64 s.lane.hi, .int .i64 s.bend] := by rw [hw1]; exact (Blk.new _ _ _).alloc _
  have k5 : Blk w1 (w.heap.size + 1) 24 #[.int .i64 cur.lo, .int .i64 cur.hi] := by rw [hw1]; have := Blk.new (w.alloc (.cells #[.int .i64 s.head, .slice A n c, .int .i64 s.lane.lo, .int .i64 s.lane.hi, .int .i64 s.bend] 26)) 24 #[.int .i64 cur.lo, .int .i64 cur.hi]; rw [World.size_alloc] at this; exact this
  have b1 : Below w.heap.size w w1 := by rw [hw1]; exact ((Below.refl _ _).alloc (Nat.le_refl _) _).alloc (by simp) _
  go_enter Tryz.func155, Tryz.ntmps155
  go_wp2_with fail
  rw [← hw1]
  clear hw1 hs
  refine (hbe.out _ b1).mono ?_
  rintro e W ⟨PB, pbc, rfl, hpB, hb1⟩
  replace k3 := k3.below hb1
  replace k5 := k5.below hb1
  replace b1 := b1.trans (hb1.mono b1.size)
  clear hb1 hbe
  go_wp2_with fail
  refine wp_held_np (fun w' : World => (∀ j, w'.cell? ⟨w.heap.size, j, none⟩ = #[Value.int .i64 s.head, .slice A n c, .int .i64 s.lane.lo, .int .i64 s.lane.hi, .int .i64 s.bend][j]?) ∧ (∀ j, w'.cell? ⟨w.heap.size + 1, j, none⟩ = #[Value.int .i64 cur.lo, .int .i64 cur.hi][j]?)) (by kernel_rfl) ?_
  replace k3 := k3.drew
  replace k5 := k5.drew
  replace b1 := b1.drew
  replace hpB := hpB.drew
  generalize W.drew = w2 at *
  have hS : (fun w' : World => (∀ j, w'.cell? ⟨w.heap.size, j, none⟩ = #[Value.int .i64 s.head, .slice A n c, .int .i64 s.lane.lo, .int .i64 s.lane.hi, .int .i64 s.bend][j]?) ∧ (∀ j, w'.cell? ⟨w.heap.size + 1, j, none⟩ = #[Value.int .i64 cur.lo, .int .i64 cur.hi][j]?)) w2 := ⟨k3.cell, k5.cell⟩
  refine held_take (i := 0) (v := ?_) 17 rfl rfl (by kernel_rfl) (by kernel_rfl) (by kernel_rfl) (fun _ _ _ h => h) (Or.inl ⟨by rfl, ?_⟩) hS ?_
  rotate_left 1
  · intro w' hSw
    try dsimp only at hSw
    obtain ⟨q1, q2⟩ := hSw
    go_simp
    all_goals with_reducible rfl
  try simp only [Act.put, List.setIfInBounds_toArray, List.set_cons_zero, List.set_cons_succ]
  refine held_take (i := 1) (v := ?_) 18 rfl rfl (by kernel_rfl) (by kernel_rfl) (by kernel_rfl) (fun _ _ _ h => h) (Or.inl ⟨by rfl, ?_⟩) hS ?_
  rotate_left 1
  · intro w' hSw
    try dsimp only at hSw
    obtain ⟨q1, q2⟩ := hSw
    go_simp
    all_goals with_reducible rfl
  try simp only [Act.put, List.setIfInBounds_toArray, List.set_cons_zero, List.set_cons_succ]
  refine held_take (i := 3) (v := ?_) 20 rfl rfl (by kernel_rfl) (by kernel_rfl) (by kernel_rfl) (fun _ _ _ h => h) (Or.inl ⟨by rfl, ?_⟩) hS ?_
  rotate_left 1
  · intro w' hSw
    try dsimp only at hSw
    obtain ⟨q1, q2⟩ := hSw
    go_simp
    all_goals with_reducible rfl
  try simp only [Act.put, List.setIfInBounds_toArray, List.set_cons_zero, List.set_cons_succ]
  refine held_take (i := 4) (v := ?_) 21 rfl rfl (by kernel_rfl) (by kernel_rfl) (by kernel_rfl) (fun _ _ _ h => h) (Or.inl ⟨by rfl, ?_⟩) hS ?_
  rotate_left 1
  · intro w' hSw
    try dsimp only at hSw
    obtain ⟨q1, q2⟩ := hSw
    go_simp
    all_goals with_reducible rfl
  try simp only [Act.put, List.setIfInBounds_toArray, List.set_cons_zero, List.set_cons_succ]
  refine held_take (i := 5) (v := ?_) 22 rfl rfl (by kernel_rfl) (by kernel_rfl) (by kernel_rfl) (fun _ _ _ h => h) (Or.inl ⟨by rfl, ?_⟩) hS ?_
  rotate_left 1
  · intro w' hSw
    try dsimp only at hSw
    obtain ⟨q1, q2⟩ := hSw
    go_simp
    all_goals with_reducible rfl
  try simp only [Act.put, List.setIfInBounds_toArray, List.set_cons_zero, List.set_cons_succ]
  refine held_take (i := 6) (v := ?_) 23 rfl rfl (by kernel_rfl) (by kernel_rfl) (by kernel_rfl) (fun _ _ _ h => h) (Or.inl ⟨by rfl, ?_⟩) hS ?_
  rotate_left 1
  · intro w' hSw
    try dsimp only at hSw
    obtain ⟨q1, q2⟩ := hSw
    go_simp
    all_goals with_reducible rfl
  try simp only [Act.put, List.setIfInBounds_toArray, List.set_cons_zero, List.set_cons_succ]
  refine held_take (i := 7) (v := ?_) 24 rfl rfl (by kernel_rfl) (by kernel_rfl) (by kernel_rfl) (fun _ _ _ h => h) (Or.inl ⟨by rfl, ?_⟩) hS ?_
  rotate_left 1
  · intro w' hSw
    try dsimp only at hSw
    obtain ⟨q1, q2⟩ := hSw
    go_simp
    all_goals with_reducible rfl
  try simp only [Act.put, List.setIfInBounds_toArray, List.set_cons_zero, List.set_cons_succ]
  refine held_take (i := 9) (v := ?_) 26 rfl rfl (by kernel_rfl) (by kernel_rfl) (by kernel_rfl) (fun _ _ _ h => h) (Or.inl ⟨by rfl, ?_⟩) hS ?_
  rotate_left 1
  · intro w' hSw
    try dsimp only at hSw
    obtain ⟨q1, q2⟩ := hSw
    go_simp
    all_goals with_reducible rfl
  try simp only [Act.put, List.setIfInBounds_toArray, List.set_cons_zero, List.set_cons_succ]
  refine held_take (i := 10) (v := ?_) 27 rfl rfl (by kernel_rfl) (by kernel_rfl) (by kernel_rfl) (fun _ _ _ h => h) (Or.inl ⟨by rfl, ?_⟩) hS ?_
  rotate_left 1
  · intro w' hSw
    try dsimp only at hSw
    obtain ⟨q1, q2⟩ := hSw
    go_simp
    all_goals with_reducible rfl
  try simp only [Act.put, List.setIfInBounds_toArray, List.set_cons_zero, List.set_cons_succ]
  refine held_take (i := 12) (v := ?_) 29 rfl rfl (by kernel_rfl) (by kernel_rfl) (by kernel_rfl) (fun _ _ _ h => h) (Or.inl ⟨by rfl, ?_⟩) hS ?_
  rotate_left 1
  · intro w' hSw
    try dsimp only at hSw
    obtain ⟨q1, q2⟩ := hSw
    go_simp
    all_goals with_reducible rfl
  try simp only [Act.put, List.setIfInBounds_toArray, List.set_cons_zero, List.set_cons_succ]
  refine held_take (i := 13) (v := ?_) 30 rfl rfl (by kernel_rfl) (by kernel_rfl) (by kernel_rfl) (fun _ _ _ h => h) (Or.inl ⟨by rfl, ?_⟩) hS ?_
  rotate_left 1
  · intro w' hSw
    try dsimp only at hSw
    obtain ⟨q1, q2⟩ := hSw
    go_simp
    all_goals with_reducible rfl
  try simp only [Act.put, List.setIfInBounds_toArray, List.set_cons_zero, List.set_cons_succ]
  refine held_take (i := 14) (v := ?_) 31 rfl rfl (by kernel_rfl) (by kernel_rfl) (by kernel_rfl) (fun _ _ _ h => h) (Or.inl ⟨by rfl, ?_⟩) hS ?_
  rotate_left 1
  · intro w' hSw
    try dsimp only at hSw
    obtain ⟨q1, q2⟩ := hSw
    go_simp
    all_goals with_reducible rfl
  try simp only [Act.put, List.setIfInBounds_toArray, List.set_cons_zero, List.set_cons_succ]
  refine held_take (i := 15) (v := ?_) 32 rfl rfl (by kernel_rfl) (by kernel_rfl) (by kernel_rfl) (fun _ _ _ h => h) (Or.inl ⟨by rfl, ?_⟩) hS ?_
  rotate_left 1
  · intro w' hSw
    try dsimp only at hSw
    obtain ⟨q1, q2⟩ := hSw
    go_simp
    all_goals with_reducible rfl
  try simp only [Act.put, List.setIfInBounds_toArray, List.set_cons_zero, List.set_cons_succ]
  refine held_take (i := 16) (v := ?_) 33 rfl rfl (by kernel_rfl) (by kernel_rfl) (by kernel_rfl) (fun _ _ _ h => h) (Or.inl ⟨by rfl, ?_⟩) hS ?_
  rotate_left 1
  · intro w' hSw
    try dsimp only at hSw
    obtain ⟨q1, q2⟩ := hSw
    go_simp
    all_goals with_reducible rfl
  try simp only [Act.put, List.setIfInBounds_toArray, List.set_cons_zero, List.set_cons_succ]
  refine held_one (i := 2) (by kernel_rfl) rfl rfl (fun K hK => ?_)
  go_simp
  refine (hlo _ _ _ _ hpB).mono ?_
  rintro e W ⟨P2, pc2, rfl, hp2, hb1⟩
  clear hS
  replace k3 := k3.below hb1
  replace k5 := k5.below hb1
  replace hpB := hpB.below hb1
  replace b1 := b1.trans (hb1.mono b1.size)
  clear hb1
  have hS : (fun w' : World => (∀ j, w'.cell? ⟨w.heap.size, j, none⟩ = #[Value.int .i64 s.head, .slice A n c, .int .i64 s.lane.lo, .int .i64 s.lane.hi, .int .i64 s.bend][j]?) ∧ (∀ j, w'.cell? ⟨w.heap.size + 1, j, none⟩ = #[Value.int .i64 cur.lo, .int .i64 cur.hi][j]?)) W := ⟨k3.cell, k5.cell⟩
  refine hK _ _ hS ?_
  clear hK K
  try simp only [Act.put, List.setIfInBounds_toArray, List.set_cons_zero, List.set_cons_succ]
  refine held_one (i := 8) (by kernel_rfl) rfl rfl (fun K hK => ?_)
  go_simp
  refine (hst1 _ _ _ _ b1 hp2).mono ?_
  rintro e W ⟨P8, pc8, rfl, hp8, hb1⟩
  clear hS
  replace k3 := k3.below hb1
  replace k5 := k5.below hb1
  (clear hp2; replace hpB := hpB.below hb1)
  replace b1 := b1.trans (hb1.mono b1.size)
  clear hb1
  have hS : (fun w' : World => (∀ j, w'.cell? ⟨w.heap.size, j, none⟩ = #[Value.int .i64 s.head, .slice A n c, .int .i64 s.lane.lo, .int .i64 s.lane.hi, .int .i64 s.bend][j]?) ∧ (∀ j, w'.cell? ⟨w.heap.size + 1, j, none⟩ = #[Value.int .i64 cur.lo, .int .i64 cur.hi][j]?)) W := ⟨k3.cell, k5.cell⟩
  refine hK _ _ hS ?_
  clear hK K
  try simp only [Act.put, List.setIfInBounds_toArray, List.set_cons_zero, List.set_cons_succ]
  refine held_one (i := 11) (by kernel_rfl) rfl rfl (fun K hK => ?_)
  go_simp
  refine (hhi _ _ _ _ hpB).mono ?_
  rintro e W ⟨P11, pc11, rfl, hp11, hb1⟩
  clear hS
  replace k3 := k3.below hb1
  replace k5 := k5.below hb1
  (replace hp8 := hp8.below hb1; clear hpB)
  replace b1 := b1.trans (hb1.mono b1.size)
  clear hb1
  have hS : (fun w' : World => (∀ j, w'.cell? ⟨w.heap.size, j, none⟩ = #[Value.int .i64 s.head, .slice A n c, .int .i64 s.lane.lo, .int .i64 s.lane.hi, .int .i64 s.bend][j]?) ∧ (∀ j, w'.cell? ⟨w.heap.size + 1, j, none⟩ = #[Value.int .i64 cur.lo, .int .i64 cur.hi][j]?)) W := ⟨k3.cell, k5.cell⟩
  refine hK _ _ hS ?_
  clear hK K
  try simp only [Act.put, List.setIfInBounds_toArray, List.set_cons_zero, List.set_cons_succ]
  refine held_one (i := 17) (by kernel_rfl) rfl rfl (fun K hK => ?_)
  go_simp
  refine (hst2 _ _ _ _ b1 hp11).mono ?_
  rintro e W ⟨P17, pc17, rfl, hp17, hb1⟩
  clear hS
  replace k3 := k3.below hb1
  replace k5 := k5.below hb1
  (clear hp11; replace hp8 := hp8.below hb1)
  replace b1 := b1.trans (hb1.mono b1.size)
  clear hb1
  have hS : (fun w' : World => (∀ j, w'.cell? ⟨w.heap.size, j, none⟩ = #[Value.int .i64 s.head, .slice A n c, .int .i64 s.lane.lo, .int .i64 s.lane.hi, .int .i64 s.bend][j]?) ∧ (∀ j, w'.cell? ⟨w.heap.size + 1, j, none⟩ = #[Value.int .i64 cur.lo, .int .i64 cur.hi][j]?)) W := ⟨k3.cell, k5.cell⟩
  refine hK _ _ hS ?_
  clear hK K
  try simp only [Act.put, List.setIfInBounds_toArray, List.set_cons_zero, List.set_cons_succ]
  refine held_take (i := 18) (v := ?_) 10 rfl rfl (by kernel_rfl) (by kernel_rfl) (by kernel_rfl) (fun _ _ _ h => h) (Or.inl ⟨by rfl, ?_⟩) hS ?_
  rotate_left 1
  · intro w' hSw
    try dsimp only at hSw
    obtain ⟨q1, q2⟩ := hSw
    go_simp
    all_goals with_reducible rfl
  try simp only [Act.put, List.setIfInBounds_toArray, List.set_cons_zero, List.set_cons_succ]
  refine held_take (i := 19) (v := ?_) 11 rfl rfl (by kernel_rfl) (by kernel_rfl) (by kernel_rfl) (fun _ _ _ h => h) (Or.inl ⟨by rfl, ?_⟩) hS ?_
  rotate_left 1
  · intro w' hSw
    try dsimp only at hSw
    obtain ⟨q1, q2⟩ := hSw
    go_simp
    all_goals with_reducible rfl
  try simp only [Act.put, List.setIfInBounds_toArray, List.set_cons_zero, List.set_cons_succ]
  refine wpAnyH_done (by kernel_rfl) (noPanic_normal ?_) _
  clear hS k3 k5 hst1 hst2 hlo hhi
  obtain ⟨w6, rfl⟩ : ∃ w6, w6 = W := ⟨_, rfl⟩
  have hLo := hp8
  have hHi := hp17
  have b6 := b1
  clear hp8 hp17 b1
  go_wp2_with fail
  go_loopw [12, 13] (fun v i wr => ∃ k : Nat, i = .int .i64 k ∧ k ≤ n ∧ wr.ownsRow w6.heap.size 24 2 v k ((E.take k).flatMap Bnd.cells) ∧ Below w6.heap.size w6 wr) (fun v i wr => n - (intOf i).toNat)
  case atStart => exact ⟨0, rfl, Nat.zero_le _, ⟨rfl, .inl ⟨rfl, rfl⟩⟩, Below.refl _ _⟩
  case round =>
    obtain ⟨k, rfl, hk, hown, hb⟩ := hrel
    by_cases hlt : k < n
    · obtain ⟨x, hx⟩ := some_of_lt hEl.out hlt
      have hx1 : (E.map (·.lo))[k]? = some x.lo := by rw [List.getElem?_map, hx]; rfl
      have hx2 : (E.map (·.hi))[k]? = some x.hi := by rw [List.getElem?_map, hx]; rfl
      have hnx : Hid ((E.take (k + 1)).flatMap Bnd.cells = (E.take k).flatMap Bnd.cells ++ [.int .i64 x.lo, .int .i64 x.hi]) := by show _ = _; rw [List.take_add_one, hx]; simp [Bnd.cells]
      obtain ⟨bL, oL, hA, -, hbL, e0⟩ := hLo.int hx1
      obtain ⟨bH, oH, hC, -, hbH, e1⟩ := hHi.int hx2
      subst hA
      subst hC
      replace hx := Lib.hid hx
      clear hx1 hx2
      have hk0 : (0 : Int) ≤ (k : Int) := by omega
      have hk1 : (k : Int) < (n : Int) := by omega
      go_wp2_with fail
      refine wp_held_np (fun w' : World => w'.cell? ⟨bL, oL + k, none⟩ = some (.int .i64 x.lo) ∧ w'.cell? ⟨bH, oH + k, none⟩ = some (.int .i64 x.hi)) (by kernel_rfl) ?_
      replace hown : wr.drew.ownsRow _ _ _ _ _ _ := hown
      replace hb := hb.drew
      generalize wr.drew = wd at *
      have hS : (fun w' : World => w'.cell? ⟨bL, oL + k, none⟩ = some (.int .i64 x.lo) ∧ w'.cell? ⟨bH, oH + k, none⟩ = some (.int .i64 x.hi)) wd := ⟨(hb.cell (p := ⟨bL, oL + k, none⟩) hbL).trans e0, (hb.cell (p := ⟨bH, oH + k, none⟩) hbH).trans e1⟩
      refine held_take (i := 0) (v := ?_) 41 rfl rfl (by kernel_rfl) (by kernel_rfl) (by kernel_rfl) (fun _ _ _ h => h) (Or.inl ⟨by rfl, ?_⟩) hS ?_
      rotate_left 1
      · intro w' hSw
        try dsimp only at hSw
        obtain ⟨q1, q2⟩ := hSw
        go_simp
        all_goals with_reducible rfl
      try simp only [Act.put, List.setIfInBounds_toArray, List.set_cons_zero, List.set_cons_succ]
      refine held_take (i := 1) (v := ?_) 42 rfl rfl (by kernel_rfl) (by kernel_rfl) (by kernel_rfl) (fun _ _ _ h => h) (Or.inl ⟨by rfl, ?_⟩) hS ?_
      rotate_left 1
      · intro w' hSw
        try dsimp only at hSw
        obtain ⟨q1, q2⟩ := hSw
        go_simp
        all_goals with_reducible rfl
      try simp only [Act.put, List.setIfInBounds_toArray, List.set_cons_zero, List.set_cons_succ]
      refine held_take (i := 2) (v := ?_) 43 rfl rfl (by kernel_rfl) (by kernel_rfl) (by kernel_rfl) (fun _ _ _ h => h) (Or.inl ⟨by rfl, ?_⟩) hS ?_
      rotate_left 1
      · intro w' hSw
        try dsimp only at hSw
        obtain ⟨q1, q2⟩ := hSw
        go_simp
        all_goals with_reducible rfl
      try simp only [Act.put, List.setIfInBounds_toArray, List.set_cons_zero, List.set_cons_succ]
      refine held_take (i := 3) (v := ?_) 44 rfl rfl (by kernel_rfl) (by kernel_rfl) (by kernel_rfl) (fun _ _ _ h => h) (Or.inl ⟨by rfl, ?_⟩) hS ?_
      rotate_left 1
      · intro w' hSw
        try dsimp only at hSw
        obtain ⟨q1, q2⟩ := hSw
        go_simp
        all_goals with_reducible rfl
      try simp only [Act.put, List.setIfInBounds_toArray, List.set_cons_zero, List.set_cons_succ]
      refine held_take (i := 4) (v := ?_) 45 rfl rfl (by kernel_rfl) (by kernel_rfl) (by kernel_rfl) (fun _ _ _ h => h) (Or.inl ⟨by rfl, ?_⟩) hS ?_
      rotate_left 1
      · intro w' hSw
        try dsimp only at hSw
        obtain ⟨q1, q2⟩ := hSw
        go_simp
        all_goals with_reducible rfl
      try simp only [Act.put, List.setIfInBounds_toArray, List.set_cons_zero, List.set_cons_succ]
      refine held_take (i := 5) (v := ?_) 46 rfl rfl (by kernel_rfl) (by kernel_rfl) (by kernel_rfl) (fun _ _ _ h => h) (Or.inl ⟨by rfl, ?_⟩) hS ?_
      rotate_left 1
      · intro w' hSw
        try dsimp only at hSw
        obtain ⟨q1, q2⟩ := hSw
        go_simp
        all_goals with_reducible rfl
      try simp only [Act.put, List.setIfInBounds_toArray, List.set_cons_zero, List.set_cons_succ]
      refine held_take (i := 6) (v := ?_) 47 rfl rfl (by kernel_rfl) (by kernel_rfl) (by kernel_rfl) (fun _ _ _ h => h) (Or.inl ⟨by rfl, ?_⟩) hS ?_
      rotate_left 1
      · intro w' hSw
        try dsimp only at hSw
        obtain ⟨q1, q2⟩ := hSw
        go_simp
        all_goals with_reducible rfl
      try simp only [Act.put, List.setIfInBounds_toArray, List.set_cons_zero, List.set_cons_succ]
      refine held_take (i := 7) (v := ?_) 48 rfl rfl (by kernel_rfl) (by kernel_rfl) (by kernel_rfl) (fun _ _ _ h => h) (Or.inl ⟨by rfl, ?_⟩) hS ?_
      rotate_left 1
      · intro w' hSw
        try dsimp only at hSw
        obtain ⟨q1, q2⟩ := hSw
        go_simp
        all_goals with_reducible rfl
      try simp only [Act.put, List.setIfInBounds_toArray, List.set_cons_zero, List.set_cons_succ]
      refine held_take (i := 8) (v := ?_) 49 rfl rfl (by kernel_rfl) (by kernel_rfl) (by kernel_rfl) (fun _ _ _ h => h) (Or.inl ⟨by rfl, ?_⟩) hS ?_
      rotate_left 1
      · intro w' hSw
        try dsimp only at hSw
        obtain ⟨q1, q2⟩ := hSw
        go_simp
        all_goals with_reducible rfl
      try simp only [Act.put, List.setIfInBounds_toArray, List.set_cons_zero, List.set_cons_succ]
      refine held_take (i := 9) (v := ?_) 50 rfl rfl (by kernel_rfl) (by kernel_rfl) (by kernel_rfl) (fun _ _ _ h => h) (Or.inl ⟨by rfl, ?_⟩) hS ?_
      rotate_left 1
      · intro w' hSw
        try dsimp only at hSw
        obtain ⟨q1, q2⟩ := hSw
        go_simp
        all_goals with_reducible rfl
      try simp only [Act.put, List.setIfInBounds_toArray, List.set_cons_zero, List.set_cons_succ]
      refine held_one (i := 10) (by kernel_rfl) rfl rfl (fun K hK => ?_)
      go_simp
      have hownf := hown.alloc (.cells #[.int .i64 x.lo, .int .i64 x.hi] 24)
      have hbf := hb.alloc hb.size (.cells #[.int .i64 x.lo, .int .i64 x.hi] 24)
      refine hK _ _ ⟨(hbf.cell (p := ⟨bL, oL + k, none⟩) hbL).trans e0, (hbf.cell (p := ⟨bH, oH + k, none⟩) hbH).trans e1⟩ ?_
      clear hK K hS
      try simp only [Act.put, List.setIfInBounds_toArray, List.set_cons_zero, List.set_cons_succ]
      refine held_one (i := 11) (by kernel_rfl) rfl rfl (fun K hK => ?_)
      have hbig1 : k + 1 ≤ maxLen := by unfold maxLen; omega
      have hbig2 : (k + 1) * 16 ≤ 140737488355328 := by omega
      obtain ⟨i0, hi0, hz0, hz1, hz2⟩ := info_parts Tryz.infoBnd
      have hnews : ∀ (j : Nat) (u : Value), ([.int .i64 x.lo, .int .i64 x.hi] : List Value)[j]? = some u → (wd.alloc (.cells #[.int .i64 x.lo, .int .i64 x.hi] 24)).cell? ((⟨wd.heap.size, 0, none⟩ : Addr).add j) = some u :=
        World.news_of_block (cs := #[.int .i64 x.lo, .int .i64 x.hi]) (World.alloc_heap_new wd _)
      refine wp_append_lies _ _ _ 27 (by rfl) w6.heap.size 24 i0 (.agg #[.int .i64 0, .int .i64 0]) 2 16 Tryz.underlying27 hi0 hz0 hz1 hz2 rfl (by omega) u12 k ((E.take k).flatMap Bnd.cells) (by rfl) hownf ⟨wd.heap.size, 0, none⟩ 1 1 [.int .i64 x.lo, .int .i64 x.hi] (by rfl) rfl hnews (by simp [Value.oneCell']) (by omega) hbig1 hbig2 hbf.size (wd.heap.size + 1) (by simp) ?_
      intro g cap w7 hown7 hgrow hlies hlt7
      have hbg : Below w6.heap.size _ w7 := ⟨hgrow.os, hgrow.tape, hgrow.output, hgrow.size, fun b hb2 => hgrow.block b (Nat.lt_of_lt_of_le hb2 hbf.size) (fun e => by have := (hownf.lt _ e.symm).1; omega)⟩
      have hbh := hbf.trans hbg
      refine hK _ _ ⟨(hbh.cell (p := ⟨bL, oL + k, none⟩) hbL).trans e0, (hbh.cell (p := ⟨bH, oH + k, none⟩) hbH).trans e1⟩ ?_
      clear hK K
      try simp only [Act.put, List.setIfInBounds_toArray, List.set_cons_zero, List.set_cons_succ]
      have hS : (fun w' : World => w'.cell? ⟨bL, oL + k, none⟩ = some (.int .i64 x.lo) ∧ w'.cell? ⟨bH, oH + k, none⟩ = some (.int .i64 x.hi)) w7 := ⟨(hbh.cell (p := ⟨bL, oL + k, none⟩) hbL).trans e0, (hbh.cell (p := ⟨bH, oH + k, none⟩) hbH).trans e1⟩
      refine held_take (i := 12) (v := ?_) 12 rfl rfl (by kernel_rfl) (by kernel_rfl) (by kernel_rfl) (fun _ _ _ h => h) (Or.inl ⟨by rfl, ?_⟩) hS ?_
      rotate_left 1
      · intro w' hSw
        try dsimp only at hSw
        obtain ⟨q1, q2⟩ := hSw
        go_simp
        all_goals with_reducible rfl
      try simp only [Act.put, List.setIfInBounds_toArray, List.set_cons_zero, List.set_cons_succ]
      refine wpAnyH_done (by kernel_rfl) (noPanic_normal ?_) _
      clear hS e0 e1 hLo hHi
      go_wp2_with fail
      go_roundw
      case rel =>
        refine ⟨k + 1, by go_num, by omega, ?_, hbh⟩
        rw [hnx.out]
        exact hown7
      case measure => simp [intOf]; omega
    · obtain rfl : k = n := by omega
      go_wp2
      go_ret
      have ht : E.take k = E := List.take_of_length_le (by rw [hEl.out]; exact Nat.le_refl _)
      rw [ht] at hown
      obtain ⟨P, pc, e2, h2⟩ := SlAt.of_own (enc := Bnd.cells) hown (by omega) E rfl (fun _ => rfl) hEl.out
      exact ⟨P, pc, by rw [e2]; rfl, h2.mono b6.size, b6.trans (hb.mono b6.size)⟩
end Go.Proofs.YtjiaepphnddpoaaGreat
