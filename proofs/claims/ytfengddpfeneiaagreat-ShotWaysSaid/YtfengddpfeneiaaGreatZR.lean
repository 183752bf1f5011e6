/-
  Walks: what the chapter says of headings and of turned regions.
  Walks: what the chapter says of tight regions.
  Walks: what the chapter says of turned regions.
  Walks: the specification's root, whole plane, places.
  Walks: the specification's Move.
-/
import Derived.Test.YtfengddpfeneiaaGreatZM
namespace Go.Proofs.YtfengddpfeneiaaGreat
open Go.RowKit Go.Shelf
set_option linter.unusedSimpArgs false
set_option linter.unusedVariables false

theorem abs_of_sq {p c s : Int} (hc : 0 ≤ c) (hs : 0 ≤ s) (h : p * p + s = c * c) : -c ≤ p ∧ p ≤ c := by
  constructor
  · rcases Int.lt_or_le p (-c) with h1 | h1
    · have := Int.mul_le_mul (show c + 1 ≤ -p by omega) (show c + 1 ≤ -p by omega) (by omega) (by omega)
      rw [Int.neg_mul_neg] at this
      have : (c + 1) * (c + 1) = c * c + 2 * c + 1 := by simp only [Int.add_mul, Int.mul_add]; omega
      omega
    · exact h1
  · rcases Int.lt_or_le c p with h1 | h1
    · have := Int.mul_le_mul (show c + 1 ≤ p by omega) (show c + 1 ≤ p by omega) (by omega) (by omega)
      have : (c + 1) * (c + 1) = c * c + 2 * c + 1 := by simp only [Int.add_mul, Int.mul_add]; omega
      omega
    · exact h1
theorem sq_nonneg (p : Int) : 0 ≤ p * p := by
  rcases Int.le_total 0 p with g | g
  · exact Int.mul_nonneg g g
  · exact Int.mul_nonneg_of_nonpos_of_nonpos g g
theorem sq_1000 {p : Int} (h : -1000 ≤ p ∧ p ≤ 1000) : p * p ≤ 1000000 := by
  have := smul_bd (a := p) (b := p) (A := 1000) (B := 1000) (by omega) (by omega) (by omega) (by omega)
  omega
set_option maxHeartbeats 400000 in
theorem Up_any (a b : Int) (w : World) (h1 : -1000000000000 ≤ a) (h2 : a ≤ 1000000000000) (h3 : 1 ≤ b) (h4 : b ≤ 1000000) :
    Calls Tryz.prog 14 #[.int .i64 a, .int .i64 b] w fun e w' => e = .returned (.int .i64 (ceilS a b)) ∧ w = w' := by
  have hfl := fun W => Down_any (-a) b W (by omega) (by omega) h3 h4
  have e : Hid (ceilS a b = -((-a) / b)) := rfl
  have hb : -2000000000000 ≤ (-a) / b ∧ (-a) / b ≤ 2000000000000 := by
    have e1 := Int.mul_ediv_add_emod (-a) b
    have e2 := Int.emod_nonneg (-a) (b := b) (by omega)
    have e3 := Int.emod_lt_of_pos (-a) (b := b) (by omega)
    rcases Int.le_total 0 ((-a) / b) with h | h
    · have := Int.mul_le_mul_of_nonneg_right h3 h
      omega
    · have := Int.mul_le_mul_of_nonpos_right h3 h
      omega
  generalize (-a) / b = d at *
  have u1 := IntWalk.i64_in (-a) (by omega)
  have u2 := IntWalk.i64_in (-d) (by omega)
  go_enter Tryz.func14, Tryz.ntmps14
  go_wp2_with fail
  refine (hfl _).mono ?_
  rintro e w' ⟨rfl, rfl⟩
  go_wp2
  go_ret
  exact ⟨ret_int (by rw [‹Hid (ceilS a b = _)›.out]), rfl⟩
set_option maxHeartbeats 400000 in
theorem rendsM_any (b : Bnd) (m : Int) (w : World) (hm : 0 ≤ m ∧ m ≤ 1000000) :
    Calls Tryz.prog 83 #[.agg #[.int .i64 b.lo, .int .i64 b.hi], .int .i64 m] w fun e w' => e = .returned (.bool (okBnd m b)) ∧ Below w.heap.size w w' := by
  have u1 := IntWalk.i64_in (-m) (by omega)
  by_cases h1 : -m ≤ b.lo
  · by_cases h2 : b.lo ≤ b.hi
    · go_enter Tryz.func83, Tryz.ntmps83
      go_wp2
      go_ret
      exact ⟨ret_bool (by simp [okBnd, h1, h2]), (Below.refl _ _).alloc (Nat.le_refl _) _⟩
    · go_enter Tryz.func83, Tryz.ntmps83
      go_wp2
      go_ret
      exact ⟨ret_bool (by simp [okBnd]; omega), (Below.refl _ _).alloc (Nat.le_refl _) _⟩
  · go_enter Tryz.func83, Tryz.ntmps83
    go_wp2
    go_ret
    exact ⟨ret_bool (by simp [okBnd]; omega), (Below.refl _ _).alloc (Nat.le_refl _) _⟩
set_option maxHeartbeats 400000 in
theorem with_any (b : Bnd) (n : Int) (w : World) :
    Calls Tryz.prog 153 #[.agg #[.int .i64 b.lo, .int .i64 b.hi], .int .i64 n] w fun e w' => e = .returned (.agg #[.int .i64 (min b.lo n), .int .i64 (max b.hi n)]) ∧ Below w.heap.size w w' := by
  have hmax := max2_int
  have hmin := min2_int
  generalize hlo : min b.lo n = lo
  generalize hhi : max b.hi n = hi
  obtain ⟨w1, hw1⟩ : ∃ w1, w1 = (w.alloc (.cells #[.int .i64 b.lo, .int .i64 b.hi] 40)).alloc (.cells #[.int .i64 lo, .int .i64 hi] 40) := ⟨_, rfl⟩
  have k2 : Blk w1 w.heap.size 40 #[.int .i64 b.lo, .int .i64 b.hi] := by rw [hw1]; exact (Blk.new _ _ _).alloc _
  have kz : Blk w1 (w.heap.size + 1) 40 #[.int .i64 lo, .int .i64 hi] := by rw [hw1]; exact Blk.newAt (by simp)
  have hb : Below w.heap.size w w1 := by rw [hw1]; exact ((Below.refl _ _).alloc (Nat.le_refl _) _).alloc (by simp) _
  go_enter Tryz.func153, Tryz.ntmps153
  go_wp2
  rw [← hw1]
  clear hw1
  obtain ⟨c4, f4, l4⟩ := kz.rules
  exact bodyPost_ret (v := .agg #[.int .i64 lo, .int .i64 hi]) (by simp [results, Tryz.results153, go_sem, c4]) rfl ⟨rfl, hb⟩
set_option maxRecDepth 100000 in
set_option maxHeartbeats 1000000 in
theorem Rrow_any (r : Reg) (x : Int) (w : World) (hr : okReg r = true) (hx : -32768 ≤ x ∧ x ≤ 32768) :
    Calls Tryz.prog 149 #[.agg (regA r), .int .i64 x] w fun e w' => e = .returned (.agg #[.int .i64 x, .int .i64 (rowB r x).fr, .int .i64 (rowB r x).to]) ∧ Below w.heap.size w w' := by
  have hmax := max3_int
  have hmin := min3_int
  obtain ⟨⟨x1, x2, x3⟩, ⟨y1, y2, y3⟩, ⟨s1, s2, s3⟩, d1, d2, d3⟩ := okReg_iff.1 hr
  have t1 := IntWalk.i64_in (r.s.lo - x) (by omega)
  have t2 := IntWalk.i64_in (x - r.d.hi) (by omega)
  have t3 := IntWalk.i64_in (r.s.hi - x) (by omega)
  have t4 := IntWalk.i64_in (x - r.d.lo) (by omega)
  have hfr : max r.y.lo (max (r.s.lo - x) (x - r.d.hi)) = (rowB r x).fr := rfl
  have hto : min r.y.hi (min (r.s.hi - x) (x - r.d.lo)) = (rowB r x).to := rfl
  clear x1 x2 x3 y1 y2 y3 s1 s2 s3 d1 d2 d3 hx hr
  generalize (rowB r x).fr = fr at *
  generalize (rowB r x).to = to at *
  simp only [regA]
  obtain ⟨w1, hw1⟩ : ∃ w1, w1 = (w.alloc (.cells #[.int .i64 r.x.lo, .int .i64 r.x.hi, .int .i64 r.y.lo, .int .i64 r.y.hi, .int .i64 r.s.lo, .int .i64 r.s.hi, .int .i64 r.d.lo, .int .i64 r.d.hi] 42)).alloc (.cells #[.int .i64 x, .int .i64 fr, .int .i64 to] 233) := ⟨_, rfl⟩
  have k2 : Blk w1 w.heap.size 42 #[.int .i64 r.x.lo, .int .i64 r.x.hi, .int .i64 r.y.lo, .int .i64 r.y.hi, .int .i64 r.s.lo, .int .i64 r.s.hi, .int .i64 r.d.lo, .int .i64 r.d.hi] := by rw [hw1]; exact (Blk.new _ _ _).alloc _
  have kz : Blk w1 (w.heap.size + 1) 233 #[.int .i64 x, .int .i64 fr, .int .i64 to] := by rw [hw1]; exact Blk.newAt (by simp)
  have hb : Below w.heap.size w w1 := by rw [hw1]; exact ((Below.refl _ _).alloc (Nat.le_refl _) _).alloc (by simp) _
  go_enter Tryz.func149, Tryz.ntmps149
  go_wp2
  rw [← hw1]
  clear hw1
  obtain ⟨c4, f4, l4⟩ := kz.rules
  exact bodyPost_ret (v := .agg #[.int .i64 x, .int .i64 fr, .int .i64 to]) (by simp [results, Tryz.results149, go_sem, c4]) rfl ⟨rfl, hb⟩
/-! The hull of places. -/
structure Apart (g : Nat) (w w' : World) : Prop where
  low : Below g w w'
  far : ∀ b, g < b → b < w.heap.size → w'.heap[b]? = w.heap[b]?
theorem Apart.refl (g : Nat) (w : World) : Apart g w w := ⟨Below.refl _ _, fun _ _ _ => rfl⟩
theorem Apart.trans {g : Nat} {w w1 w2 : World} (h1 : Apart g w w1) (h2 : Apart g w1 w2) : Apart g w w2 :=
  ⟨h1.low.trans h2.low, fun b hb hl => (h2.far b hb (Nat.lt_of_lt_of_le hl h1.low.size)).trans (h1.far b hb hl)⟩
theorem Apart.of {g : Nat} {w w' : World} (h : Below w.heap.size w w') (hg : g ≤ w.heap.size) : Apart g w w' :=
  ⟨h.mono hg, fun b _ hl => h.block b hl⟩
theorem Apart.blk {g b : Nat} {w w' : World} {t : TypeId} {cs : Array Value} (h : Apart g w w') (k : Blk w b t cs) (hb : b ≠ g) : Blk w' b t cs := by
  rcases Nat.lt_or_gt_of_ne hb with h1 | h1
  · exact (h.low.block b h1).trans k
  · exact (h.far b h1 k.lt).trans k
theorem Apart.set {g : Nat} {w w' : World} (h : Apart g w w') (i : Nat) (u : Value) : Apart g w (w'.setCell ⟨g, i, none⟩ u) :=
  ⟨h.low.setCell (p := ⟨g, i, none⟩) (Nat.le_refl g) u, fun b hb hl => (Below.heap_setCell w' ⟨g, i, none⟩ u b (by dsimp only; omega)).trans (h.far b hb hl)⟩
theorem Apart.set8 {g : Nat} {w w' : World} (h : Apart g w w') (v0 v1 v2 v3 v4 v5 v6 v7 : Value) : Apart g w (set8 w' g v0 v1 v2 v3 v4 v5 v6 v7) :=
  (((((((h.set 0 v0).set 1 v1).set 2 v2).set 3 v3).set 4 v4).set 5 v5).set 6 v6).set 7 v7
theorem Blk.set8h {w : World} {g : Nat} {t : TypeId} {a0 a1 a2 a3 a4 a5 a6 a7 a8 : Value} (h : Blk w g t #[a0, a1, a2, a3, a4, a5, a6, a7, a8]) (v0 v1 v2 v3 v4 v5 v6 v7 : Value) : Blk (Go.Proofs.YtfengddpfeneiaaGreat.set8 w g v0 v1 v2 v3 v4 v5 v6 v7) g t #[v0, v1, v2, v3, v4, v5, v6, v7, a8] := by
  have k := (((((((h.set_ 0 v0).set_ 1 v1).set_ 2 v2).set_ 3 v3).set_ 4 v4).set_ 5 v5).set_ 6 v6).set_ 7 v7
  simp only [List.setIfInBounds_toArray, List.set_cons_zero, List.set_cons_succ] at k
  exact k
theorem wp_till_np {P : Program} {ops : Array Oper} {Q : Exit → Act → World → Prop} {id : Nat} {a : Act} {w : World} (S : World → Prop) (n0 : Nat) (hm : P.follows .mixedOrders = true)
    (h : anyTill P .any ops (noPanic Q) S n0 ops.size (Array.replicate ops.size false) a w.drew) : (Code.region id ops true).wp P Q a w :=
  Code.wp_mono (fun e a w q => by cases e <;> first | exact q | exact q.elim) (wp_region_any hm (wpAny_of_till _ _ _ _ h))
def hullA (o : Option Reg) : Array Value := #[.int .i64 (optR o).x.lo, .int .i64 (optR o).x.hi, .int .i64 (optR o).y.lo, .int .i64 (optR o).y.hi, .int .i64 (optR o).s.lo, .int .i64 (optR o).s.hi, .int .i64 (optR o).d.lo, .int .i64 (optR o).d.hi, .bool o.isSome]
set_option maxRecDepth 100000 in
set_option maxHeartbeats 2000000 in
theorem hadd_any (g : Nat) (o : Option Reg) (p : Pnt) (w : World) (k : Blk w g 218 (hullA o)) (hp : -32768 ≤ p.x ∧ p.x ≤ 32768 ∧ -32768 ≤ p.y ∧ p.y ≤ 32768) :
    Calls Tryz.prog 150 #[.pointer (some ⟨g, 0, none⟩), .agg #[.int .i64 p.x, .int .i64 p.y]] w fun e w' => e = .returned (.tuple #[]) ∧ Blk w' g 218 (hullA (addP o p)) ∧ Apart g w w' := by
  have u1 := IntWalk.i64_in (p.x + p.y) (by omega)
  have u2 := IntWalk.i64_in (p.x - p.y) (by omega)
  have hgs := k.lt
  obtain ⟨w1, hw1⟩ : ∃ w1, w1 = w.alloc (.cells #[.int .i64 p.x, .int .i64 p.y] 23) := ⟨_, rfl⟩
  have k3 : Blk w1 w.heap.size 23 #[.int .i64 p.x, .int .i64 p.y] := by rw [hw1]; exact Blk.new _ _ _
  have ap : Apart g w w1 := by rw [hw1]; exact Apart.of ((Below.refl _ _).alloc (Nat.le_refl _) _) (Nat.le_of_lt hgs)
  replace k : Blk w1 g 218 (hullA o) := by rw [hw1]; exact k.alloc _
  go_enter Tryz.func150, Tryz.ntmps150
  go_wp2_with fail
  rw [← hw1]
  clear hw1
  cases o with
  | none =>
    simp only [hullA, optR, Option.getD_none, noReg, Option.isSome_none] at k
    obtain ⟨c, f, l⟩ := k.rules
    obtain ⟨c3, f3, l3⟩ := k3.rules
    go_quiet (fail)
    clear c f l c3 f3 l3
    replace ap := ap.trans (Apart.of (below_drewN (Below.refl w1.heap.size w1) nq) (Nat.le_of_lt k.lt))
    replace k := k.drewN nq
    replace k3 := k3.drewN nq
    generalize w1.drewN nq = W at *
    have kz := (k.set8h (.int .i64 p.x) (.int .i64 p.x) (.int .i64 p.y) (.int .i64 p.y) (.int .i64 (p.x + p.y)) (.int .i64 (p.x + p.y)) (.int .i64 (p.x - p.y)) (.int .i64 (p.x - p.y))).set_ 8 (.bool true)
    simp only [List.setIfInBounds_toArray, List.set_cons_zero, List.set_cons_succ] at kz
    have az := (ap.set8 (.int .i64 p.x) (.int .i64 p.x) (.int .i64 p.y) (.int .i64 p.y) (.int .i64 (p.x + p.y)) (.int .i64 (p.x + p.y)) (.int .i64 (p.x - p.y)) (.int .i64 (p.x - p.y))).set 8 (.bool true)
    have k3z := (far_set8 k3 (show w.heap.size ≠ g by omega) (.int .i64 p.x) (.int .i64 p.x) (.int .i64 p.y) (.int .i64 p.y) (.int .i64 (p.x + p.y)) (.int .i64 (p.x + p.y)) (.int .i64 (p.x - p.y)) (.int .i64 (p.x - p.y))).far (p := ⟨g, 8, none⟩) (show w.heap.size ≠ g by omega) (.bool true)
    obtain ⟨wz, hwz⟩ : ∃ x, x = (Go.Proofs.YtfengddpfeneiaaGreat.set8 W g (.int .i64 p.x) (.int .i64 p.x) (.int .i64 p.y) (.int .i64 p.y) (.int .i64 (p.x + p.y)) (.int .i64 (p.x + p.y)) (.int .i64 (p.x - p.y)) (.int .i64 (p.x - p.y))).setCell ⟨g, 8, none⟩ (.bool true) := ⟨_, rfl⟩
    rw [← hwz] at kz az k3z
    simp only [Go.Proofs.YtfengddpfeneiaaGreat.set8] at hwz
    obtain ⟨c, f, l⟩ := k.rules
    obtain ⟨c3, f3, l3⟩ := k3.rules
    go_wp2_with fail
    rw [← hwz]
    clear hwz c f l c3 f3 l3 k k3 ap
    have k := kz
    have k3 := k3z
    have ap := az
    clear kz k3z az
    obtain ⟨R, hR⟩ : ∃ R, ofP p = R := ⟨_, rfl⟩
    have hRk : Blk wz g 218 #[.int .i64 R.x.lo, .int .i64 R.x.hi, .int .i64 R.y.lo, .int .i64 R.y.hi, .int .i64 R.s.lo, .int .i64 R.s.hi, .int .i64 R.d.lo, .int .i64 R.d.hi, .bool true] := by rw [← hR]; exact k
    clear k
    have k := hRk
    clear hRk
    have hadd : Hid (addP none p = some (zipR spanB R (ofP p))) := by show _ = _; rw [← hR]; rfl
    replace hR := Lib.hid hR
    refine wp_till_np (n0 := 34) (S := fun w' : World => (∀ j, w'.cell? ⟨g, j, none⟩ = #[Value.int .i64 R.x.lo, .int .i64 R.x.hi, .int .i64 R.y.lo, .int .i64 R.y.hi, .int .i64 R.s.lo, .int .i64 R.s.hi, .int .i64 R.d.lo, .int .i64 R.d.hi, .bool true][j]?) ∧ (∀ j, w'.cell? ⟨w.heap.size, j, none⟩ = #[Value.int .i64 p.x, .int .i64 p.y][j]?)) (by kernel_rfl) ?_
    have hbel : Below wz.heap.size wz wz.drew := (Below.refl _ _).drew
    replace ap := ap.trans (Apart.of hbel (Nat.le_of_lt k.lt))
    replace k := k.below hbel
    replace k3 := k3.below hbel
    clear hbel
    generalize wz.drew = wd at *
    have hS : (fun w' : World => (∀ j, w'.cell? ⟨g, j, none⟩ = #[Value.int .i64 R.x.lo, .int .i64 R.x.hi, .int .i64 R.y.lo, .int .i64 R.y.hi, .int .i64 R.s.lo, .int .i64 R.s.hi, .int .i64 R.d.lo, .int .i64 R.d.hi, .bool true][j]?) ∧ (∀ j, w'.cell? ⟨w.heap.size, j, none⟩ = #[Value.int .i64 p.x, .int .i64 p.y][j]?)) wd := ⟨k.cell, k3.cell⟩
    refine till_taked (i := 0) (v := ?_) 44 rfl rfl (by kernel_rfl) (by kernel_rfl) (by kernel_rfl) (by kernel_rfl) (by kernel_rfl) (by kernel_rfl) (fun _ _ _ h => h) (Or.inl ⟨by rfl, ?_⟩) hS ?_
    rotate_left 1
    · intro w' hSw
      try dsimp only at hSw
      obtain ⟨q1, q2⟩ := hSw
      go_simp
      all_goals with_reducible rfl
    try simp only [Act.put, List.setIfInBounds_toArray, List.set_cons_zero, List.set_cons_succ]
    refine till_taked (i := 1) (v := ?_) 45 rfl rfl (by kernel_rfl) (by kernel_rfl) (by kernel_rfl) (by kernel_rfl) (by kernel_rfl) (by kernel_rfl) (fun _ _ _ h => h) (Or.inl ⟨by rfl, ?_⟩) hS ?_
    rotate_left 1
    · intro w' hSw
      try dsimp only at hSw
      obtain ⟨q1, q2⟩ := hSw
      go_simp
      all_goals with_reducible rfl
    try simp only [Act.put, List.setIfInBounds_toArray, List.set_cons_zero, List.set_cons_succ]
    refine till_taked (i := 2) (v := ?_) 46 rfl rfl (by kernel_rfl) (by kernel_rfl) (by kernel_rfl) (by kernel_rfl) (by kernel_rfl) (by kernel_rfl) (fun _ _ _ h => h) (Or.inl ⟨by rfl, ?_⟩) hS ?_
    rotate_left 1
    · intro w' hSw
      try dsimp only at hSw
      obtain ⟨q1, q2⟩ := hSw
      go_simp
      all_goals with_reducible rfl
    try simp only [Act.put, List.setIfInBounds_toArray, List.set_cons_zero, List.set_cons_succ]
    refine till_taked (i := 3) (v := ?_) 47 rfl rfl (by kernel_rfl) (by kernel_rfl) (by kernel_rfl) (by kernel_rfl) (by kernel_rfl) (by kernel_rfl) (fun _ _ _ h => h) (Or.inl ⟨by rfl, ?_⟩) hS ?_
    rotate_left 1
    · intro w' hSw
      try dsimp only at hSw
      obtain ⟨q1, q2⟩ := hSw
      go_simp
      all_goals with_reducible rfl
    try simp only [Act.put, List.setIfInBounds_toArray, List.set_cons_zero, List.set_cons_succ]
    refine till_taked (i := 4) (v := ?_) 48 rfl rfl (by kernel_rfl) (by kernel_rfl) (by kernel_rfl) (by kernel_rfl) (by kernel_rfl) (by kernel_rfl) (fun _ _ _ h => h) (Or.inl ⟨by rfl, ?_⟩) hS ?_
    rotate_left 1
    · intro w' hSw
      try dsimp only at hSw
      obtain ⟨q1, q2⟩ := hSw
      go_simp
      all_goals with_reducible rfl
    try simp only [Act.put, List.setIfInBounds_toArray, List.set_cons_zero, List.set_cons_succ]
    refine till_taked (i := 5) (v := ?_) 49 rfl rfl (by kernel_rfl) (by kernel_rfl) (by kernel_rfl) (by kernel_rfl) (by kernel_rfl) (by kernel_rfl) (fun _ _ _ h => h) (Or.inl ⟨by rfl, ?_⟩) hS ?_
    rotate_left 1
    · intro w' hSw
      try dsimp only at hSw
      obtain ⟨q1, q2⟩ := hSw
      go_simp
      all_goals with_reducible rfl
    try simp only [Act.put, List.setIfInBounds_toArray, List.set_cons_zero, List.set_cons_succ]
    refine till_taked (i := 6) (v := ?_) 50 rfl rfl (by kernel_rfl) (by kernel_rfl) (by kernel_rfl) (by kernel_rfl) (by kernel_rfl) (by kernel_rfl) (fun _ _ _ h => h) (Or.inl ⟨by rfl, ?_⟩) hS ?_
    rotate_left 1
    · intro w' hSw
      try dsimp only at hSw
      obtain ⟨q1, q2⟩ := hSw
      go_simp
      all_goals with_reducible rfl
    try simp only [Act.put, List.setIfInBounds_toArray, List.set_cons_zero, List.set_cons_succ]
    refine till_taked (i := 7) (v := ?_) 51 rfl rfl (by kernel_rfl) (by kernel_rfl) (by kernel_rfl) (by kernel_rfl) (by kernel_rfl) (by kernel_rfl) (fun _ _ _ h => h) (Or.inl ⟨by rfl, ?_⟩) hS ?_
    rotate_left 1
    · intro w' hSw
      try dsimp only at hSw
      obtain ⟨q1, q2⟩ := hSw
      go_simp
      all_goals with_reducible rfl
    try simp only [Act.put, List.setIfInBounds_toArray, List.set_cons_zero, List.set_cons_succ]
    refine till_taked (i := 9) (v := ?_) 53 rfl rfl (by kernel_rfl) (by kernel_rfl) (by kernel_rfl) (by kernel_rfl) (by kernel_rfl) (by kernel_rfl) (fun _ _ _ h => h) (Or.inl ⟨by rfl, ?_⟩) hS ?_
    rotate_left 1
    · intro w' hSw
      try dsimp only at hSw
      obtain ⟨q1, q2⟩ := hSw
      go_simp
      all_goals with_reducible rfl
    try simp only [Act.put, List.setIfInBounds_toArray, List.set_cons_zero, List.set_cons_succ]
    refine till_taked (i := 10) (v := ?_) 54 rfl rfl (by kernel_rfl) (by kernel_rfl) (by kernel_rfl) (by kernel_rfl) (by kernel_rfl) (by kernel_rfl) (fun _ _ _ h => h) (Or.inl ⟨by rfl, ?_⟩) hS ?_
    rotate_left 1
    · intro w' hSw
      try dsimp only at hSw
      obtain ⟨q1, q2⟩ := hSw
      go_simp
      all_goals with_reducible rfl
    try simp only [Act.put, List.setIfInBounds_toArray, List.set_cons_zero, List.set_cons_succ]
    refine till_taked (i := 11) (v := ?_) 55 rfl rfl (by kernel_rfl) (by kernel_rfl) (by kernel_rfl) (by kernel_rfl) (by kernel_rfl) (by kernel_rfl) (fun _ _ _ h => h) (Or.inl ⟨by rfl, ?_⟩) hS ?_
    rotate_left 1
    · intro w' hSw
      try dsimp only at hSw
      obtain ⟨q1, q2⟩ := hSw
      go_simp
      all_goals with_reducible rfl
    try simp only [Act.put, List.setIfInBounds_toArray, List.set_cons_zero, List.set_cons_succ]
    refine till_taked (i := 12) (v := ?_) 56 rfl rfl (by kernel_rfl) (by kernel_rfl) (by kernel_rfl) (by kernel_rfl) (by kernel_rfl) (by kernel_rfl) (fun _ _ _ h => h) (Or.inl ⟨by rfl, ?_⟩) hS ?_
    rotate_left 1
    · intro w' hSw
      try dsimp only at hSw
      obtain ⟨q1, q2⟩ := hSw
      go_simp
      all_goals with_reducible rfl
    try simp only [Act.put, List.setIfInBounds_toArray, List.set_cons_zero, List.set_cons_succ]
    refine till_taked (i := 13) (v := ?_) 57 rfl rfl (by kernel_rfl) (by kernel_rfl) (by kernel_rfl) (by kernel_rfl) (by kernel_rfl) (by kernel_rfl) (fun _ _ _ h => h) (Or.inl ⟨by rfl, ?_⟩) hS ?_
    rotate_left 1
    · intro w' hSw
      try dsimp only at hSw
      obtain ⟨q1, q2⟩ := hSw
      go_simp
      all_goals with_reducible rfl
    try simp only [Act.put, List.setIfInBounds_toArray, List.set_cons_zero, List.set_cons_succ]
    refine till_taked (i := 14) (v := ?_) 58 rfl rfl (by kernel_rfl) (by kernel_rfl) (by kernel_rfl) (by kernel_rfl) (by kernel_rfl) (by kernel_rfl) (fun _ _ _ h => h) (Or.inl ⟨by rfl, ?_⟩) hS ?_
    rotate_left 1
    · intro w' hSw
      try dsimp only at hSw
      obtain ⟨q1, q2⟩ := hSw
      go_simp
      all_goals with_reducible rfl
    try simp only [Act.put, List.setIfInBounds_toArray, List.set_cons_zero, List.set_cons_succ]
    refine till_taked (i := 15) (v := ?_) 59 rfl rfl (by kernel_rfl) (by kernel_rfl) (by kernel_rfl) (by kernel_rfl) (by kernel_rfl) (by kernel_rfl) (fun _ _ _ h => h) (Or.inl ⟨by rfl, ?_⟩) hS ?_
    rotate_left 1
    · intro w' hSw
      try dsimp only at hSw
      obtain ⟨q1, q2⟩ := hSw
      go_simp
      all_goals with_reducible rfl
    try simp only [Act.put, List.setIfInBounds_toArray, List.set_cons_zero, List.set_cons_succ]
    refine till_taked (i := 17) (v := ?_) 61 rfl rfl (by kernel_rfl) (by kernel_rfl) (by kernel_rfl) (by kernel_rfl) (by kernel_rfl) (by kernel_rfl) (fun _ _ _ h => h) (Or.inl ⟨by rfl, ?_⟩) hS ?_
    rotate_left 1
    · intro w' hSw
      try dsimp only at hSw
      obtain ⟨q1, q2⟩ := hSw
      go_simp
      all_goals with_reducible rfl
    try simp only [Act.put, List.setIfInBounds_toArray, List.set_cons_zero, List.set_cons_succ]
    refine till_taked (i := 18) (v := ?_) 62 rfl rfl (by kernel_rfl) (by kernel_rfl) (by kernel_rfl) (by kernel_rfl) (by kernel_rfl) (by kernel_rfl) (fun _ _ _ h => h) (Or.inl ⟨by rfl, ?_⟩) hS ?_
    rotate_left 1
    · intro w' hSw
      try dsimp only at hSw
      obtain ⟨q1, q2⟩ := hSw
      go_simp
      all_goals with_reducible rfl
    try simp only [Act.put, List.setIfInBounds_toArray, List.set_cons_zero, List.set_cons_succ]
    refine till_taked (i := 19) (v := ?_) 63 rfl rfl (by kernel_rfl) (by kernel_rfl) (by kernel_rfl) (by kernel_rfl) (by kernel_rfl) (by kernel_rfl) (fun _ _ _ h => h) (Or.inl ⟨by rfl, ?_⟩) hS ?_
    rotate_left 1
    · intro w' hSw
      try dsimp only at hSw
      obtain ⟨q1, q2⟩ := hSw
      go_simp
      all_goals with_reducible rfl
    try simp only [Act.put, List.setIfInBounds_toArray, List.set_cons_zero, List.set_cons_succ]
    refine till_taked (i := 20) (v := ?_) 64 rfl rfl (by kernel_rfl) (by kernel_rfl) (by kernel_rfl) (by kernel_rfl) (by kernel_rfl) (by kernel_rfl) (fun _ _ _ h => h) (Or.inl ⟨by rfl, ?_⟩) hS ?_
    rotate_left 1
    · intro w' hSw
      try dsimp only at hSw
      obtain ⟨q1, q2⟩ := hSw
      go_simp
      all_goals with_reducible rfl
    try simp only [Act.put, List.setIfInBounds_toArray, List.set_cons_zero, List.set_cons_succ]
    refine till_taked (i := 21) (v := ?_) 65 rfl rfl (by kernel_rfl) (by kernel_rfl) (by kernel_rfl) (by kernel_rfl) (by kernel_rfl) (by kernel_rfl) (fun _ _ _ h => h) (Or.inl ⟨by rfl, ?_⟩) hS ?_
    rotate_left 1
    · intro w' hSw
      try dsimp only at hSw
      obtain ⟨q1, q2⟩ := hSw
      go_simp
      all_goals with_reducible rfl
    try simp only [Act.put, List.setIfInBounds_toArray, List.set_cons_zero, List.set_cons_succ]
    refine till_taked (i := 22) (v := ?_) 66 rfl rfl (by kernel_rfl) (by kernel_rfl) (by kernel_rfl) (by kernel_rfl) (by kernel_rfl) (by kernel_rfl) (fun _ _ _ h => h) (Or.inl ⟨by rfl, ?_⟩) hS ?_
    rotate_left 1
    · intro w' hSw
      try dsimp only at hSw
      obtain ⟨q1, q2⟩ := hSw
      go_simp
      all_goals with_reducible rfl
    try simp only [Act.put, List.setIfInBounds_toArray, List.set_cons_zero, List.set_cons_succ]
    refine till_taked (i := 24) (v := ?_) 68 rfl rfl (by kernel_rfl) (by kernel_rfl) (by kernel_rfl) (by kernel_rfl) (by kernel_rfl) (by kernel_rfl) (fun _ _ _ h => h) (Or.inl ⟨by rfl, ?_⟩) hS ?_
    rotate_left 1
    · intro w' hSw
      try dsimp only at hSw
      obtain ⟨q1, q2⟩ := hSw
      go_simp
      all_goals with_reducible rfl
    try simp only [Act.put, List.setIfInBounds_toArray, List.set_cons_zero, List.set_cons_succ]
    refine till_taked (i := 25) (v := ?_) 69 rfl rfl (by kernel_rfl) (by kernel_rfl) (by kernel_rfl) (by kernel_rfl) (by kernel_rfl) (by kernel_rfl) (fun _ _ _ h => h) (Or.inl ⟨by rfl, ?_⟩) hS ?_
    rotate_left 1
    · intro w' hSw
      try dsimp only at hSw
      obtain ⟨q1, q2⟩ := hSw
      go_simp
      all_goals with_reducible rfl
    try simp only [Act.put, List.setIfInBounds_toArray, List.set_cons_zero, List.set_cons_succ]
    refine till_taked (i := 26) (v := ?_) 70 rfl rfl (by kernel_rfl) (by kernel_rfl) (by kernel_rfl) (by kernel_rfl) (by kernel_rfl) (by kernel_rfl) (fun _ _ _ h => h) (Or.inl ⟨by rfl, ?_⟩) hS ?_
    rotate_left 1
    · intro w' hSw
      try dsimp only at hSw
      obtain ⟨q1, q2⟩ := hSw
      go_simp
      all_goals with_reducible rfl
    try simp only [Act.put, List.setIfInBounds_toArray, List.set_cons_zero, List.set_cons_succ]
    refine till_taked (i := 27) (v := ?_) 71 rfl rfl (by kernel_rfl) (by kernel_rfl) (by kernel_rfl) (by kernel_rfl) (by kernel_rfl) (by kernel_rfl) (fun _ _ _ h => h) (Or.inl ⟨by rfl, ?_⟩) hS ?_
    rotate_left 1
    · intro w' hSw
      try dsimp only at hSw
      obtain ⟨q1, q2⟩ := hSw
      go_simp
      all_goals with_reducible rfl
    try simp only [Act.put, List.setIfInBounds_toArray, List.set_cons_zero, List.set_cons_succ]
    refine till_taked (i := 28) (v := ?_) 72 rfl rfl (by kernel_rfl) (by kernel_rfl) (by kernel_rfl) (by kernel_rfl) (by kernel_rfl) (by kernel_rfl) (fun _ _ _ h => h) (Or.inl ⟨by rfl, ?_⟩) hS ?_
    rotate_left 1
    · intro w' hSw
      try dsimp only at hSw
      obtain ⟨q1, q2⟩ := hSw
      go_simp
      all_goals with_reducible rfl
    try simp only [Act.put, List.setIfInBounds_toArray, List.set_cons_zero, List.set_cons_succ]
    refine till_taked (i := 29) (v := ?_) 73 rfl rfl (by kernel_rfl) (by kernel_rfl) (by kernel_rfl) (by kernel_rfl) (by kernel_rfl) (by kernel_rfl) (fun _ _ _ h => h) (Or.inl ⟨by rfl, ?_⟩) hS ?_
    rotate_left 1
    · intro w' hSw
      try dsimp only at hSw
      obtain ⟨q1, q2⟩ := hSw
      go_simp
      all_goals with_reducible rfl
    try simp only [Act.put, List.setIfInBounds_toArray, List.set_cons_zero, List.set_cons_succ]
    refine till_one (i := 8) (by kernel_rfl) rfl rfl (fun K hK => ?_)
    go_simp
    refine (with_any R.x p.x _).mono ?_
    rintro e W1 ⟨rfl, hbel⟩
    clear hS
    replace ap := ap.trans (Apart.of hbel (Nat.le_of_lt k.lt))
    replace k := k.below hbel
    replace k3 := k3.below hbel
    clear hbel
    have hS : (fun w' : World => (∀ j, w'.cell? ⟨g, j, none⟩ = #[Value.int .i64 R.x.lo, .int .i64 R.x.hi, .int .i64 R.y.lo, .int .i64 R.y.hi, .int .i64 R.s.lo, .int .i64 R.s.hi, .int .i64 R.d.lo, .int .i64 R.d.hi, .bool true][j]?) ∧ (∀ j, w'.cell? ⟨w.heap.size, j, none⟩ = #[Value.int .i64 p.x, .int .i64 p.y][j]?)) W1 := ⟨k.cell, k3.cell⟩
    refine hK _ _ (fun _ => hS) ?_
    clear hK K
    try simp only [Act.put, List.setIfInBounds_toArray, List.set_cons_zero, List.set_cons_succ]
    refine till_one (i := 16) (by kernel_rfl) rfl rfl (fun K hK => ?_)
    go_simp
    refine (with_any R.y p.y _).mono ?_
    rintro e W1 ⟨rfl, hbel⟩
    clear hS
    replace ap := ap.trans (Apart.of hbel (Nat.le_of_lt k.lt))
    replace k := k.below hbel
    replace k3 := k3.below hbel
    clear hbel
    have hS : (fun w' : World => (∀ j, w'.cell? ⟨g, j, none⟩ = #[Value.int .i64 R.x.lo, .int .i64 R.x.hi, .int .i64 R.y.lo, .int .i64 R.y.hi, .int .i64 R.s.lo, .int .i64 R.s.hi, .int .i64 R.d.lo, .int .i64 R.d.hi, .bool true][j]?) ∧ (∀ j, w'.cell? ⟨w.heap.size, j, none⟩ = #[Value.int .i64 p.x, .int .i64 p.y][j]?)) W1 := ⟨k.cell, k3.cell⟩
    refine hK _ _ (fun _ => hS) ?_
    clear hK K
    try simp only [Act.put, List.setIfInBounds_toArray, List.set_cons_zero, List.set_cons_succ]
    refine till_one (i := 23) (by kernel_rfl) rfl rfl (fun K hK => ?_)
    go_simp
    refine (with_any R.s (p.x + p.y) _).mono ?_
    rintro e W1 ⟨rfl, hbel⟩
    clear hS
    replace ap := ap.trans (Apart.of hbel (Nat.le_of_lt k.lt))
    replace k := k.below hbel
    replace k3 := k3.below hbel
    clear hbel
    have hS : (fun w' : World => (∀ j, w'.cell? ⟨g, j, none⟩ = #[Value.int .i64 R.x.lo, .int .i64 R.x.hi, .int .i64 R.y.lo, .int .i64 R.y.hi, .int .i64 R.s.lo, .int .i64 R.s.hi, .int .i64 R.d.lo, .int .i64 R.d.hi, .bool true][j]?) ∧ (∀ j, w'.cell? ⟨w.heap.size, j, none⟩ = #[Value.int .i64 p.x, .int .i64 p.y][j]?)) W1 := ⟨k.cell, k3.cell⟩
    refine hK _ _ (fun _ => hS) ?_
    clear hK K
    try simp only [Act.put, List.setIfInBounds_toArray, List.set_cons_zero, List.set_cons_succ]
    refine till_one (i := 30) (by kernel_rfl) rfl rfl (fun K hK => ?_)
    go_simp
    refine (with_any R.d (p.x - p.y) _).mono ?_
    rintro e W1 ⟨rfl, hbel⟩
    clear hS
    replace ap := ap.trans (Apart.of hbel (Nat.le_of_lt k.lt))
    replace k := k.below hbel
    replace k3 := k3.below hbel
    clear hbel
    have hS : (fun w' : World => (∀ j, w'.cell? ⟨g, j, none⟩ = #[Value.int .i64 R.x.lo, .int .i64 R.x.hi, .int .i64 R.y.lo, .int .i64 R.y.hi, .int .i64 R.s.lo, .int .i64 R.s.hi, .int .i64 R.d.lo, .int .i64 R.d.hi, .bool true][j]?) ∧ (∀ j, w'.cell? ⟨w.heap.size, j, none⟩ = #[Value.int .i64 p.x, .int .i64 p.y][j]?)) W1 := ⟨k.cell, k3.cell⟩
    refine hK _ _ (fun _ => hS) ?_
    clear hK K
    try simp only [Act.put, List.setIfInBounds_toArray, List.set_cons_zero, List.set_cons_succ]
    refine till_taked (i := 31) (v := ?_) 75 rfl rfl (by kernel_rfl) (by kernel_rfl) (by kernel_rfl) (by kernel_rfl) (by kernel_rfl) (by kernel_rfl) (fun _ _ _ h => h) (Or.inl ⟨by rfl, ?_⟩) hS ?_
    rotate_left 1
    · intro w' hSw
      try dsimp only at hSw
      obtain ⟨q1, q2⟩ := hSw
      go_simp
      all_goals with_reducible rfl
    try simp only [Act.put, List.setIfInBounds_toArray, List.set_cons_zero, List.set_cons_succ]
    refine till_one (i := 32) (by kernel_rfl) rfl rfl (fun K hK => ?_)
    go_simp
    refine hK _ _ (fun _ => hS) ?_
    clear hK K
    try simp only [Act.put, List.setIfInBounds_toArray, List.set_cons_zero, List.set_cons_succ]
    refine till_one (i := 33) (by kernel_rfl) rfl rfl (fun K hK => ?_)
    go_simp
    refine hK _ _ (fun _ => hS) ?_
    clear hK K
    try simp only [Act.put, List.setIfInBounds_toArray, List.set_cons_zero, List.set_cons_succ]
    have kz := k.set8h (.int .i64 (min R.x.lo p.x)) (.int .i64 (max R.x.hi p.x)) (.int .i64 (min R.y.lo p.y)) (.int .i64 (max R.y.hi p.y)) (.int .i64 (min R.s.lo (p.x + p.y))) (.int .i64 (max R.s.hi (p.x + p.y))) (.int .i64 (min R.d.lo (p.x - p.y))) (.int .i64 (max R.d.hi (p.x - p.y)))
    have az := ap.set8 (.int .i64 (min R.x.lo p.x)) (.int .i64 (max R.x.hi p.x)) (.int .i64 (min R.y.lo p.y)) (.int .i64 (max R.y.hi p.y)) (.int .i64 (min R.s.lo (p.x + p.y))) (.int .i64 (max R.s.hi (p.x + p.y))) (.int .i64 (min R.d.lo (p.x - p.y))) (.int .i64 (max R.d.hi (p.x - p.y)))
    have k3z := far_set8 k3 (show w.heap.size ≠ g by omega) (.int .i64 (min R.x.lo p.x)) (.int .i64 (max R.x.hi p.x)) (.int .i64 (min R.y.lo p.y)) (.int .i64 (max R.y.hi p.y)) (.int .i64 (min R.s.lo (p.x + p.y))) (.int .i64 (max R.s.hi (p.x + p.y))) (.int .i64 (min R.d.lo (p.x - p.y))) (.int .i64 (max R.d.hi (p.x - p.y)))
    obtain ⟨wz, hwz⟩ : ∃ x, x = Go.Proofs.YtfengddpfeneiaaGreat.set8 W1 g (.int .i64 (min R.x.lo p.x)) (.int .i64 (max R.x.hi p.x)) (.int .i64 (min R.y.lo p.y)) (.int .i64 (max R.y.hi p.y)) (.int .i64 (min R.s.lo (p.x + p.y))) (.int .i64 (max R.s.hi (p.x + p.y))) (.int .i64 (min R.d.lo (p.x - p.y))) (.int .i64 (max R.d.hi (p.x - p.y))) := ⟨_, rfl⟩
    rw [← hwz] at kz az k3z
    simp only [Go.Proofs.YtfengddpfeneiaaGreat.set8] at hwz
    obtain ⟨c, f, l⟩ := k.rules
    refine till_one (i := 34) (by kernel_rfl) rfl rfl (fun K hK => ?_)
    go_simp
    rw [← hwz]
    clear hwz c f l hS
    refine hK _ _ (fun h => nomatch (show true = false from h)) ?_
    clear hK K
    refine till_done (by kernel_rfl) (noPanic_normal ?_) _
    go_wp2
    refine bodyPost_end (results_none rfl _ _ _) rfl ⟨rfl, ?_, az⟩
    rw [hadd.out]
    exact kz
  | some R =>
    simp only [hullA, optR, Option.getD_some, Option.isSome_some] at k
    obtain ⟨c, f, l⟩ := k.rules
    obtain ⟨c3, f3, l3⟩ := k3.rules
    go_quiet (fail)
    clear c f l c3 f3 l3
    replace ap := ap.trans (Apart.of (below_drewN (Below.refl w1.heap.size w1) nq) (Nat.le_of_lt k.lt))
    replace k := k.drewN nq
    replace k3 := k3.drewN nq
    generalize w1.drewN nq = W at *
    obtain ⟨c, f, l⟩ := k.rules
    go_wp2_with fail
    clear c f l
    refine wp_till_np (n0 := 34) (S := fun w' : World => (∀ j, w'.cell? ⟨g, j, none⟩ = #[Value.int .i64 R.x.lo, .int .i64 R.x.hi, .int .i64 R.y.lo, .int .i64 R.y.hi, .int .i64 R.s.lo, .int .i64 R.s.hi, .int .i64 R.d.lo, .int .i64 R.d.hi, .bool true][j]?) ∧ (∀ j, w'.cell? ⟨w.heap.size, j, none⟩ = #[Value.int .i64 p.x, .int .i64 p.y][j]?)) (by kernel_rfl) ?_
    have hbel : Below W.heap.size W W.drew := (Below.refl _ _).drew
    replace ap := ap.trans (Apart.of hbel (Nat.le_of_lt k.lt))
    replace k := k.below hbel
    replace k3 := k3.below hbel
    clear hbel
    generalize W.drew = wd at *
    have hS : (fun w' : World => (∀ j, w'.cell? ⟨g, j, none⟩ = #[Value.int .i64 R.x.lo, .int .i64 R.x.hi, .int .i64 R.y.lo, .int .i64 R.y.hi, .int .i64 R.s.lo, .int .i64 R.s.hi, .int .i64 R.d.lo, .int .i64 R.d.hi, .bool true][j]?) ∧ (∀ j, w'.cell? ⟨w.heap.size, j, none⟩ = #[Value.int .i64 p.x, .int .i64 p.y][j]?)) wd := ⟨k.cell, k3.cell⟩
    refine till_taked (i := 0) (v := ?_) 44 rfl rfl (by kernel_rfl) (by kernel_rfl) (by kernel_rfl) (by kernel_rfl) (by kernel_rfl) (by kernel_rfl) (fun _ _ _ h => h) (Or.inl ⟨by rfl, ?_⟩) hS ?_
    rotate_left 1
    · intro w' hSw
      try dsimp only at hSw
      obtain ⟨q1, q2⟩ := hSw
      go_simp
      all_goals with_reducible rfl
    try simp only [Act.put, List.setIfInBounds_toArray, List.set_cons_zero, List.set_cons_succ]
    refine till_taked (i := 1) (v := ?_) 45 rfl rfl (by kernel_rfl) (by kernel_rfl) (by kernel_rfl) (by kernel_rfl) (by kernel_rfl) (by kernel_rfl) (fun _ _ _ h => h) (Or.inl ⟨by rfl, ?_⟩) hS ?_
    rotate_left 1
    · intro w' hSw
      try dsimp only at hSw
      obtain ⟨q1, q2⟩ := hSw
      go_simp
      all_goals with_reducible rfl
    try simp only [Act.put, List.setIfInBounds_toArray, List.set_cons_zero, List.set_cons_succ]
    refine till_taked (i := 2) (v := ?_) 46 rfl rfl (by kernel_rfl) (by kernel_rfl) (by kernel_rfl) (by kernel_rfl) (by kernel_rfl) (by kernel_rfl) (fun _ _ _ h => h) (Or.inl ⟨by rfl, ?_⟩) hS ?_
    rotate_left 1
    · intro w' hSw
      try dsimp only at hSw
      obtain ⟨q1, q2⟩ := hSw
      go_simp
      all_goals with_reducible rfl
    try simp only [Act.put, List.setIfInBounds_toArray, List.set_cons_zero, List.set_cons_succ]
    refine till_taked (i := 3) (v := ?_) 47 rfl rfl (by kernel_rfl) (by kernel_rfl) (by kernel_rfl) (by kernel_rfl) (by kernel_rfl) (by kernel_rfl) (fun _ _ _ h => h) (Or.inl ⟨by rfl, ?_⟩) hS ?_
    rotate_left 1
    · intro w' hSw
      try dsimp only at hSw
      obtain ⟨q1, q2⟩ := hSw
      go_simp
      all_goals with_reducible rfl
    try simp only [Act.put, List.setIfInBounds_toArray, List.set_cons_zero, List.set_cons_succ]
    refine till_taked (i := 4) (v := ?_) 48 rfl rfl (by kernel_rfl) (by kernel_rfl) (by kernel_rfl) (by kernel_rfl) (by kernel_rfl) (by kernel_rfl) (fun _ _ _ h => h) (Or.inl ⟨by rfl, ?_⟩) hS ?_
    rotate_left 1
    · intro w' hSw
      try dsimp only at hSw
      obtain ⟨q1, q2⟩ := hSw
      go_simp
      all_goals with_reducible rfl
    try simp only [Act.put, List.setIfInBounds_toArray, List.set_cons_zero, List.set_cons_succ]
    refine till_taked (i := 5) (v := ?_) 49 rfl rfl (by kernel_rfl) (by kernel_rfl) (by kernel_rfl) (by kernel_rfl) (by kernel_rfl) (by kernel_rfl) (fun _ _ _ h => h) (Or.inl ⟨by rfl, ?_⟩) hS ?_
    rotate_left 1
    · intro w' hSw
      try dsimp only at hSw
      obtain ⟨q1, q2⟩ := hSw
      go_simp
      all_goals with_reducible rfl
    try simp only [Act.put, List.setIfInBounds_toArray, List.set_cons_zero, List.set_cons_succ]
    refine till_taked (i := 6) (v := ?_) 50 rfl rfl (by kernel_rfl) (by kernel_rfl) (by kernel_rfl) (by kernel_rfl) (by kernel_rfl) (by kernel_rfl) (fun _ _ _ h => h) (Or.inl ⟨by rfl, ?_⟩) hS ?_
    rotate_left 1
    · intro w' hSw
      try dsimp only at hSw
      obtain ⟨q1, q2⟩ := hSw
      go_simp
      all_goals with_reducible rfl
    try simp only [Act.put, List.setIfInBounds_toArray, List.set_cons_zero, List.set_cons_succ]
    refine till_taked (i := 7) (v := ?_) 51 rfl rfl (by kernel_rfl) (by kernel_rfl) (by kernel_rfl) (by kernel_rfl) (by kernel_rfl) (by kernel_rfl) (fun _ _ _ h => h) (Or.inl ⟨by rfl, ?_⟩) hS ?_
    rotate_left 1
    · intro w' hSw
      try dsimp only at hSw
      obtain ⟨q1, q2⟩ := hSw
      go_simp
      all_goals with_reducible rfl
    try simp only [Act.put, List.setIfInBounds_toArray, List.set_cons_zero, List.set_cons_succ]
    refine till_taked (i := 9) (v := ?_) 53 rfl rfl (by kernel_rfl) (by kernel_rfl) (by kernel_rfl) (by kernel_rfl) (by kernel_rfl) (by kernel_rfl) (fun _ _ _ h => h) (Or.inl ⟨by rfl, ?_⟩) hS ?_
    rotate_left 1
    · intro w' hSw
      try dsimp only at hSw
      obtain ⟨q1, q2⟩ := hSw
      go_simp
      all_goals with_reducible rfl
    try simp only [Act.put, List.setIfInBounds_toArray, List.set_cons_zero, List.set_cons_succ]
    refine till_taked (i := 10) (v := ?_) 54 rfl rfl (by kernel_rfl) (by kernel_rfl) (by kernel_rfl) (by kernel_rfl) (by kernel_rfl) (by kernel_rfl) (fun _ _ _ h => h) (Or.inl ⟨by rfl, ?_⟩) hS ?_
    rotate_left 1
    · intro w' hSw
      try dsimp only at hSw
      obtain ⟨q1, q2⟩ := hSw
      go_simp
      all_goals with_reducible rfl
    try simp only [Act.put, List.setIfInBounds_toArray, List.set_cons_zero, List.set_cons_succ]
    refine till_taked (i := 11) (v := ?_) 55 rfl rfl (by kernel_rfl) (by kernel_rfl) (by kernel_rfl) (by kernel_rfl) (by kernel_rfl) (by kernel_rfl) (fun _ _ _ h => h) (Or.inl ⟨by rfl, ?_⟩) hS ?_
    rotate_left 1
    · intro w' hSw
      try dsimp only at hSw
      obtain ⟨q1, q2⟩ := hSw
      go_simp
      all_goals with_reducible rfl
    try simp only [Act.put, List.setIfInBounds_toArray, List.set_cons_zero, List.set_cons_succ]
    refine till_taked (i := 12) (v := ?_) 56 rfl rfl (by kernel_rfl) (by kernel_rfl) (by kernel_rfl) (by kernel_rfl) (by kernel_rfl) (by kernel_rfl) (fun _ _ _ h => h) (Or.inl ⟨by rfl, ?_⟩) hS ?_
    rotate_left 1
    · intro w' hSw
      try dsimp only at hSw
      obtain ⟨q1, q2⟩ := hSw
      go_simp
      all_goals with_reducible rfl
    try simp only [Act.put, List.setIfInBounds_toArray, List.set_cons_zero, List.set_cons_succ]
    refine till_taked (i := 13) (v := ?_) 57 rfl rfl (by kernel_rfl) (by kernel_rfl) (by kernel_rfl) (by kernel_rfl) (by kernel_rfl) (by kernel_rfl) (fun _ _ _ h => h) (Or.inl ⟨by rfl, ?_⟩) hS ?_
    rotate_left 1
    · intro w' hSw
      try dsimp only at hSw
      obtain ⟨q1, q2⟩ := hSw
      go_simp
      all_goals with_reducible rfl
    try simp only [Act.put, List.setIfInBounds_toArray, List.set_cons_zero, List.set_cons_succ]
    refine till_taked (i := 14) (v := ?_) 58 rfl rfl (by kernel_rfl) (by kernel_rfl) (by kernel_rfl) (by kernel_rfl) (by kernel_rfl) (by kernel_rfl) (fun _ _ _ h => h) (Or.inl ⟨by rfl, ?_⟩) hS ?_
    rotate_left 1
    · intro w' hSw
      try dsimp only at hSw
      obtain ⟨q1, q2⟩ := hSw
      go_simp
      all_goals with_reducible rfl
    try simp only [Act.put, List.setIfInBounds_toArray, List.set_cons_zero, List.set_cons_succ]
    refine till_taked (i := 15) (v := ?_) 59 rfl rfl (by kernel_rfl) (by kernel_rfl) (by kernel_rfl) (by kernel_rfl) (by kernel_rfl) (by kernel_rfl) (fun _ _ _ h => h) (Or.inl ⟨by rfl, ?_⟩) hS ?_
    rotate_left 1
    · intro w' hSw
      try dsimp only at hSw
      obtain ⟨q1, q2⟩ := hSw
      go_simp
      all_goals with_reducible rfl
    try simp only [Act.put, List.setIfInBounds_toArray, List.set_cons_zero, List.set_cons_succ]
    refine till_taked (i := 17) (v := ?_) 61 rfl rfl (by kernel_rfl) (by kernel_rfl) (by kernel_rfl) (by kernel_rfl) (by kernel_rfl) (by kernel_rfl) (fun _ _ _ h => h) (Or.inl ⟨by rfl, ?_⟩) hS ?_
    rotate_left 1
    · intro w' hSw
      try dsimp only at hSw
      obtain ⟨q1, q2⟩ := hSw
      go_simp
      all_goals with_reducible rfl
    try simp only [Act.put, List.setIfInBounds_toArray, List.set_cons_zero, List.set_cons_succ]
    refine till_taked (i := 18) (v := ?_) 62 rfl rfl (by kernel_rfl) (by kernel_rfl) (by kernel_rfl) (by kernel_rfl) (by kernel_rfl) (by kernel_rfl) (fun _ _ _ h => h) (Or.inl ⟨by rfl, ?_⟩) hS ?_
    rotate_left 1
    · intro w' hSw
      try dsimp only at hSw
      obtain ⟨q1, q2⟩ := hSw
      go_simp
      all_goals with_reducible rfl
    try simp only [Act.put, List.setIfInBounds_toArray, List.set_cons_zero, List.set_cons_succ]
    refine till_taked (i := 19) (v := ?_) 63 rfl rfl (by kernel_rfl) (by kernel_rfl) (by kernel_rfl) (by kernel_rfl) (by kernel_rfl) (by kernel_rfl) (fun _ _ _ h => h) (Or.inl ⟨by rfl, ?_⟩) hS ?_
    rotate_left 1
    · intro w' hSw
      try dsimp only at hSw
      obtain ⟨q1, q2⟩ := hSw
      go_simp
      all_goals with_reducible rfl
    try simp only [Act.put, List.setIfInBounds_toArray, List.set_cons_zero, List.set_cons_succ]
    refine till_taked (i := 20) (v := ?_) 64 rfl rfl (by kernel_rfl) (by kernel_rfl) (by kernel_rfl) (by kernel_rfl) (by kernel_rfl) (by kernel_rfl) (fun _ _ _ h => h) (Or.inl ⟨by rfl, ?_⟩) hS ?_
    rotate_left 1
    · intro w' hSw
      try dsimp only at hSw
      obtain ⟨q1, q2⟩ := hSw
      go_simp
      all_goals with_reducible rfl
    try simp only [Act.put, List.setIfInBounds_toArray, List.set_cons_zero, List.set_cons_succ]
    refine till_taked (i := 21) (v := ?_) 65 rfl rfl (by kernel_rfl) (by kernel_rfl) (by kernel_rfl) (by kernel_rfl) (by kernel_rfl) (by kernel_rfl) (fun _ _ _ h => h) (Or.inl ⟨by rfl, ?_⟩) hS ?_
    rotate_left 1
    · intro w' hSw
      try dsimp only at hSw
      obtain ⟨q1, q2⟩ := hSw
      go_simp
      all_goals with_reducible rfl
    try simp only [Act.put, List.setIfInBounds_toArray, List.set_cons_zero, List.set_cons_succ]
    refine till_taked (i := 22) (v := ?_) 66 rfl rfl (by kernel_rfl) (by kernel_rfl) (by kernel_rfl) (by kernel_rfl) (by kernel_rfl) (by kernel_rfl) (fun _ _ _ h => h) (Or.inl ⟨by rfl, ?_⟩) hS ?_
    rotate_left 1
    · intro w' hSw
      try dsimp only at hSw
      obtain ⟨q1, q2⟩ := hSw
      go_simp
      all_goals with_reducible rfl
    try simp only [Act.put, List.setIfInBounds_toArray, List.set_cons_zero, List.set_cons_succ]
    refine till_taked (i := 24) (v := ?_) 68 rfl rfl (by kernel_rfl) (by kernel_rfl) (by kernel_rfl) (by kernel_rfl) (by kernel_rfl) (by kernel_rfl) (fun _ _ _ h => h) (Or.inl ⟨by rfl, ?_⟩) hS ?_
    rotate_left 1
    · intro w' hSw
      try dsimp only at hSw
      obtain ⟨q1, q2⟩ := hSw
      go_simp
      all_goals with_reducible rfl
    try simp only [Act.put, List.setIfInBounds_toArray, List.set_cons_zero, List.set_cons_succ]
    refine till_taked (i := 25) (v := ?_) 69 rfl rfl (by kernel_rfl) (by kernel_rfl) (by kernel_rfl) (by kernel_rfl) (by kernel_rfl) (by kernel_rfl) (fun _ _ _ h => h) (Or.inl ⟨by rfl, ?_⟩) hS ?_
    rotate_left 1
    · intro w' hSw
      try dsimp only at hSw
      obtain ⟨q1, q2⟩ := hSw
      go_simp
      all_goals with_reducible rfl
    try simp only [Act.put, List.setIfInBounds_toArray, List.set_cons_zero, List.set_cons_succ]
    refine till_taked (i := 26) (v := ?_) 70 rfl rfl (by kernel_rfl) (by kernel_rfl) (by kernel_rfl) (by kernel_rfl) (by kernel_rfl) (by kernel_rfl) (fun _ _ _ h => h) (Or.inl ⟨by rfl, ?_⟩) hS ?_
    rotate_left 1
    · intro w' hSw
      try dsimp only at hSw
      obtain ⟨q1, q2⟩ := hSw
      go_simp
      all_goals with_reducible rfl
    try simp only [Act.put, List.setIfInBounds_toArray, List.set_cons_zero, List.set_cons_succ]
    refine till_taked (i := 27) (v := ?_) 71 rfl rfl (by kernel_rfl) (by kernel_rfl) (by kernel_rfl) (by kernel_rfl) (by kernel_rfl) (by kernel_rfl) (fun _ _ _ h => h) (Or.inl ⟨by rfl, ?_⟩) hS ?_
    rotate_left 1
    · intro w' hSw
      try dsimp only at hSw
      obtain ⟨q1, q2⟩ := hSw
      go_simp
      all_goals with_reducible rfl
    try simp only [Act.put, List.setIfInBounds_toArray, List.set_cons_zero, List.set_cons_succ]
    refine till_taked (i := 28) (v := ?_) 72 rfl rfl (by kernel_rfl) (by kernel_rfl) (by kernel_rfl) (by kernel_rfl) (by kernel_rfl) (by kernel_rfl) (fun _ _ _ h => h) (Or.inl ⟨by rfl, ?_⟩) hS ?_
    rotate_left 1
    · intro w' hSw
      try dsimp only at hSw
      obtain ⟨q1, q2⟩ := hSw
      go_simp
      all_goals with_reducible rfl
    try simp only [Act.put, List.setIfInBounds_toArray, List.set_cons_zero, List.set_cons_succ]
    refine till_taked (i := 29) (v := ?_) 73 rfl rfl (by kernel_rfl) (by kernel_rfl) (by kernel_rfl) (by kernel_rfl) (by kernel_rfl) (by kernel_rfl) (fun _ _ _ h => h) (Or.inl ⟨by rfl, ?_⟩) hS ?_
    rotate_left 1
    · intro w' hSw
      try dsimp only at hSw
      obtain ⟨q1, q2⟩ := hSw
      go_simp
      all_goals with_reducible rfl
    try simp only [Act.put, List.setIfInBounds_toArray, List.set_cons_zero, List.set_cons_succ]
    refine till_one (i := 8) (by kernel_rfl) rfl rfl (fun K hK => ?_)
    go_simp
    refine (with_any R.x p.x _).mono ?_
    rintro e W1 ⟨rfl, hbel⟩
    clear hS
    replace ap := ap.trans (Apart.of hbel (Nat.le_of_lt k.lt))
    replace k := k.below hbel
    replace k3 := k3.below hbel
    clear hbel
    have hS : (fun w' : World => (∀ j, w'.cell? ⟨g, j, none⟩ = #[Value.int .i64 R.x.lo, .int .i64 R.x.hi, .int .i64 R.y.lo, .int .i64 R.y.hi, .int .i64 R.s.lo, .int .i64 R.s.hi, .int .i64 R.d.lo, .int .i64 R.d.hi, .bool true][j]?) ∧ (∀ j, w'.cell? ⟨w.heap.size, j, none⟩ = #[Value.int .i64 p.x, .int .i64 p.y][j]?)) W1 := ⟨k.cell, k3.cell⟩
    refine hK _ _ (fun _ => hS) ?_
    clear hK K
    try simp only [Act.put, List.setIfInBounds_toArray, List.set_cons_zero, List.set_cons_succ]
    refine till_one (i := 16) (by kernel_rfl) rfl rfl (fun K hK => ?_)
    go_simp
    refine (with_any R.y p.y _).mono ?_
    rintro e W1 ⟨rfl, hbel⟩
    clear hS
    replace ap := ap.trans (Apart.of hbel (Nat.le_of_lt k.lt))
    replace k := k.below hbel
    replace k3 := k3.below hbel
    clear hbel
    have hS : (fun w' : World => (∀ j, w'.cell? ⟨g, j, none⟩ = #[Value.int .i64 R.x.lo, .int .i64 R.x.hi, .int .i64 R.y.lo, .int .i64 R.y.hi, .int .i64 R.s.lo, .int .i64 R.s.hi, .int .i64 R.d.lo, .int .i64 R.d.hi, .bool true][j]?) ∧ (∀ j, w'.cell? ⟨w.heap.size, j, none⟩ = #[Value.int .i64 p.x, .int .i64 p.y][j]?)) W1 := ⟨k.cell, k3.cell⟩
    refine hK _ _ (fun _ => hS) ?_
    clear hK K
    try simp only [Act.put, List.setIfInBounds_toArray, List.set_cons_zero, List.set_cons_succ]
    refine till_one (i := 23) (by kernel_rfl) rfl rfl (fun K hK => ?_)
    go_simp
    refine (with_any R.s (p.x + p.y) _).mono ?_
    rintro e W1 ⟨rfl, hbel⟩
    clear hS
    replace ap := ap.trans (Apart.of hbel (Nat.le_of_lt k.lt))
    replace k := k.below hbel
    replace k3 := k3.below hbel
    clear hbel
    have hS : (fun w' : World => (∀ j, w'.cell? ⟨g, j, none⟩ = #[Value.int .i64 R.x.lo, .int .i64 R.x.hi, .int .i64 R.y.lo, .int .i64 R.y.hi, .int .i64 R.s.lo, .int .i64 R.s.hi, .int .i64 R.d.lo, .int .i64 R.d.hi, .bool true][j]?) ∧ (∀ j, w'.cell? ⟨w.heap.size, j, none⟩ = #[Value.int .i64 p.x, .int .i64 p.y][j]?)) W1 := ⟨k.cell, k3.cell⟩
    refine hK _ _ (fun _ => hS) ?_
    clear hK K
    try simp only [Act.put, List.setIfInBounds_toArray, List.set_cons_zero, List.set_cons_succ]
    refine till_one (i := 30) (by kernel_rfl) rfl rfl (fun K hK => ?_)
    go_simp
    refine (with_any R.d (p.x - p.y) _).mono ?_
    rintro e W1 ⟨rfl, hbel⟩
    clear hS
    replace ap := ap.trans (Apart.of hbel (Nat.le_of_lt k.lt))
    replace k := k.below hbel
    replace k3 := k3.below hbel
    clear hbel
    have hS : (fun w' : World => (∀ j, w'.cell? ⟨g, j, none⟩ = #[Value.int .i64 R.x.lo, .int .i64 R.x.hi, .int .i64 R.y.lo, .int .i64 R.y.hi, .int .i64 R.s.lo, .int .i64 R.s.hi, .int .i64 R.d.lo, .int .i64 R.d.hi, .bool true][j]?) ∧ (∀ j, w'.cell? ⟨w.heap.size, j, none⟩ = #[Value.int .i64 p.x, .int .i64 p.y][j]?)) W1 := ⟨k.cell, k3.cell⟩
    refine hK _ _ (fun _ => hS) ?_
    clear hK K
    try simp only [Act.put, List.setIfInBounds_toArray, List.set_cons_zero, List.set_cons_succ]
    refine till_taked (i := 31) (v := ?_) 75 rfl rfl (by kernel_rfl) (by kernel_rfl) (by kernel_rfl) (by kernel_rfl) (by kernel_rfl) (by kernel_rfl) (fun _ _ _ h => h) (Or.inl ⟨by rfl, ?_⟩) hS ?_
    rotate_left 1
    · intro w' hSw
      try dsimp only at hSw
      obtain ⟨q1, q2⟩ := hSw
      go_simp
      all_goals with_reducible rfl
    try simp only [Act.put, List.setIfInBounds_toArray, List.set_cons_zero, List.set_cons_succ]
    refine till_one (i := 32) (by kernel_rfl) rfl rfl (fun K hK => ?_)
    go_simp
    refine hK _ _ (fun _ => hS) ?_
    clear hK K
    try simp only [Act.put, List.setIfInBounds_toArray, List.set_cons_zero, List.set_cons_succ]
    refine till_one (i := 33) (by kernel_rfl) rfl rfl (fun K hK => ?_)
    go_simp
    refine hK _ _ (fun _ => hS) ?_
    clear hK K
    try simp only [Act.put, List.setIfInBounds_toArray, List.set_cons_zero, List.set_cons_succ]
    have kz := k.set8h (.int .i64 (min R.x.lo p.x)) (.int .i64 (max R.x.hi p.x)) (.int .i64 (min R.y.lo p.y)) (.int .i64 (max R.y.hi p.y)) (.int .i64 (min R.s.lo (p.x + p.y))) (.int .i64 (max R.s.hi (p.x + p.y))) (.int .i64 (min R.d.lo (p.x - p.y))) (.int .i64 (max R.d.hi (p.x - p.y)))
    have az := ap.set8 (.int .i64 (min R.x.lo p.x)) (.int .i64 (max R.x.hi p.x)) (.int .i64 (min R.y.lo p.y)) (.int .i64 (max R.y.hi p.y)) (.int .i64 (min R.s.lo (p.x + p.y))) (.int .i64 (max R.s.hi (p.x + p.y))) (.int .i64 (min R.d.lo (p.x - p.y))) (.int .i64 (max R.d.hi (p.x - p.y)))
    have k3z := far_set8 k3 (show w.heap.size ≠ g by omega) (.int .i64 (min R.x.lo p.x)) (.int .i64 (max R.x.hi p.x)) (.int .i64 (min R.y.lo p.y)) (.int .i64 (max R.y.hi p.y)) (.int .i64 (min R.s.lo (p.x + p.y))) (.int .i64 (max R.s.hi (p.x + p.y))) (.int .i64 (min R.d.lo (p.x - p.y))) (.int .i64 (max R.d.hi (p.x - p.y)))
    obtain ⟨wz, hwz⟩ : ∃ x, x = Go.Proofs.YtfengddpfeneiaaGreat.set8 W1 g (.int .i64 (min R.x.lo p.x)) (.int .i64 (max R.x.hi p.x)) (.int .i64 (min R.y.lo p.y)) (.int .i64 (max R.y.hi p.y)) (.int .i64 (min R.s.lo (p.x + p.y))) (.int .i64 (max R.s.hi (p.x + p.y))) (.int .i64 (min R.d.lo (p.x - p.y))) (.int .i64 (max R.d.hi (p.x - p.y))) := ⟨_, rfl⟩
    rw [← hwz] at kz az k3z
    simp only [Go.Proofs.YtfengddpfeneiaaGreat.set8] at hwz
    obtain ⟨c, f, l⟩ := k.rules
    refine till_one (i := 34) (by kernel_rfl) rfl rfl (fun K hK => ?_)
    go_simp
    rw [← hwz]
    clear hwz c f l hS
    refine hK _ _ (fun h => nomatch (show true = false from h)) ?_
    clear hK K
    refine till_done (by kernel_rfl) (noPanic_normal ?_) _
    go_wp2
    refine bodyPost_end (results_none rfl _ _ _) rfl ⟨rfl, ?_, az⟩
    exact kz
end Go.Proofs.YtfengddpfeneiaaGreat
namespace Go.Proofs.YtfengddpfeneiaaGreat
open Go.RowKit Go.Shelf
set_option linter.unusedSimpArgs false
set_option linter.unusedVariables false

theorem okHdg_iff1 {h : Hdg} : okHdg h = true ↔ 1 ≤ h.c ∧ h.c ≤ 1000 ∧ -h.c ≤ h.p ∧ h.p ≤ h.c ∧ -h.c ≤ h.q ∧ h.q ≤ h.c ∧ h.p * h.p + h.q * h.q = h.c * h.c := by unfold okHdg; rw [decide_eq_true_eq]
theorem addP_twice (o : Option Reg) (p : Pnt) : addP (addP o p) p = addP o p := by
  cases o with
  | none =>
    simp only [addP, Option.some.injEq, zipR, spanB, ofP, still, Reg.mk.injEq, Bnd.mk.injEq]
    omega
  | some h =>
    simp only [addP, Option.some.injEq, zipR, spanB, ofP, still, Reg.mk.injEq, Bnd.mk.injEq]
    omega
theorem addP_row (o : Option Reg) (q : RRow) : addP (addP o ⟨q.x, q.fr⟩) ⟨q.x, q.to⟩ = (rowPts q).foldl addP o := by
  unfold rowPts
  split
  · rename_i h
    rw [← h]
    exact addP_twice o _
  · rfl
def fullTo (r : Reg) (o : Option Reg) (j : Nat) : Option Reg := ((rowsTo r j).flatMap rowPts).foldl addP o
theorem fullTo_succ (r : Reg) (o : Option Reg) (j : Nat) : fullTo r o (j + 1) = if (rowB r (r.x.lo + j)).fr ≤ (rowB r (r.x.lo + j)).to then addP (addP (fullTo r o j) ⟨r.x.lo + j, (rowB r (r.x.lo + j)).fr⟩) ⟨r.x.lo + j, (rowB r (r.x.lo + j)).to⟩ else fullTo r o j := by
  unfold fullTo
  rw [rowsTo_succ, List.flatMap_append, List.foldl_append]
  split
  · rw [List.flatMap_singleton, ← addP_row]
    rfl
  · rfl
set_option maxRecDepth 100000 in
set_option maxHeartbeats 2000000 in
theorem Rfill_any (g : Nat) (o : Option Reg) (r : Reg) (w : World) (k : Blk w g 218 (hullA o)) (hr : okReg r = true) :
    Calls Tryz.prog 129 #[.pointer (some ⟨g, 0, none⟩), .agg (regA r)] w fun e w' => e = .returned (.tuple #[]) ∧ Blk w' g 218 (hullA ((ptsL r).foldl addP o)) ∧ Apart g w w' := by
  obtain ⟨⟨x1, x2, x3⟩, ⟨y1, y2, y3⟩, -, -⟩ := okReg_iff.1 hr
  replace hr := Lib.hid hr
  have hgs := k.lt
  have hend : Hid ((ptsL r).foldl addP o = fullTo r o (nX r)) := rfl
  have h0 : Hid (fullTo r o 0 = o) := rfl
  simp only [regA]
  obtain ⟨w1, hw1⟩ : ∃ w1, w1 = w.alloc (.cells #[.int .i64 r.x.lo, .int .i64 r.x.hi, .int .i64 r.y.lo, .int .i64 r.y.hi, .int .i64 r.s.lo, .int .i64 r.s.hi, .int .i64 r.d.lo, .int .i64 r.d.hi] 42) := ⟨_, rfl⟩
  have k3 : Blk w1 w.heap.size 42 #[.int .i64 r.x.lo, .int .i64 r.x.hi, .int .i64 r.y.lo, .int .i64 r.y.hi, .int .i64 r.s.lo, .int .i64 r.s.hi, .int .i64 r.d.lo, .int .i64 r.d.hi] := by rw [hw1]; exact Blk.new _ _ _
  have ap : Apart g w w1 := by rw [hw1]; exact Apart.of ((Below.refl _ _).alloc (Nat.le_refl _) _) (Nat.le_of_lt hgs)
  replace k : Blk w1 g 218 (hullA o) := by rw [hw1]; exact k.alloc _
  go_enter Tryz.func129, Tryz.ntmps129
  go_wp2_with fail
  rw [← hw1]
  clear hw1
  go_loopw [4] (fun x wr => ∃ j : Nat, x = .int .i64 (r.x.lo + j) ∧ j ≤ nX r ∧ Blk wr w.heap.size 42 #[.int .i64 r.x.lo, .int .i64 r.x.hi, .int .i64 r.y.lo, .int .i64 r.y.hi, .int .i64 r.s.lo, .int .i64 r.s.hi, .int .i64 r.d.lo, .int .i64 r.d.hi] ∧ Blk wr g 218 (hullA (fullTo r o j)) ∧ Apart g w wr) (fun x wr => (r.x.hi + 1 - intOf x).toNat)
  case atStart => exact ⟨0, by simp, Nat.zero_le _, k3, k, ap⟩
  case round =>
    clear k3 k ap
    obtain ⟨j, rfl, hj, k3, k, ap⟩ := hrel
    have hjx : j < nX r ↔ r.x.lo + j ≤ r.x.hi := by unfold nX; omega
    by_cases hlt : r.x.lo + j ≤ r.x.hi
    · have hj1 := Lib.hid (hjx.2 hlt)
      replace hj := Lib.hid hj
      have hstep := Lib.hid (fullTo_succ r o j)
      have e1 : (rowB r (r.x.lo + j)).fr = max r.y.lo (max (r.s.lo - (r.x.lo + j)) (r.x.lo + j - r.d.hi)) := rfl
      have e2 : (rowB r (r.x.lo + j)).to = min r.y.hi (min (r.s.hi - (r.x.lo + j)) (r.x.lo + j - r.d.lo)) := rfl
      have hrow := fun W => Rrow_any r (r.x.lo + j) W hr.out (by omega)
      clear hjx
      obtain ⟨H, hH⟩ : ∃ H, fullTo r o j = H := ⟨_, rfl⟩
      rw [hH] at k hstep
      replace hH := Lib.hid hH
      generalize (rowB r (r.x.lo + j)).fr = fr at *
      generalize (rowB r (r.x.lo + j)).to = to at *
      generalize hx : r.x.lo + (j : Int) = x at *
      have hxb : -32768 ≤ x ∧ x ≤ 32768 := by omega
      have hx0 : r.x.lo ≤ x := by omega
      replace hx := Lib.hid hx
      have hfb : -32768 ≤ fr ∧ to ≤ 32768 := by omega
      replace e1 := Lib.hid e1
      replace e2 := Lib.hid e2
      have t5 := IntWalk.i64_in (x + 1) (by omega)
      simp only [regA] at hrow
      obtain ⟨c3, f3, l3⟩ := k3.rules
      go_wp2_with fail
      clear c3 f3 l3
      refine (hrow _).mono ?_
      rintro e W ⟨rfl, hbel⟩
      clear hrow
      replace ap := ap.trans (Apart.of hbel (Nat.le_of_lt k.lt))
      replace k := k.below hbel
      replace k3 := k3.below hbel
      clear hbel
      have hgW := k.lt
      by_cases hv : fr ≤ to
      · rw [if_pos hv] at hstep
        have hA1 := fun W k => hadd_any g H ⟨x, fr⟩ W k (by dsimp only; omega)
        have hA2 := fun W k => hadd_any g (addP H ⟨x, fr⟩) ⟨x, to⟩ W k (by dsimp only; omega)
        dsimp only at hA1 hA2
        go_wp2_with fail
        have k5 := Blk.new W 233 #[.int .i64 x, .int .i64 fr, .int .i64 to]
        have hbel := (Below.refl W.heap.size W).alloc (Nat.le_refl _) (.cells #[.int .i64 x, .int .i64 fr, .int .i64 to] 233)
        replace ap := ap.trans (Apart.of hbel (Nat.le_of_lt k.lt))
        replace k := k.below hbel
        replace k3 := k3.below hbel
        clear hbel
        generalize W.alloc (.cells #[.int .i64 x, .int .i64 fr, .int .i64 to] 233) = W2 at *
        have hg5 : W.heap.size ≠ g := by omega
        generalize W.heap.size = g5 at *
        refine (hA1 _ k).mono ?_
        rintro e W3 ⟨rfl, kk, hap⟩
        clear hA1
        replace ap := ap.trans hap
        replace k3 := hap.blk k3 (by omega)
        replace k5 := hap.blk k5 hg5
        replace k := kk
        clear kk hap
        obtain ⟨c5, f5, l5⟩ := k5.rules
        go_wp2_with fail
        clear c5 f5 l5
        refine (hA2 _ k).mono ?_
        rintro e W4 ⟨rfl, kk, hap⟩
        clear hA2
        replace ap := ap.trans hap
        replace k3 := hap.blk k3 (by omega)
        replace k := kk
        clear kk hap k5
        go_wp2_with fail
        go_roundw
        case rel => exact ⟨j + 1, by rw [← hx.out]; congr 1; push_cast; omega, hj1.out, k3, by rw [hstep.out]; exact k, ap⟩
        case measure => simp [intOf]; omega
      · rw [if_neg hv] at hstep
        go_wp2_with fail
        have hbel := (Below.refl W.heap.size W).alloc (Nat.le_refl _) (.cells #[.int .i64 x, .int .i64 fr, .int .i64 to] 233)
        replace ap := ap.trans (Apart.of hbel (Nat.le_of_lt k.lt))
        replace k := k.below hbel
        replace k3 := k3.below hbel
        go_roundw
        case rel => exact ⟨j + 1, by rw [← hx.out]; congr 1; push_cast; omega, hj1.out, k3, by rw [hstep.out]; exact k, ap⟩
        case measure => simp [intOf]; omega
    · have hje : j = nX r := by omega
      subst hje
      obtain ⟨c3, f3, l3⟩ := k3.rules
      go_wp2
      refine bodyPost_end (results_none rfl _ _ _) rfl ⟨rfl, ?_, ap⟩
      rw [hend.out]
      exact k
set_option maxRecDepth 100000 in
set_option maxHeartbeats 2000000 in
theorem Rhulls_any (b : Nat) (r : Reg) (w : World) (kb : Blk w b 42 #[.int .i64 r.x.lo, .int .i64 r.x.hi, .int .i64 r.y.lo, .int .i64 r.y.hi, .int .i64 r.s.lo, .int .i64 r.s.hi, .int .i64 r.d.lo, .int .i64 r.d.hi]) (hr : okReg r = true) :
    Calls Tryz.prog 84 #[.slice (some ⟨b, 0, none⟩) 1 1] w fun e w' => e = .returned (.tuple #[.agg (regA (doneR (tightO r)).1), .int .i64 (doneR (tightO r)).2]) ∧ Below w.heap.size w w' := by
  have hf := fun W k => Rfill_any (w.heap.size + 1) none r W k hr
  have hT : (ptsL r).foldl addP none = tightO r := rfl
  rw [hT] at hf
  clear hT
  have hbs := kb.lt
  simp only [regA] at hf ⊢
  obtain ⟨w1, hw1⟩ : ∃ w1, w1 = (w.alloc (.cells #[.int .i64 0, .int .i64 0, .int .i64 0, .int .i64 0, .int .i64 0, .int .i64 0, .int .i64 0, .int .i64 0] 42)).alloc (.cells #[.int .i64 0, .int .i64 0, .int .i64 0, .int .i64 0, .int .i64 0, .int .i64 0, .int .i64 0, .int .i64 0, .bool false] 218) := ⟨_, rfl⟩
  have k2 : Blk w1 w.heap.size 42 #[.int .i64 0, .int .i64 0, .int .i64 0, .int .i64 0, .int .i64 0, .int .i64 0, .int .i64 0, .int .i64 0] := by rw [hw1]; exact (Blk.new _ _ _).alloc _
  have kh : Blk w1 (w.heap.size + 1) 218 (hullA none) := by rw [hw1]; exact Blk.newAt (by simp)
  replace kb : Blk w1 b 42 #[.int .i64 r.x.lo, .int .i64 r.x.hi, .int .i64 r.y.lo, .int .i64 r.y.hi, .int .i64 r.s.lo, .int .i64 r.s.hi, .int .i64 r.d.lo, .int .i64 r.d.hi] := by rw [hw1]; exact (kb.alloc _).alloc _
  have hb : Below w.heap.size w w1 := by rw [hw1]; exact ((Below.refl _ _).alloc (Nat.le_refl _) _).alloc (by simp) _
  go_enter Tryz.func84, Tryz.ntmps84
  go_wp2_with fail
  rw [← hw1]
  clear hw1
  go_loopw [5] (fun i wr => ∃ j : Nat, i = .int .i64 j ∧ j ≤ 1 ∧ Blk wr w.heap.size 42 #[.int .i64 0, .int .i64 0, .int .i64 0, .int .i64 0, .int .i64 0, .int .i64 0, .int .i64 0, .int .i64 0] ∧ Blk wr (w.heap.size + 1) 218 (hullA (if j = 0 then none else tightO r)) ∧ Blk wr b 42 #[.int .i64 r.x.lo, .int .i64 r.x.hi, .int .i64 r.y.lo, .int .i64 r.y.hi, .int .i64 r.s.lo, .int .i64 r.s.hi, .int .i64 r.d.lo, .int .i64 r.d.hi] ∧ Below w.heap.size w wr) (fun i wr => (1 - intOf i).toNat)
  case atStart => exact ⟨0, rfl, by omega, k2, kh, kb, hb⟩
  case round =>
    clear k2 kh kb hb
    obtain ⟨j, rfl, hj, k2, kh, kb, hb⟩ := hrel
    by_cases hlt : j < 1
    · obtain rfl : j = 0 := by omega
      rw [if_pos rfl] at kh
      obtain ⟨cb, fb, lb⟩ := kb.rules
      go_wp2_with fail
      clear cb fb lb
      refine (hf _ kh).mono ?_
      rintro e W ⟨rfl, kk, hap⟩
      clear hf
      replace hb := hb.trans (hap.low.mono (Nat.le_succ _))
      replace k2 := hap.blk k2 (by omega)
      replace kb := hap.blk kb (by omega)
      go_wp2_with fail
      go_roundw
      case rel => exact ⟨1, rfl, by omega, k2, kk, kb, hb⟩
      case measure => simp [intOf]
    · obtain rfl : j = 1 := by omega
      rw [if_neg (by omega)] at kh
      cases hO : tightO r with
      | none =>
        rw [hO] at kh
        simp only [hullA, optR, Option.getD_none, noReg, Option.isSome_none] at kh
        have kz := k2.set8 (.int .i64 0) (.int .i64 0) (.int .i64 0) (.int .i64 0) (.int .i64 0) (.int .i64 0) (.int .i64 0) (.int .i64 0)
        have bz := below_set8 (g := w.heap.size) hb (Nat.le_refl _) (.int .i64 0) (.int .i64 0) (.int .i64 0) (.int .i64 0) (.int .i64 0) (.int .i64 0) (.int .i64 0) (.int .i64 0)
        obtain ⟨wz, hwz⟩ : ∃ x, x = set8 wr w.heap.size (.int .i64 0) (.int .i64 0) (.int .i64 0) (.int .i64 0) (.int .i64 0) (.int .i64 0) (.int .i64 0) (.int .i64 0) := ⟨_, rfl⟩
        rw [← hwz] at kz bz
        simp only [set8] at hwz
        obtain ⟨ch, fh, lh⟩ := kh.rules
        obtain ⟨c2, f2, l2⟩ := k2.rules
        go_wp2
        rw [← hwz]
        clear hwz ch fh lh c2 f2 l2
        obtain ⟨c2, f2, l2⟩ := kz.rules
        exact bodyPost_ret (v := .tuple #[.agg #[.int .i64 0, .int .i64 0, .int .i64 0, .int .i64 0, .int .i64 0, .int .i64 0, .int .i64 0, .int .i64 0], .int .i64 4]) (by simp [results, Tryz.results84, go_sem, c2]) rfl ⟨by rw [hO]; rfl, bz⟩
      | some T =>
        rw [hO] at kh
        simp only [hullA, optR, Option.getD_some, Option.isSome_some] at kh
        have kz := k2.set8 (.int .i64 T.x.lo) (.int .i64 T.x.hi) (.int .i64 T.y.lo) (.int .i64 T.y.hi) (.int .i64 T.s.lo) (.int .i64 T.s.hi) (.int .i64 T.d.lo) (.int .i64 T.d.hi)
        have bz := below_set8 (g := w.heap.size) hb (Nat.le_refl _) (.int .i64 T.x.lo) (.int .i64 T.x.hi) (.int .i64 T.y.lo) (.int .i64 T.y.hi) (.int .i64 T.s.lo) (.int .i64 T.s.hi) (.int .i64 T.d.lo) (.int .i64 T.d.hi)
        obtain ⟨wz, hwz⟩ : ∃ x, x = set8 wr w.heap.size (.int .i64 T.x.lo) (.int .i64 T.x.hi) (.int .i64 T.y.lo) (.int .i64 T.y.hi) (.int .i64 T.s.lo) (.int .i64 T.s.hi) (.int .i64 T.d.lo) (.int .i64 T.d.hi) := ⟨_, rfl⟩
        rw [← hwz] at kz bz
        simp only [set8] at hwz
        obtain ⟨ch, fh, lh⟩ := kh.rules
        obtain ⟨c2, f2, l2⟩ := k2.rules
        go_wp2
        rw [← hwz]
        clear hwz ch fh lh c2 f2 l2
        obtain ⟨c2, f2, l2⟩ := kz.rules
        exact bodyPost_ret (v := .tuple #[.agg #[.int .i64 T.x.lo, .int .i64 T.x.hi, .int .i64 T.y.lo, .int .i64 T.y.hi, .int .i64 T.s.lo, .int .i64 T.s.hi, .int .i64 T.d.lo, .int .i64 T.d.hi], .int .i64 0]) (by simp [results, Tryz.results84, go_sem, c2]) rfl ⟨by rw [hO]; rfl, bz⟩
set_option maxRecDepth 100000 in
set_option maxHeartbeats 2000000 in
theorem RCheckR_any (r : Reg) (w : World) :
    Calls Tryz.prog 32 #[.agg (regA r)] w fun e w' => e = .returned (.int .i64 (chkReg r)) ∧ Below w.heap.size w w' := by
  have h1 := fun W => rendsM_any r.x 32768 W (by omega)
  have h2 := fun W => rendsM_any r.y 32768 W (by omega)
  have h3 := fun W => rendsM_any r.s 65536 W (by omega)
  have h4 := fun W => rendsM_any r.d 65536 W (by omega)
  have k1 := Blk.new w 42 (regA r)
  have hb := (Below.refl w.heap.size w).alloc (Nat.le_refl _) (.cells (regA r) 42)
  simp only [regA] at k1 hb ⊢
  go_enter Tryz.func32, Tryz.ntmps32
  go_wp2_with fail
  generalize w.alloc (.cells #[.int .i64 r.x.lo, .int .i64 r.x.hi, .int .i64 r.y.lo, .int .i64 r.y.hi, .int .i64 r.s.lo, .int .i64 r.s.hi, .int .i64 r.d.lo, .int .i64 r.d.hi] 42) = w1 at *
  cases e1 : okBnd 32768 r.x with
  | false =>
    simp only [e1] at h1
    refine (h1 _).mono ?_
    rintro e W ⟨rfl, hbel⟩
    replace hb := hb.trans (hbel.mono hb.size)
    go_wp2
    go_ret
    exact ⟨ret_int (by simp [chkReg, okReg, *]), hb⟩
  | true =>
    simp only [e1] at h1
    refine (h1 _).mono ?_
    rintro e W ⟨rfl, hbel⟩
    replace k1 := k1.below hbel
    replace hb := hb.trans (hbel.mono hb.size)
    clear hbel
    obtain ⟨c1, f1, l1⟩ := k1.rules
    go_wp2_with fail
    clear c1 f1 l1
    cases e2 : okBnd 32768 r.y with
    | false =>
      simp only [e2] at h2
      refine (h2 _).mono ?_
      rintro e W ⟨rfl, hbel⟩
      replace hb := hb.trans (hbel.mono hb.size)
      go_wp2
      go_ret
      exact ⟨ret_int (by simp [chkReg, okReg, *]), hb⟩
    | true =>
      simp only [e2] at h2
      refine (h2 _).mono ?_
      rintro e W ⟨rfl, hbel⟩
      replace k1 := k1.below hbel
      replace hb := hb.trans (hbel.mono hb.size)
      clear hbel
      obtain ⟨c1, f1, l1⟩ := k1.rules
      go_wp2_with fail
      clear c1 f1 l1
      cases e3 : okBnd 65536 r.s with
      | false =>
        simp only [e3] at h3
        refine (h3 _).mono ?_
        rintro e W ⟨rfl, hbel⟩
        replace hb := hb.trans (hbel.mono hb.size)
        go_wp2
        go_ret
        exact ⟨ret_int (by simp [chkReg, okReg, *]), hb⟩
      | true =>
        simp only [e3] at h3
        refine (h3 _).mono ?_
        rintro e W ⟨rfl, hbel⟩
        replace k1 := k1.below hbel
        replace hb := hb.trans (hbel.mono hb.size)
        clear hbel
        obtain ⟨c1, f1, l1⟩ := k1.rules
        go_wp2_with fail
        clear c1 f1 l1
        cases e4 : okBnd 65536 r.d with
        | false =>
          simp only [e4] at h4
          refine (h4 _).mono ?_
          rintro e W ⟨rfl, hbel⟩
          replace hb := hb.trans (hbel.mono hb.size)
          go_wp2
          go_ret
          exact ⟨ret_int (by simp [chkReg, okReg, *]), hb⟩
        | true =>
          simp only [e4] at h4
          refine (h4 _).mono ?_
          rintro e W ⟨rfl, hbel⟩
          replace hb := hb.trans (hbel.mono hb.size)
          go_wp2
          go_ret
          exact ⟨ret_int (by simp [chkReg, okReg, *]), hb⟩
set_option maxRecDepth 100000 in
set_option maxHeartbeats 2000000 in
theorem RTight_any (r : Reg) (w : World) :
    Calls Tryz.prog 33 #[.agg (regA r)] w fun e w' => e = .returned (.tuple #[.agg (regA (tightR r).1), .int .i64 (tightR r).2]) ∧ Below w.heap.size w w' := by
  have hchk := fun W => RCheckR_any r W
  simp only [regA] at hchk ⊢
  obtain ⟨w1, hw1⟩ : ∃ w1, w1 = (w.alloc (.cells #[.int .i64 r.x.lo, .int .i64 r.x.hi, .int .i64 r.y.lo, .int .i64 r.y.hi, .int .i64 r.s.lo, .int .i64 r.s.hi, .int .i64 r.d.lo, .int .i64 r.d.hi] 42)).alloc (.cells #[.int .i64 0, .int .i64 0, .int .i64 0, .int .i64 0, .int .i64 0, .int .i64 0, .int .i64 0, .int .i64 0] 42) := ⟨_, rfl⟩
  have k1 : Blk w1 w.heap.size 42 #[.int .i64 r.x.lo, .int .i64 r.x.hi, .int .i64 r.y.lo, .int .i64 r.y.hi, .int .i64 r.s.lo, .int .i64 r.s.hi, .int .i64 r.d.lo, .int .i64 r.d.hi] := by rw [hw1]; exact (Blk.new _ _ _).alloc _
  have k2 : Blk w1 (w.heap.size + 1) 42 #[.int .i64 0, .int .i64 0, .int .i64 0, .int .i64 0, .int .i64 0, .int .i64 0, .int .i64 0, .int .i64 0] := by rw [hw1]; exact Blk.newAt (by simp)
  have hb : Below w.heap.size w w1 := by rw [hw1]; exact ((Below.refl _ _).alloc (Nat.le_refl _) _).alloc (by simp) _
  by_cases hr : okReg r = true
  · have hk : chkReg r = 0 := by simp [chkReg, hr]
    have hv : tightR r = doneR (tightO r) := by simp [tightR, hr]
    have hh := fun b W k => Rhulls_any b r W k hr
    rw [hv]
    simp only [hk] at hchk
    generalize doneR (tightO r) = D at *
    obtain ⟨R, er⟩ := D
    simp only [regA] at hh ⊢
    replace hr := Lib.hid hr
    clear hv hk
    go_enter Tryz.func33, Tryz.ntmps33
    go_wp2_with fail
    rw [← hw1]
    clear hw1
    refine (hchk _).mono ?_
    rintro e W ⟨rfl, hbel⟩
    replace k1 := k1.below hbel
    replace k2 := k2.below hbel
    replace hb := hb.trans (hbel.mono hb.size)
    clear hbel hchk
    obtain ⟨c1, f1, l1⟩ := k1.rules
    go_wp2_with fail
    clear c1 f1 l1
    have kb := Blk.new W 42 #[.int .i64 r.x.lo, .int .i64 r.x.hi, .int .i64 r.y.lo, .int .i64 r.y.hi, .int .i64 r.s.lo, .int .i64 r.s.hi, .int .i64 r.d.lo, .int .i64 r.d.hi]
    have hbel := (Below.refl W.heap.size W).alloc (Nat.le_refl _) (.cells #[.int .i64 r.x.lo, .int .i64 r.x.hi, .int .i64 r.y.lo, .int .i64 r.y.hi, .int .i64 r.s.lo, .int .i64 r.s.hi, .int .i64 r.d.lo, .int .i64 r.d.hi] 42)
    replace k2 := k2.below hbel
    replace hb := hb.trans (hbel.mono hb.size)
    clear hbel k1
    generalize W.alloc (.cells #[.int .i64 r.x.lo, .int .i64 r.x.hi, .int .i64 r.y.lo, .int .i64 r.y.hi, .int .i64 r.s.lo, .int .i64 r.s.hi, .int .i64 r.d.lo, .int .i64 r.d.hi] 42) = W2 at *
    generalize W.heap.size = gb at *
    refine (hh _ _ kb).mono ?_
    rintro e W3 ⟨rfl, hbel⟩
    replace k2 := k2.below hbel
    replace hb := hb.trans (hbel.mono hb.size)
    clear hbel hh kb
    have kz := k2.set8 (.int .i64 R.x.lo) (.int .i64 R.x.hi) (.int .i64 R.y.lo) (.int .i64 R.y.hi) (.int .i64 R.s.lo) (.int .i64 R.s.hi) (.int .i64 R.d.lo) (.int .i64 R.d.hi)
    have bz := below_set8 (g := w.heap.size + 1) hb (by omega) (.int .i64 R.x.lo) (.int .i64 R.x.hi) (.int .i64 R.y.lo) (.int .i64 R.y.hi) (.int .i64 R.s.lo) (.int .i64 R.s.hi) (.int .i64 R.d.lo) (.int .i64 R.d.hi)
    obtain ⟨wz, hwz⟩ : ∃ x, x = set8 W3 (w.heap.size + 1) (.int .i64 R.x.lo) (.int .i64 R.x.hi) (.int .i64 R.y.lo) (.int .i64 R.y.hi) (.int .i64 R.s.lo) (.int .i64 R.s.hi) (.int .i64 R.d.lo) (.int .i64 R.d.hi) := ⟨_, rfl⟩
    rw [← hwz] at kz bz
    simp only [set8] at hwz
    obtain ⟨c2, f2, l2⟩ := k2.rules
    go_wp2
    rw [← hwz]
    clear hwz c2 f2 l2
    obtain ⟨c2, f2, l2⟩ := kz.rules
    exact bodyPost_ret (v := .tuple #[.agg #[.int .i64 R.x.lo, .int .i64 R.x.hi, .int .i64 R.y.lo, .int .i64 R.y.hi, .int .i64 R.s.lo, .int .i64 R.s.hi, .int .i64 R.d.lo, .int .i64 R.d.hi], .int .i64 er]) (by simp [results, Tryz.results33, go_sem, c2]) rfl ⟨rfl, bz⟩
  · have hk : chkReg r = 11 := by simp [chkReg, hr]
    have hv : tightR r = (noReg, 11) := by simp [tightR, hr]
    rw [hv]
    simp only [hk] at hchk
    simp only [regA, noReg]
    go_enter Tryz.func33, Tryz.ntmps33
    go_wp2_with fail
    rw [← hw1]
    clear hw1
    refine (hchk _).mono ?_
    rintro e W ⟨rfl, hbel⟩
    replace k2 := k2.below hbel
    replace hb := hb.trans (hbel.mono hb.size)
    clear hbel hchk
    have kz := k2.set8 (.int .i64 0) (.int .i64 0) (.int .i64 0) (.int .i64 0) (.int .i64 0) (.int .i64 0) (.int .i64 0) (.int .i64 0)
    have bz := below_set8 (g := w.heap.size + 1) hb (by omega) (.int .i64 0) (.int .i64 0) (.int .i64 0) (.int .i64 0) (.int .i64 0) (.int .i64 0) (.int .i64 0) (.int .i64 0)
    obtain ⟨wz, hwz⟩ : ∃ x, x = set8 W (w.heap.size + 1) (.int .i64 0) (.int .i64 0) (.int .i64 0) (.int .i64 0) (.int .i64 0) (.int .i64 0) (.int .i64 0) (.int .i64 0) := ⟨_, rfl⟩
    rw [← hwz] at kz bz
    simp only [set8] at hwz
    obtain ⟨c2, f2, l2⟩ := k2.rules
    go_wp2
    rw [← hwz]
    clear hwz c2 f2 l2
    obtain ⟨c2, f2, l2⟩ := kz.rules
    exact bodyPost_ret (v := .tuple #[.agg #[.int .i64 0, .int .i64 0, .int .i64 0, .int .i64 0, .int .i64 0, .int .i64 0, .int .i64 0, .int .i64 0], .int .i64 11]) (by simp [results, Tryz.results33, go_sem, c2]) rfl ⟨rfl, bz⟩
set_option maxRecDepth 100000 in
set_option maxHeartbeats 2000000 in
theorem RCheckHeading_any (h : Hdg) (w : World) :
    Calls Tryz.prog 31 #[.agg #[.int .i64 h.p, .int .i64 h.q, .int .i64 h.c]] w fun e w' => e = .returned (.int .i64 (chkHdg h)) ∧ Below w.heap.size w w' := by
  have hw1 := fun W => Between_any h.c 1 1000 W
  have hw2 := fun W => Between_any h.p (-1000) 1000 W
  have hw3 := fun W => Between_any h.q (-1000) 1000 W
  have hv : Hid (chkHdg h = if okHdg h = true then 0 else 35) := rfl
  have hno : ¬ okHdg h = true → (if okHdg h = true then (0 : Int) else 35) = 35 := fun e => if_neg e
  by_cases c1 : 1 ≤ h.c ∧ h.c ≤ 1000
  · simp only [decide_eq_true c1] at hw1
    by_cases c2 : -1000 ≤ h.p ∧ h.p ≤ 1000
    · simp only [decide_eq_true c2] at hw2
      by_cases c3 : -1000 ≤ h.q ∧ h.q ≤ 1000
      · simp only [decide_eq_true c3] at hw3
        have p1 := sq_1000 c2
        have p2 := sq_1000 c3
        have p3 := sq_1000 (p := h.c) (by omega)
        have p4 := sq_nonneg h.p
        have p5 := sq_nonneg h.q
        have p6 := sq_nonneg h.c
        have t1 := IntWalk.i64_in (h.p * h.p) (by omega)
        have t2 := IntWalk.i64_in (h.q * h.q) (by omega)
        have t3 := IntWalk.i64_in (h.c * h.c) (by omega)
        have t4 := IntWalk.i64_in (h.p * h.p + h.q * h.q) (by omega)
        by_cases c4 : h.p * h.p + h.q * h.q = h.c * h.c
        · have a1 := abs_of_sq (p := h.p) (c := h.c) (s := h.q * h.q) (by omega) p5 c4
          have a2 := abs_of_sq (p := h.q) (c := h.c) (s := h.p * h.p) (by omega) p4 (by omega)
          have hy : (if okHdg h = true then (0 : Int) else 35) = 0 := if_pos (okHdg_iff1.2 ⟨c1.1, c1.2, a1.1, a1.2, a2.1, a2.2, c4⟩)
          have c4' : (h.p * h.p + h.q * h.q != h.c * h.c) = false := by simp [c4]
          replace hy := Lib.hid hy
          replace c4 := Lib.hid c4
          clear hno c1 c2 c3 p1 p2 p3 p4 p5 p6 a1 a2
          go_enter Tryz.func31, Tryz.ntmps31
          go_wp2_with fail
          refine (hw1 _).mono ?_
          rintro e w' ⟨rfl, rfl⟩
          go_wp2_with fail
          refine (hw2 _).mono ?_
          rintro e w' ⟨rfl, rfl⟩
          go_wp2_with fail
          refine (hw3 _).mono ?_
          rintro e w' ⟨rfl, rfl⟩
          go_wp2
          go_ret
          exact ⟨ret_int (by rw [hv.out]; exact hy.out.symm), (Below.refl _ _).alloc (Nat.le_refl _) _⟩
        · have hy := hno (fun e => c4 (okHdg_iff1.1 e).2.2.2.2.2.2)
          have c4' : (h.p * h.p + h.q * h.q != h.c * h.c) = true := by simp [c4]
          replace hy := Lib.hid hy
          replace c4 := Lib.hid c4
          clear hno c1 c2 c3 p1 p2 p3 p4 p5 p6
          go_enter Tryz.func31, Tryz.ntmps31
          go_wp2_with fail
          refine (hw1 _).mono ?_
          rintro e w' ⟨rfl, rfl⟩
          go_wp2_with fail
          refine (hw2 _).mono ?_
          rintro e w' ⟨rfl, rfl⟩
          go_wp2_with fail
          refine (hw3 _).mono ?_
          rintro e w' ⟨rfl, rfl⟩
          go_wp2
          go_ret
          exact ⟨ret_int (by rw [hv.out]; exact hy.out.symm), (Below.refl _ _).alloc (Nat.le_refl _) _⟩
      · simp only [decide_eq_false c3] at hw3
        have hy := hno (fun e => c3 (by have := okHdg_iff1.1 e; omega))
        replace hy := Lib.hid hy
        clear hno c1 c2 c3
        go_enter Tryz.func31, Tryz.ntmps31
        go_wp2_with fail
        refine (hw1 _).mono ?_
        rintro e w' ⟨rfl, rfl⟩
        go_wp2_with fail
        refine (hw2 _).mono ?_
        rintro e w' ⟨rfl, rfl⟩
        go_wp2_with fail
        refine (hw3 _).mono ?_
        rintro e w' ⟨rfl, rfl⟩
        go_wp2
        go_ret
        exact ⟨ret_int (by rw [hv.out]; exact hy.out.symm), (Below.refl _ _).alloc (Nat.le_refl _) _⟩
    · simp only [decide_eq_false c2] at hw2
      have hy := hno (fun e => c2 (by have := okHdg_iff1.1 e; omega))
      replace hy := Lib.hid hy
      clear hno c1 c2
      go_enter Tryz.func31, Tryz.ntmps31
      go_wp2_with fail
      refine (hw1 _).mono ?_
      rintro e w' ⟨rfl, rfl⟩
      go_wp2_with fail
      refine (hw2 _).mono ?_
      rintro e w' ⟨rfl, rfl⟩
      go_wp2
      go_ret
      exact ⟨ret_int (by rw [hv.out]; exact hy.out.symm), (Below.refl _ _).alloc (Nat.le_refl _) _⟩
  · simp only [decide_eq_false c1] at hw1
    have hy := hno (fun e => c1 (by have := okHdg_iff1.1 e; omega))
    replace hy := Lib.hid hy
    clear hno c1
    go_enter Tryz.func31, Tryz.ntmps31
    go_wp2_with fail
    refine (hw1 _).mono ?_
    rintro e w' ⟨rfl, rfl⟩
    go_wp2
    go_ret
    exact ⟨ret_int (by rw [hv.out]; exact hy.out.symm), (Below.refl _ _).alloc (Nat.le_refl _) _⟩
end Go.Proofs.YtfengddpfeneiaaGreat
namespace Go.Proofs.YtfengddpfeneiaaGreat
open Go.RowKit Go.Shelf
set_option linter.unusedSimpArgs false
set_option linter.unusedVariables false

def addN : Option Bnd → Int → Option Bnd
  | none, n => some ⟨n, n⟩
  | some b, n => some ⟨min b.lo n, max b.hi n⟩
theorem addE_two (o : Option Bnd) (a b : Int) : addE o (a, b) = addN (addN o a) b := by
  cases o with
  | none => simp only [addE, addN, Option.some.injEq, Bnd.mk.injEq]; omega
  | some h => simp only [addE, addN, Option.some.injEq, Bnd.mk.injEq]; omega
theorem addN_some (o : Option Bnd) (n : Int) : ∃ b, addN o n = some b := by cases o <;> exact ⟨_, rfl⟩
def inn (o : Option Bnd) (a b : Int) : Nat → Option Bnd
  | 0 => o
  | 1 => addN o a
  | _ => addN (addN o a) b
end Go.Proofs.YtfengddpfeneiaaGreat
namespace Go.Proofs.YtfengddpfeneiaaGreat
open Go.RowKit Go.Shelf
set_option linter.unusedSimpArgs false
set_option linter.unusedVariables false

set_option maxHeartbeats 400000 in
theorem Rplace_any (p : Pnt) (w : World) :
    Calls Tryz.prog 82 #[.agg #[.int .i64 p.x, .int .i64 p.y]] w fun e w' => e = .returned (.bool (okPnt p)) ∧ Below w.heap.size w w' := by
  have h1 := fun W => Between_any p.x (-32768) 32768 W
  have h2 := fun W => Between_any p.y (-32768) 32768 W
  have hv : Hid (okPnt p = decide (-32768 ≤ p.x ∧ p.x ≤ 32768 ∧ -32768 ≤ p.y ∧ p.y ≤ 32768)) := rfl
  by_cases c1 : -32768 ≤ p.x ∧ p.x ≤ 32768
  · simp only [decide_eq_true c1] at h1
    replace c1 := Lib.hid c1
    go_enter Tryz.func82, Tryz.ntmps82
    go_wp2_with fail
    refine (h1 _).mono ?_
    rintro e w' ⟨rfl, rfl⟩
    go_wp2_with fail
    refine (h2 _).mono ?_
    rintro e w' ⟨rfl, rfl⟩
    go_wp2
    go_ret
    exact ⟨ret_bool (by rw [hv.out]; have := c1.out; simp [this.1, this.2]), (Below.refl _ _).alloc (Nat.le_refl _) _⟩
  · simp only [decide_eq_false c1] at h1
    replace c1 := Lib.hid c1
    go_enter Tryz.func82, Tryz.ntmps82
    go_wp2_with fail
    refine (h1 _).mono ?_
    rintro e w' ⟨rfl, rfl⟩
    go_wp2
    go_ret
    exact ⟨ret_bool (by rw [hv.out]; have := c1.out; symm; exact decide_eq_false (by omega)), (Below.refl _ _).alloc (Nat.le_refl _) _⟩
set_option maxHeartbeats 400000 in
theorem RCheckPnt_any (p : Pnt) (w : World) :
    Calls Tryz.prog 30 #[.agg #[.int .i64 p.x, .int .i64 p.y]] w fun e w' => e = .returned (.int .i64 (chkPnt p)) ∧ Below w.heap.size w w' := by
  have h1 := fun W => Rplace_any p W
  have hb := (Below.refl w.heap.size w).alloc (Nat.le_refl _) (.cells #[.int .i64 p.x, .int .i64 p.y] 23)
  cases e1 : okPnt p with
  | false =>
    simp only [e1] at h1
    have hv : chkPnt p = 10 := by simp [chkPnt, e1]
    rw [hv]
    go_enter Tryz.func30, Tryz.ntmps30
    go_wp2_with fail
    generalize w.alloc (.cells #[.int .i64 p.x, .int .i64 p.y] 23) = w1 at *
    refine (h1 _).mono ?_
    rintro e W ⟨rfl, hbel⟩
    replace hb := hb.trans (hbel.mono hb.size)
    go_wp2
    go_ret
    exact ⟨rfl, hb⟩
  | true =>
    simp only [e1] at h1
    have hv : chkPnt p = 0 := by simp [chkPnt, e1]
    rw [hv]
    go_enter Tryz.func30, Tryz.ntmps30
    go_wp2_with fail
    generalize w.alloc (.cells #[.int .i64 p.x, .int .i64 p.y] 23) = w1 at *
    refine (h1 _).mono ?_
    rintro e W ⟨rfl, hbel⟩
    replace hb := hb.trans (hbel.mono hb.size)
    go_wp2
    go_ret
    exact ⟨rfl, hb⟩
end Go.Proofs.YtfengddpfeneiaaGreat
namespace Go.Proofs.YtfengddpfeneiaaGreat
open Go.RowKit Go.Shelf
set_option linter.unusedSimpArgs false
set_option linter.unusedVariables false

end Go.Proofs.YtfengddpfeneiaaGreat
