/-
  Walks: shortest, floor, ceil, CheckHeading, extremes.
-/
import Derived.Test.YtjiaepphnddpoaaGreatG8
import Derived.Test.YtjiaepphnddpoaaGreatW2
namespace Go.Proofs.YtjiaepphnddpoaaGreat
open Go.RowKit Go.Shelf

theorem min2_int (ats : Array TypeId) (ty : TypeId) (a b : Int) : Builtin.min_ ats ty #[.int .i64 a, .int .i64 b] = pure (.int .i64 (min a b)) := by
  simp only [Builtin.min_, Builtin.min2, List.foldlM_cons, List.foldlM_nil, bind_pure]
  congr 2
  split <;> omega
theorem max2_int (ats : Array TypeId) (ty : TypeId) (a b : Int) : Builtin.max_ ats ty #[.int .i64 a, .int .i64 b] = pure (.int .i64 (max a b)) := by
  simp only [Builtin.max_, Builtin.max2, List.foldlM_cons, List.foldlM_nil, bind_pure]
  congr 2
  split <;> omega
set_option maxHeartbeats 1000000 in
theorem shortest_any (len m : Int) (w : World) (h1 : 0 ≤ len) (h2 : len ≤ 1000) (h3 : 0 ≤ m) (h4 : m ≤ 100000) :
    Calls Tryz.prog 126 #[.int .i64 len, .int .i64 m] w fun e w' => e = .returned (.int .i64 (shortS len m)) ∧ w = w' := by
  have hmin := min2_int
  have m1 : min m len * min m len ≤ len * len := sq_le (by omega) (by omega)
  have m2 : len * len ≤ 1000 * 1000 := sq_le h1 h2
  have m3 : 0 ≤ min m len * min m len := Int.mul_nonneg (by omega) (by omega)
  have hv : Hid (shortS len m = rootS (len * len - min m len * min m len)) := rfl
  have t1 := IntWalk.i64_in (len * len) (by omega)
  have t2 := IntWalk.i64_in (min m len * min m len) (by omega)
  have t3 := IntWalk.i64_in (len * len - min m len * min m len) (by omega)
  have hroot := fun W => Root_any (len * len - min m len * min m len) W (by omega) (by omega)
  replace m1 := Lib.hid m1
  replace m2 := Lib.hid m2
  replace m3 := Lib.hid m3
  go_enter Tryz.func126, Tryz.ntmps126
  go_wp2_with (go_at_call 90; refine (hroot _).mono ?_; rintro e w' ⟨rfl, rfl⟩)
  go_ret
  exact ⟨ret_int hv.out.symm, rfl⟩
set_option maxHeartbeats 1000000 in
theorem floor_any (a b : Int) (w : World) (h1 : -1000000000000 ≤ a) (h2 : a ≤ 1000000000000) (h3 : 1 ≤ b) (h4 : b ≤ 1000000) :
    Calls Tryz.prog 112 #[.int .i64 a, .int .i64 b] w fun e w' => e = .returned (.int .i64 (floorS a b)) ∧ w = w' := by
  obtain ⟨s1, s2, s3, s4, s5⟩ := tdiv_spec a b (by omega)
  have hq : a.tdiv b ≤ 2000000000000 ∧ -2000000000000 ≤ a.tdiv b := by
    rcases Int.le_total 0 (a.tdiv b) with h | h
    · have := Int.mul_le_mul_of_nonneg_right h3 h
      omega
    · have := Int.mul_le_mul_of_nonpos_right h3 h
      omega
  obtain ⟨q1, q2⟩ := hq
  by_cases hn : a.tmod b < 0
  · have e : Hid (floorS a b = a.tdiv b - 1) := ediv_of a b (a.tdiv b - 1) (a.tmod b + b) (by omega) (by rw [Int.mul_sub]; omega) (by omega) (by omega)
    have t1 := IntWalk.i64_in (a.tdiv b - 1) (by omega)
    clear s1 s2 s3 s4 s5
    go_enter Tryz.func112, Tryz.ntmps112
    go_wp2
    go_ret
    exact ⟨ret_int e.out.symm, rfl⟩
  · have e : Hid (floorS a b = a.tdiv b) := ediv_of a b (a.tdiv b) (a.tmod b) (by omega) (by omega) (by omega) (by omega)
    clear s1 s2 s3 s4 s5
    go_enter Tryz.func112, Tryz.ntmps112
    go_wp2
    go_ret
    exact ⟨ret_int e.out.symm, rfl⟩
set_option maxHeartbeats 400000 in
theorem ceil_any (a b : Int) (w : World) (h1 : -1000000000000 ≤ a) (h2 : a ≤ 1000000000000) (h3 : 1 ≤ b) (h4 : b ≤ 1000000) :
    Calls Tryz.prog 113 #[.int .i64 a, .int .i64 b] w fun e w' => e = .returned (.int .i64 (ceilS a b)) ∧ w = w' := by
  have hfl := fun W => floor_any (-a) b W (by omega) (by omega) h3 h4
  have e : Hid (ceilS a b = -floorS (-a) b) := rfl
  have hb : -2000000000000 ≤ floorS (-a) b ∧ floorS (-a) b ≤ 2000000000000 := by
    unfold floorS
    have e1 := Int.mul_ediv_add_emod (-a) b
    have e2 := Int.emod_nonneg (-a) (b := b) (by omega)
    have e3 := Int.emod_lt_of_pos (-a) (b := b) (by omega)
    rcases Int.le_total 0 ((-a) / b) with h | h
    · have := Int.mul_le_mul_of_nonneg_right h3 h
      omega
    · have := Int.mul_le_mul_of_nonpos_right h3 h
      omega
  go_enter Tryz.func113, Tryz.ntmps113
  go_wp2_with (go_at_call 112; refine (hfl _).mono ?_; rintro e w' ⟨rfl, rfl⟩)
  go_ret
  exact ⟨ret_int (by rw [‹Hid (ceilS a b = _)›.out]), rfl⟩
set_option maxRecDepth 100000 in
set_option maxHeartbeats 1000000 in
theorem CheckHeading_any (h : Hdg) (w : World) :
    Calls Tryz.prog 20 #[.agg #[.int .i64 h.p, .int .i64 h.q, .int .i64 h.c]] w fun e w' => e = .returned (.int .i64 (chkHdg h)) ∧ Below w.heap.size w w' := by
  have hw1 := fun W => within_any h.c 1 1000 W
  have hw2 := fun W => within_any h.p (-h.c) h.c W
  have hw3 := fun W => within_any h.q (-h.c) h.c W
  have hv : Hid (chkHdg h = if okHdg h = true then 0 else 35) := rfl
  have hu : Hid (okHdg h = decide (1 ≤ h.c ∧ h.c ≤ 1000 ∧ -h.c ≤ h.p ∧ h.p ≤ h.c ∧ -h.c ≤ h.q ∧ h.q ≤ h.c ∧ h.p * h.p + h.q * h.q = h.c * h.c)) := rfl
  by_cases c1 : 1 ≤ h.c ∧ h.c ≤ 1000
  · simp only [decide_eq_true c1] at hw1
    by_cases c2 : -h.c ≤ h.p ∧ h.p ≤ h.c
    · simp only [decide_eq_true c2] at hw2
      by_cases c3 : -h.c ≤ h.q ∧ h.q ≤ h.c
      · simp only [decide_eq_true c3] at hw3
        have p1 : h.p * h.p ≤ 1000 * 1000 := by
          rcases Int.le_total 0 h.p with g | g
          · exact sq_le g (by omega)
          · have := sq_le (show 0 ≤ -h.p by omega) (show -h.p ≤ 1000 by omega); rwa [Int.neg_mul_neg] at this
        have p2 : h.q * h.q ≤ 1000 * 1000 := by
          rcases Int.le_total 0 h.q with g | g
          · exact sq_le g (by omega)
          · have := sq_le (show 0 ≤ -h.q by omega) (show -h.q ≤ 1000 by omega); rwa [Int.neg_mul_neg] at this
        have p3 : h.c * h.c ≤ 1000 * 1000 := sq_le (by omega) (by omega)
        have p4 : 0 ≤ h.p * h.p := by rcases Int.le_total 0 h.p with g | g; exact Int.mul_nonneg g g; exact Int.mul_nonneg_of_nonpos_of_nonpos g g
        have p5 : 0 ≤ h.q * h.q := by rcases Int.le_total 0 h.q with g | g; exact Int.mul_nonneg g g; exact Int.mul_nonneg_of_nonpos_of_nonpos g g
        have p6 : 0 ≤ h.c * h.c := Int.mul_nonneg (by omega) (by omega)
        have t1 := IntWalk.i64_in (h.p * h.p) (by omega)
        have t2 := IntWalk.i64_in (h.q * h.q) (by omega)
        have t3 := IntWalk.i64_in (h.c * h.c) (by omega)
        have t4 := IntWalk.i64_in (h.p * h.p + h.q * h.q) (by omega)
        have t5 := IntWalk.i64_in (-h.c) (by omega)
        by_cases c4 : h.p * h.p + h.q * h.q = h.c * h.c
        · replace c1 := Lib.hid c1
          replace c2 := Lib.hid c2
          replace c3 := Lib.hid c3
          have c4' : (h.p * h.p + h.q * h.q != h.c * h.c) = false := by simp [c4]
          replace c4 := Lib.hid c4
          go_enter Tryz.func20, Tryz.ntmps20
          go_wp2_with fail
          refine (hw1 _).mono ?_
          rintro e w' ⟨rfl, rfl⟩
          go_wp2_with fail
          refine (hw2 _).mono ?_
          rintro e w' ⟨rfl, rfl⟩
          go_wp2_with fail
          refine (hw3 _).mono ?_
          rintro e w' ⟨rfl, rfl⟩
          go_wp2
          go_ret
          exact ⟨ret_int (by rw [hv.out, hu.out, if_pos (by have := c1.out; have := c2.out; have := c3.out; have := c4.out; simp; omega)]), (Below.refl _ _).alloc (Nat.le_refl _) _⟩
        · replace c1 := Lib.hid c1
          replace c2 := Lib.hid c2
          replace c3 := Lib.hid c3
          have c4' : (h.p * h.p + h.q * h.q != h.c * h.c) = true := by simp [c4]
          replace c4 := Lib.hid c4
          go_enter Tryz.func20, Tryz.ntmps20
          go_wp2_with fail
          refine (hw1 _).mono ?_
          rintro e w' ⟨rfl, rfl⟩
          go_wp2_with fail
          refine (hw2 _).mono ?_
          rintro e w' ⟨rfl, rfl⟩
          go_wp2_with fail
          refine (hw3 _).mono ?_
          rintro e w' ⟨rfl, rfl⟩
          go_wp2
          go_ret
          exact ⟨ret_int (by rw [hv.out, hu.out, if_neg (by have := c4.out; simp; omega)]), (Below.refl _ _).alloc (Nat.le_refl _) _⟩
      · simp only [decide_eq_false c3] at hw3
        have t5 := IntWalk.i64_in (-h.c) (by omega)
        replace c1 := Lib.hid c1
        replace c2 := Lib.hid c2
        replace c3 := Lib.hid c3
        go_enter Tryz.func20, Tryz.ntmps20
        go_wp2_with fail
        refine (hw1 _).mono ?_
        rintro e w' ⟨rfl, rfl⟩
        go_wp2_with fail
        refine (hw2 _).mono ?_
        rintro e w' ⟨rfl, rfl⟩
        go_wp2_with fail
        refine (hw3 _).mono ?_
        rintro e w' ⟨rfl, rfl⟩
        go_wp2
        go_ret
        exact ⟨ret_int (by rw [hv.out, hu.out, if_neg (by have := c3.out; simp; omega)]), (Below.refl _ _).alloc (Nat.le_refl _) _⟩
    · simp only [decide_eq_false c2] at hw2
      have t5 := IntWalk.i64_in (-h.c) (by omega)
      replace c1 := Lib.hid c1
      replace c2 := Lib.hid c2
      go_enter Tryz.func20, Tryz.ntmps20
      go_wp2_with fail
      refine (hw1 _).mono ?_
      rintro e w' ⟨rfl, rfl⟩
      go_wp2_with fail
      refine (hw2 _).mono ?_
      rintro e w' ⟨rfl, rfl⟩
      go_wp2
      go_ret
      exact ⟨ret_int (by rw [hv.out, hu.out, if_neg (by have := c2.out; simp; omega)]), (Below.refl _ _).alloc (Nat.le_refl _) _⟩
  · simp only [decide_eq_false c1] at hw1
    replace c1 := Lib.hid c1
    go_enter Tryz.func20, Tryz.ntmps20
    go_wp2_with fail
    refine (hw1 _).mono ?_
    rintro e w' ⟨rfl, rfl⟩
    go_wp2
    go_ret
    exact ⟨ret_int (by rw [hv.out, hu.out, if_neg (by have := c1.out; simp; omega)]), (Below.refl _ _).alloc (Nat.le_refl _) _⟩
end Go.Proofs.YtjiaepphnddpoaaGreat
