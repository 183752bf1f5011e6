/-
  Walks: shortest, floor, ceil, CheckHeading, extremes.
  Walks: the least and the greatest value of an expression in a region.
-/
import Derived.Test.YthjdjpcomocffaaGreatG7
import Derived.Test.YthjdjpcomocffaaGreatW1
import Derived.Deep.QuietTactic
namespace Go.Proofs.YthjdjpcomocffaaGreat
open Go.RowKit Go.Shelf

set_option maxHeartbeats 1000000 in
theorem shortest_any (len m : Int) (w : World) (h1 : 0 ≤ len) (h2 : len ≤ 1000) (h3 : 0 ≤ m) (h4 : m ≤ 100000) :
    Calls Tryz.prog 78 #[.int .i64 len, .int .i64 m] w fun e w' => e = .returned (.int .i64 (shortS len m)) ∧ w = w' := by
  have hmin := min2_int
  have m1 : min m len * min m len ≤ len * len := sq_le (by omega) (by omega)
  have m2 : len * len ≤ 1000 * 1000 := sq_le h1 h2
  have m3 : 0 ≤ min m len * min m len := Int.mul_nonneg (by omega) (by omega)
  have hv : Hid (shortS len m = rootS (len * len - min m len * min m len)) := rfl
  have t1 := IntWalk.i64_in (len * len) (by omega)
  have t2 := IntWalk.i64_in (min m len * min m len) (by omega)
  have t3 := IntWalk.i64_in (len * len - min m len * min m len) (by omega)
  have hroot := fun W => Root_any (len * len - min m len * min m len) W (by omega) (by omega)
  replace m1 := Lib.hid m1
  replace m2 := Lib.hid m2
  replace m3 := Lib.hid m3
  go_enter Tryz.func78, Tryz.ntmps78
  go_wp2_with (go_at_call 94; refine (hroot _).mono ?_; rintro e w' ⟨rfl, rfl⟩)
  go_ret
  exact ⟨ret_int hv.out.symm, rfl⟩
set_option maxHeartbeats 1000000 in
theorem floor_any (a b : Int) (w : World) (h1 : -1000000000000 ≤ a) (h2 : a ≤ 1000000000000) (h3 : 1 ≤ b) (h4 : b ≤ 1000000) :
    Calls Tryz.prog 75 #[.int .i64 a, .int .i64 b] w fun e w' => e = .returned (.int .i64 (floorS a b)) ∧ w = w' := by
  obtain ⟨s1, s2, s3, s4, s5⟩ := tdiv_spec a b (by omega)
  have hq : a.tdiv b ≤ 2000000000000 ∧ -2000000000000 ≤ a.tdiv b := by
    rcases Int.le_total 0 (a.tdiv b) with h | h
    · have := Int.mul_le_mul_of_nonneg_right h3 h
      omega
    · have := Int.mul_le_mul_of_nonpos_right h3 h
      omega
  obtain ⟨q1, q2⟩ := hq
  by_cases hn : a.tmod b < 0
  · have e : Hid (floorS a b = a.tdiv b - 1) := ediv_of a b (a.tdiv b - 1) (a.tmod b + b) (by omega) (by rw [Int.mul_sub]; omega) (by omega) (by omega)
    have t1 := IntWalk.i64_in (a.tdiv b - 1) (by omega)
    clear s1 s2 s3 s4 s5
    go_enter Tryz.func75, Tryz.ntmps75
    go_wp2
    go_ret
    exact ⟨ret_int e.out.symm, rfl⟩
  · have e : Hid (floorS a b = a.tdiv b) := ediv_of a b (a.tdiv b) (a.tmod b) (by omega) (by omega) (by omega) (by omega)
    clear s1 s2 s3 s4 s5
    go_enter Tryz.func75, Tryz.ntmps75
    go_wp2
    go_ret
    exact ⟨ret_int e.out.symm, rfl⟩
set_option maxHeartbeats 400000 in
theorem ceil_any (a b : Int) (w : World) (h1 : -1000000000000 ≤ a) (h2 : a ≤ 1000000000000) (h3 : 1 ≤ b) (h4 : b ≤ 1000000) :
    Calls Tryz.prog 76 #[.int .i64 a, .int .i64 b] w fun e w' => e = .returned (.int .i64 (ceilS a b)) ∧ w = w' := by
  have hfl := fun W => floor_any (-a) b W (by omega) (by omega) h3 h4
  have e : Hid (ceilS a b = -floorS (-a) b) := rfl
  have hb : -2000000000000 ≤ floorS (-a) b ∧ floorS (-a) b ≤ 2000000000000 := by
    unfold floorS
    have e1 := Int.mul_ediv_add_emod (-a) b
    have e2 := Int.emod_nonneg (-a) (b := b) (by omega)
    have e3 := Int.emod_lt_of_pos (-a) (b := b) (by omega)
    rcases Int.le_total 0 ((-a) / b) with h | h
    · have := Int.mul_le_mul_of_nonneg_right h3 h
      omega
    · have := Int.mul_le_mul_of_nonpos_right h3 h
      omega
  go_enter Tryz.func76, Tryz.ntmps76
  go_wp2_with (go_at_call 75; refine (hfl _).mono ?_; rintro e w' ⟨rfl, rfl⟩)
  go_ret
  exact ⟨ret_int (by rw [‹Hid (ceilS a b = _)›.out]), rfl⟩
set_option maxRecDepth 100000 in
set_option maxHeartbeats 1000000 in
theorem CheckHeading_any (h : Hdg) (w : World) :
    Calls Tryz.prog 15 #[.agg #[.int .i64 h.p, .int .i64 h.q, .int .i64 h.c]] w fun e w' => e = .returned (.int .i64 (chkHdg h)) ∧ Below w.heap.size w w' := by
  have hw1 := fun W => within_any h.c 1 1000 W
  have hw2 := fun W => within_any h.p (-h.c) h.c W
  have hw3 := fun W => within_any h.q (-h.c) h.c W
  have hv : Hid (chkHdg h = if okHdg h = true then 0 else 35) := rfl
  have hu : Hid (okHdg h = decide (1 ≤ h.c ∧ h.c ≤ 1000 ∧ -h.c ≤ h.p ∧ h.p ≤ h.c ∧ -h.c ≤ h.q ∧ h.q ≤ h.c ∧ h.p * h.p + h.q * h.q = h.c * h.c)) := rfl
  by_cases c1 : 1 ≤ h.c ∧ h.c ≤ 1000
  · simp only [decide_eq_true c1] at hw1
    by_cases c2 : -h.c ≤ h.p ∧ h.p ≤ h.c
    · simp only [decide_eq_true c2] at hw2
      by_cases c3 : -h.c ≤ h.q ∧ h.q ≤ h.c
      · simp only [decide_eq_true c3] at hw3
        have p1 : h.p * h.p ≤ 1000 * 1000 := by
          rcases Int.le_total 0 h.p with g | g
          · exact sq_le g (by omega)
          · have := sq_le (show 0 ≤ -h.p by omega) (show -h.p ≤ 1000 by omega); rwa [Int.neg_mul_neg] at this
        have p2 : h.q * h.q ≤ 1000 * 1000 := by
          rcases Int.le_total 0 h.q with g | g
          · exact sq_le g (by omega)
          · have := sq_le (show 0 ≤ -h.q by omega) (show -h.q ≤ 1000 by omega); rwa [Int.neg_mul_neg] at this
        have p3 : h.c * h.c ≤ 1000 * 1000 := sq_le (by omega) (by omega)
        have p4 : 0 ≤ h.p * h.p := by rcases Int.le_total 0 h.p with g | g; exact Int.mul_nonneg g g; exact Int.mul_nonneg_of_nonpos_of_nonpos g g
        have p5 : 0 ≤ h.q * h.q := by rcases Int.le_total 0 h.q with g | g; exact Int.mul_nonneg g g; exact Int.mul_nonneg_of_nonpos_of_nonpos g g
        have p6 : 0 ≤ h.c * h.c := Int.mul_nonneg (by omega) (by omega)
        have t1 := IntWalk.i64_in (h.p * h.p) (by omega)
        have t2 := IntWalk.i64_in (h.q * h.q) (by omega)
        have t3 := IntWalk.i64_in (h.c * h.c) (by omega)
        have t4 := IntWalk.i64_in (h.p * h.p + h.q * h.q) (by omega)
        have t5 := IntWalk.i64_in (-h.c) (by omega)
        by_cases c4 : h.p * h.p + h.q * h.q = h.c * h.c
        · replace c1 := Lib.hid c1
          replace c2 := Lib.hid c2
          replace c3 := Lib.hid c3
          have c4' : (h.p * h.p + h.q * h.q != h.c * h.c) = false := by simp [c4]
          replace c4 := Lib.hid c4
          go_enter Tryz.func15, Tryz.ntmps15
          go_wp2_with fail
          refine (hw1 _).mono ?_
          rintro e w' ⟨rfl, rfl⟩
          go_wp2_with fail
          refine (hw2 _).mono ?_
          rintro e w' ⟨rfl, rfl⟩
          go_wp2_with fail
          refine (hw3 _).mono ?_
          rintro e w' ⟨rfl, rfl⟩
          go_wp2
          go_ret
          exact ⟨ret_int (by rw [hv.out, hu.out, if_pos (by have := c1.out; have := c2.out; have := c3.out; have := c4.out; simp; omega)]), (Below.refl _ _).alloc (Nat.le_refl _) _⟩
        · replace c1 := Lib.hid c1
          replace c2 := Lib.hid c2
          replace c3 := Lib.hid c3
          have c4' : (h.p * h.p + h.q * h.q != h.c * h.c) = true := by simp [c4]
          replace c4 := Lib.hid c4
          go_enter Tryz.func15, Tryz.ntmps15
          go_wp2_with fail
          refine (hw1 _).mono ?_
          rintro e w' ⟨rfl, rfl⟩
          go_wp2_with fail
          refine (hw2 _).mono ?_
          rintro e w' ⟨rfl, rfl⟩
          go_wp2_with fail
          refine (hw3 _).mono ?_
          rintro e w' ⟨rfl, rfl⟩
          go_wp2
          go_ret
          exact ⟨ret_int (by rw [hv.out, hu.out, if_neg (by have := c4.out; simp; omega)]), (Below.refl _ _).alloc (Nat.le_refl _) _⟩
      · simp only [decide_eq_false c3] at hw3
        have t5 := IntWalk.i64_in (-h.c) (by omega)
        replace c1 := Lib.hid c1
        replace c2 := Lib.hid c2
        replace c3 := Lib.hid c3
        go_enter Tryz.func15, Tryz.ntmps15
        go_wp2_with fail
        refine (hw1 _).mono ?_
        rintro e w' ⟨rfl, rfl⟩
        go_wp2_with fail
        refine (hw2 _).mono ?_
        rintro e w' ⟨rfl, rfl⟩
        go_wp2_with fail
        refine (hw3 _).mono ?_
        rintro e w' ⟨rfl, rfl⟩
        go_wp2
        go_ret
        exact ⟨ret_int (by rw [hv.out, hu.out, if_neg (by have := c3.out; simp; omega)]), (Below.refl _ _).alloc (Nat.le_refl _) _⟩
    · simp only [decide_eq_false c2] at hw2
      have t5 := IntWalk.i64_in (-h.c) (by omega)
      replace c1 := Lib.hid c1
      replace c2 := Lib.hid c2
      go_enter Tryz.func15, Tryz.ntmps15
      go_wp2_with fail
      refine (hw1 _).mono ?_
      rintro e w' ⟨rfl, rfl⟩
      go_wp2_with fail
      refine (hw2 _).mono ?_
      rintro e w' ⟨rfl, rfl⟩
      go_wp2
      go_ret
      exact ⟨ret_int (by rw [hv.out, hu.out, if_neg (by have := c2.out; simp; omega)]), (Below.refl _ _).alloc (Nat.le_refl _) _⟩
  · simp only [decide_eq_false c1] at hw1
    replace c1 := Lib.hid c1
    go_enter Tryz.func15, Tryz.ntmps15
    go_wp2_with fail
    refine (hw1 _).mono ?_
    rintro e w' ⟨rfl, rfl⟩
    go_wp2
    go_ret
    exact ⟨ret_int (by rw [hv.out, hu.out, if_neg (by have := c1.out; simp; omega)]), (Below.refl _ _).alloc (Nat.le_refl _) _⟩
end Go.Proofs.YthjdjpcomocffaaGreat
namespace Go.Proofs.YthjdjpcomocffaaGreat
open Go.RowKit Go.Shelf

theorem smul_bd {a b A B : Int} (h1 : -A ≤ a) (h2 : a ≤ A) (h3 : -B ≤ b) (h4 : b ≤ B) : -(A * B) ≤ a * b ∧ a * b ≤ A * B := by
  have hA : 0 ≤ A := by omega
  have hB : 0 ≤ B := by omega
  rcases Int.le_total 0 a with ha | ha <;> rcases Int.le_total 0 b with hb | hb
  · have := Int.mul_le_mul h2 h4 hb hA
    have := Int.mul_nonneg ha hb
    have := Int.mul_nonneg hA hB
    omega
  · have h := Int.mul_le_mul h2 (show -b ≤ B by omega) (by omega) hA
    have h0 := Int.mul_nonneg ha (show 0 ≤ -b by omega)
    have := Int.mul_nonneg hA hB
    rw [Int.mul_neg] at h h0
    omega
  · have h := Int.mul_le_mul (show -a ≤ A by omega) h4 hb hA
    have h0 := Int.mul_nonneg (show 0 ≤ -a by omega) hb
    have := Int.mul_nonneg hA hB
    rw [Int.neg_mul] at h h0
    omega
  · have h := Int.mul_le_mul (show -a ≤ A by omega) (show -b ≤ B by omega) (by omega) hA
    have h0 := Int.mul_nonneg (show 0 ≤ -a by omega) (show 0 ≤ -b by omega)
    have := Int.mul_nonneg hA hB
    rw [Int.neg_mul_neg] at h h0
    omega
def optB (o : Option Bnd) : Bnd := o.getD ⟨0, 0⟩
theorem extO_app (l : List RRow) (w : RRow) (p q : Int) : extO (l ++ [w]) p q = addE (extO l p q) (p * w.x + q * w.fr, p * w.x + q * w.to) := by
  unfold extO
  rw [List.foldl_append]
  rfl
set_option maxRecDepth 100000 in
set_option maxHeartbeats 2000000 in
theorem extremes_any (r : Reg) (p q : Int) (w : World) (hr : okReg r = true) (hp : -2000 ≤ p ∧ p ≤ 2000) (hq : -2000 ≤ q ∧ q ≤ 2000) :
    Calls Tryz.prog 74 #[.agg (regA r), .int .i64 p, .int .i64 q] w fun e w' => e = .returned (.agg #[.int .i64 (extB r p q).lo, .int .i64 (extB r p q).hi]) ∧ Below w.heap.size w w' := by
  have hmax := max3_int
  have hmin := min3_int
  simp only [okReg, Bool.and_eq_true, okBnd, decide_eq_true_eq] at hr
  obtain ⟨⟨⟨⟨x1, x2, x3⟩, ⟨y1, y2, y3⟩⟩, ⟨s1, s2, s3⟩⟩, ⟨d1, d2, d3⟩⟩ := hr
  obtain ⟨p1, p2⟩ := hp
  obtain ⟨q1, q2⟩ := hq
  simp only [regA]
  go_enter Tryz.func74, Tryz.ntmps74
  go_wp2_with fail
  go_loopw [8, 9] (fun s x wr => ∃ j : Nat, x = .int .i64 (r.x.lo + j) ∧ j ≤ nX r ∧ s = .bool (extO (rowsTo r j) p q).isSome ∧ Blk wr w.heap.size 58 (regA r) ∧ Blk wr (w.heap.size + 1) 24 #[.int .i64 0, .int .i64 0] ∧ Blk wr (w.heap.size + 1 + 1) 24 #[.int .i64 (optB (extO (rowsTo r j) p q)).lo, .int .i64 (optB (extO (rowsTo r j) p q)).hi] ∧ Below w.heap.size w wr) (fun s x wr => (r.x.hi + 1 - intOf x).toNat)
  case atStart =>
    exact ⟨0, by simp, Nat.zero_le _, rfl, ((Blk.newAt rfl).alloc _).alloc _, (Blk.newAt (by simp)).alloc _, Blk.newAt (by simp), (((Below.refl w.heap.size w).alloc (Nat.le_refl _) _).alloc (by simp) _).alloc (by simp; omega) _⟩
  case round =>
    obtain ⟨j, rfl, hj, rfl, k3, k6, k7, hb⟩ := hrel
    have hjx : j < nX r ↔ r.x.lo + j ≤ r.x.hi := by unfold nX; omega
    by_cases hlt : r.x.lo + j ≤ r.x.hi
    · have hj1 := Lib.hid (hjx.2 hlt)
      replace hj := Lib.hid hj
      have hstep := Lib.hid (rowsTo_succ r j)
      have e1 : Hid ((rowB r (r.x.lo + j)).fr = max r.y.lo (max (r.s.lo - (r.x.lo + j)) (r.x.lo + j - r.d.hi))) := rfl
      have e2 : Hid ((rowB r (r.x.lo + j)).to = min r.y.hi (min (r.s.hi - (r.x.lo + j)) (r.x.lo + j - r.d.lo))) := rfl
      have e3 : Hid ((rowB r (r.x.lo + j)).x = r.x.lo + j) := rfl
      clear hjx
      generalize rowB r (r.x.lo + j) = v at *
      generalize hx : r.x.lo + (j : Int) = x at *
      have hxb : -32768 ≤ x ∧ x ≤ 32768 := by omega
      have e1r := e1.out.symm
      have e2r := e2.out.symm
      have t1 := IntWalk.i64_in (r.s.lo - x) (by omega)
      have t2 := IntWalk.i64_in (x - r.d.hi) (by omega)
      have t3 := IntWalk.i64_in (r.s.hi - x) (by omega)
      have t4 := IntWalk.i64_in (x - r.d.lo) (by omega)
      have t5 := IntWalk.i64_in (x + 1) (by omega)
      have hfr : -32768 ≤ v.fr ∧ v.to ≤ 32768 := by omega
      replace hx := Lib.hid hx
      simp only [regA] at k3
      obtain ⟨c3, f3, l3⟩ := k3.rules
      obtain ⟨o, ho⟩ : ∃ o, extO (rowsTo r j) p q = o := ⟨_, rfl⟩
      rw [ho] at k7 ⊢
      replace ho := Lib.hid ho
      go_wp2_with fail
      go_quiet (fail)
      clear c3 f3 l3
      have k3d := k3.drewN nq
      have k6d := k6.drewN nq
      have k7d := k7.drewN nq
      have hbd := below_drewN hb nq
      clear k3 k6 k7 hb
      generalize wr.drewN nq = W at *
      by_cases hv : v.fr ≤ v.to
      · rw [if_pos hv] at hstep
        have ha := smul_bd p1 p2 hxb.1 hxb.2
        have hb1 := smul_bd q1 q2 (show -32768 ≤ v.fr by omega) (show v.fr ≤ 32768 by omega)
        have hb2 := smul_bd q1 q2 (show -32768 ≤ v.to by omega) (show v.to ≤ 32768 by omega)
        have u1 := IntWalk.i64_in (p * x) (by omega)
        have u2 := IntWalk.i64_in (q * v.fr) (by omega)
        have u3 := IntWalk.i64_in (q * v.to) (by omega)
        have u4 := IntWalk.i64_in (p * x + q * v.fr) (by omega)
        have u5 := IntWalk.i64_in (p * x + q * v.to) (by omega)
        have hext : Hid (extO (rowsTo r (j + 1)) p q = addE o (p * x + q * v.fr, p * x + q * v.to)) := by
          show _ = _
          rw [hstep.out, extO_app, ho.out, e3.out]
        have hv' : ¬ v.to < v.fr := by omega
        clear ha hb1 hb2
        obtain ⟨a, hA⟩ : ∃ a, p * x + q * v.fr = a := ⟨_, rfl⟩
        obtain ⟨b, hB⟩ : ∃ b, p * x + q * v.to = b := ⟨_, rfl⟩
        replace u4 : IntKind.i64.wrap (p * x + q * v.fr) = a := u4.trans hA
        replace u5 : IntKind.i64.wrap (p * x + q * v.to) = b := u5.trans hB
        rw [hA, hB] at hext
        clear hA hB
        cases o with
        | none =>
          have hm1 : Hid (min (a) (min (a) (b)) = min (a) (b)) := by show _ = _; omega
          have hm2 : Hid (max (a) (max (a) (b)) = max (a) (b)) := by show _ = _; omega
          simp only [optB, Option.getD_none, Option.isSome_none] at k7d ⊢
          obtain ⟨c7, f7, l7⟩ := k7d.rules
          go_wp2_with fail
          clear c7 f7 l7
          go_roundw
          case rel =>
            refine ⟨j + 1, by rw [← hx.out]; congr 1; push_cast; omega, hj1.out, by rw [hext.out]; rfl, (((k3d.far (by dsimp only; omega) _).far (by dsimp only; omega) _).far (by dsimp only; omega) _).far (by dsimp only; omega) _, (((k6d.far (by dsimp only; omega) _).far (by dsimp only; omega) _).far (by dsimp only; omega) _).far (by dsimp only; omega) _, ?_, ((((hbd.setCell (p := ⟨w.heap.size + 1 + 1, 0, none⟩) (by dsimp only; omega) _).setCell (p := ⟨w.heap.size + 1 + 1, 1, none⟩) (by dsimp only; omega) _).setCell (p := ⟨w.heap.size + 1 + 1, 0, none⟩) (by dsimp only; omega) _).setCell (p := ⟨w.heap.size + 1 + 1, 1, none⟩) (by dsimp only; omega) _)⟩
            rw [hext.out]
            simp only [addE]
            rw [hm1.out, hm2.out]
            exact (((k7d.set_ 0 _).set_ 1 _).set_ 0 _).set_ 1 _
          case measure => simp [intOf]; omega
        | some B =>
          simp only [optB, Option.getD_some, Option.isSome_some] at k7d ⊢
          obtain ⟨c7, f7, l7⟩ := k7d.rules
          go_wp2_with fail
          clear c7 f7 l7
          go_roundw
          case rel =>
            refine ⟨j + 1, by rw [← hx.out]; congr 1; push_cast; omega, hj1.out, by rw [hext.out]; rfl, (k3d.far (by dsimp only; omega) _).far (by dsimp only; omega) _, (k6d.far (by dsimp only; omega) _).far (by dsimp only; omega) _, ?_, ((hbd.setCell (p := ⟨w.heap.size + 1 + 1, 0, none⟩) (by dsimp only; omega) _).setCell (p := ⟨w.heap.size + 1 + 1, 1, none⟩) (by dsimp only; omega) _)⟩
            rw [hext.out]
            exact (k7d.set_ 0 _).set_ 1 _
          case measure => simp [intOf]; omega
      · rw [if_neg hv, List.append_nil] at hstep
        have hv' : v.to < v.fr := by omega
        go_wp2_with fail
        go_roundw
        case rel =>
          refine ⟨j + 1, by rw [← hx.out]; congr 1; push_cast; omega, hj1.out, ?_, k3d, k6d, ?_, hbd⟩
          · rw [hstep.out, ho.out]
          · rw [hstep.out, ho.out]; exact k7d
        case measure => simp [intOf]; omega
    · obtain rfl : j = nX r := by have : ¬ j < nX r := fun h => hlt (hjx.1 h); omega
      have hv : Hid (optB (extO (rowsTo r (nX r)) p q) = extB r p q) := rfl
      rw [hv.out] at k7
      clear hjx hj
      simp only [regA] at k3
      obtain ⟨c3, f3, l3⟩ := k3.rules
      obtain ⟨c7, f7, l7⟩ := k7.rules
      have kz := (k6.set_ 0 (.int .i64 (extB r p q).lo)).set_ 1 (.int .i64 (extB r p q).hi)
      have bz := (hb.setCell (p := ⟨w.heap.size + 1, 0, none⟩) (by dsimp only; omega) (.int .i64 (extB r p q).lo)).setCell (p := ⟨w.heap.size + 1, 1, none⟩) (by dsimp only; omega) (.int .i64 (extB r p q).hi)
      obtain ⟨wz, hwz⟩ : ∃ x, x = (wr.setCell ⟨w.heap.size + 1, 0, none⟩ (.int .i64 (extB r p q).lo)).setCell ⟨w.heap.size + 1, 1, none⟩ (.int .i64 (extB r p q).hi) := ⟨_, rfl⟩
      rw [← hwz] at kz bz
      obtain ⟨c6, f6, l6⟩ := k6.rules
      go_wp2
      rw [← hwz]
      clear hwz c3 f3 l3 c6 f6 l6 c7 f7 l7
      obtain ⟨c6, f6, l6⟩ := kz.rules
      exact bodyPost_ret (v := .agg #[.int .i64 (extB r p q).lo, .int .i64 (extB r p q).hi]) (by simp [results, Tryz.results74, go_sem, c6]) rfl ⟨rfl, bz⟩
end Go.Proofs.YthjdjpcomocffaaGreat
