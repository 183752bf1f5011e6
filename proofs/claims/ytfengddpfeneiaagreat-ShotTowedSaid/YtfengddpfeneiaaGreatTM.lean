/-
  Walks: shortest, floor, ceil, CheckHeading, extremes.
  Walks: the least and the greatest value of an expression in a region.
  The specification's package: numbers, Check.
  The specification's package: a step of offsets.
  The specification's package: a step of offsets, its loop.
  The specification's package: the ends of bounds, and so many times a number.
  The specification's package: the error of a streamer with bounds; the bounds after a step.
  The specification's package: the bounds after a step, walked.
  Small helpers of the statements: a number out of a list, numbers within bounds.
  Plain laws of steps: what is greater before a step is not less after it; what lies in bounds lies in those after a step. Nothing of the program stands here.
  The plain law of the fastest plan: it keeps the limits, none that keeps them is faster, and none as fast comes before it. Nothing of the program stands here.
  The plain law of the search through all plans: what it finds is the fastest plan. Nothing of the program stands here.
  Plain laws of regions: what a tight region has. Nothing of the program stands here.
  Small helpers of the statements: drifts, sums, lists compared, a list of one's own.
  Plain laws of the steps of a streamer within bounds. Nothing of the program stands here.
  Walks: the regions of all nodes.
  Walks: a region that is turned.
  Walks: Turned.
  Plain laws of nodes that lie straight, and of turned regions. Nothing of the program stands here.
  Walks in region: CheckPoint, first, inside, Has (of a place that lies in the region), Move.
  Walks: where the nodes are in the plane.
-/
import Derived.Test.YtfengddpfeneiaaGreatTG
import Derived.Test.YtfengddpfeneiaaGreatTW
import Derived.Deep.QuietTactic
import Derived.Test.YtfengddpfeneiaaGreatBase
import Derived.Deep.AppendLies
import Derived.ChangeKeysEq
namespace Go.Proofs.YtfengddpfeneiaaGreat
open Go.RowKit Go.Shelf

set_option maxHeartbeats 1000000 in
theorem shortest_any (len m : Int) (w : World) (h1 : 0 ≤ len) (h2 : len ≤ 1000) (h3 : 0 ≤ m) (h4 : m ≤ 100000) :
    Calls Tryz.prog 119 #[.int .i64 len, .int .i64 m] w fun e w' => e = .returned (.int .i64 (shortS len m)) ∧ w = w' := by
  have hmin := min2_int
  have m1 : min m len * min m len ≤ len * len := sq_le (by omega) (by omega)
  have m2 : len * len ≤ 1000 * 1000 := sq_le h1 h2
  have m3 : 0 ≤ min m len * min m len := Int.mul_nonneg (by omega) (by omega)
  have hv : Hid (shortS len m = rootS (len * len - min m len * min m len)) := rfl
  have t1 := IntWalk.i64_in (len * len) (by omega)
  have t2 := IntWalk.i64_in (min m len * min m len) (by omega)
  have t3 := IntWalk.i64_in (len * len - min m len * min m len) (by omega)
  have hroot := fun W => Root_any (len * len - min m len * min m len) W (by omega) (by omega)
  replace m1 := Lib.hid m1
  replace m2 := Lib.hid m2
  replace m3 := Lib.hid m3
  go_enter Tryz.func119, Tryz.ntmps119
  go_wp2_with (go_at_call 147; refine (hroot _).mono ?_; rintro e w' ⟨rfl, rfl⟩)
  go_ret
  exact ⟨ret_int hv.out.symm, rfl⟩
set_option maxHeartbeats 1000000 in
theorem floor_any (a b : Int) (w : World) (h1 : -1000000000000 ≤ a) (h2 : a ≤ 1000000000000) (h3 : 1 ≤ b) (h4 : b ≤ 1000000) :
    Calls Tryz.prog 122 #[.int .i64 a, .int .i64 b] w fun e w' => e = .returned (.int .i64 (floorS a b)) ∧ w = w' := by
  obtain ⟨s1, s2, s3, s4, s5⟩ := tdiv_spec a b (by omega)
  have hq : a.tdiv b ≤ 2000000000000 ∧ -2000000000000 ≤ a.tdiv b := by
    rcases Int.le_total 0 (a.tdiv b) with h | h
    · have := Int.mul_le_mul_of_nonneg_right h3 h
      omega
    · have := Int.mul_le_mul_of_nonpos_right h3 h
      omega
  obtain ⟨q1, q2⟩ := hq
  by_cases hn : a.tmod b < 0
  · have e : Hid (floorS a b = a.tdiv b - 1) := ediv_of a b (a.tdiv b - 1) (a.tmod b + b) (by omega) (by rw [Int.mul_sub]; omega) (by omega) (by omega)
    have t1 := IntWalk.i64_in (a.tdiv b - 1) (by omega)
    clear s1 s2 s3 s4 s5
    go_enter Tryz.func122, Tryz.ntmps122
    go_wp2
    go_ret
    exact ⟨ret_int e.out.symm, rfl⟩
  · have e : Hid (floorS a b = a.tdiv b) := ediv_of a b (a.tdiv b) (a.tmod b) (by omega) (by omega) (by omega) (by omega)
    clear s1 s2 s3 s4 s5
    go_enter Tryz.func122, Tryz.ntmps122
    go_wp2
    go_ret
    exact ⟨ret_int e.out.symm, rfl⟩
set_option maxHeartbeats 400000 in
theorem ceil_any (a b : Int) (w : World) (h1 : -1000000000000 ≤ a) (h2 : a ≤ 1000000000000) (h3 : 1 ≤ b) (h4 : b ≤ 1000000) :
    Calls Tryz.prog 123 #[.int .i64 a, .int .i64 b] w fun e w' => e = .returned (.int .i64 (ceilS a b)) ∧ w = w' := by
  have hfl := fun W => floor_any (-a) b W (by omega) (by omega) h3 h4
  have e : Hid (ceilS a b = -floorS (-a) b) := rfl
  have hb : -2000000000000 ≤ floorS (-a) b ∧ floorS (-a) b ≤ 2000000000000 := by
    unfold floorS
    have e1 := Int.mul_ediv_add_emod (-a) b
    have e2 := Int.emod_nonneg (-a) (b := b) (by omega)
    have e3 := Int.emod_lt_of_pos (-a) (b := b) (by omega)
    rcases Int.le_total 0 ((-a) / b) with h | h
    · have := Int.mul_le_mul_of_nonneg_right h3 h
      omega
    · have := Int.mul_le_mul_of_nonpos_right h3 h
      omega
  go_enter Tryz.func123, Tryz.ntmps123
  go_wp2_with (go_at_call 122; refine (hfl _).mono ?_; rintro e w' ⟨rfl, rfl⟩)
  go_ret
  exact ⟨ret_int (by rw [‹Hid (ceilS a b = _)›.out]), rfl⟩
set_option maxRecDepth 100000 in
set_option maxHeartbeats 1000000 in
theorem CheckHeading_any (h : Hdg) (w : World) :
    Calls Tryz.prog 24 #[.agg #[.int .i64 h.p, .int .i64 h.q, .int .i64 h.c]] w fun e w' => e = .returned (.int .i64 (chkHdg h)) ∧ Below w.heap.size w w' := by
  have hw1 := fun W => within_any h.c 1 1000 W
  have hw2 := fun W => within_any h.p (-h.c) h.c W
  have hw3 := fun W => within_any h.q (-h.c) h.c W
  have hv : Hid (chkHdg h = if okHdg h = true then 0 else 35) := rfl
  have hu : Hid (okHdg h = decide (1 ≤ h.c ∧ h.c ≤ 1000 ∧ -h.c ≤ h.p ∧ h.p ≤ h.c ∧ -h.c ≤ h.q ∧ h.q ≤ h.c ∧ h.p * h.p + h.q * h.q = h.c * h.c)) := rfl
  by_cases c1 : 1 ≤ h.c ∧ h.c ≤ 1000
  · simp only [decide_eq_true c1] at hw1
    by_cases c2 : -h.c ≤ h.p ∧ h.p ≤ h.c
    · simp only [decide_eq_true c2] at hw2
      by_cases c3 : -h.c ≤ h.q ∧ h.q ≤ h.c
      · simp only [decide_eq_true c3] at hw3
        have p1 : h.p * h.p ≤ 1000 * 1000 := by
          rcases Int.le_total 0 h.p with g | g
          · exact sq_le g (by omega)
          · have := sq_le (show 0 ≤ -h.p by omega) (show -h.p ≤ 1000 by omega); rwa [Int.neg_mul_neg] at this
        have p2 : h.q * h.q ≤ 1000 * 1000 := by
          rcases Int.le_total 0 h.q with g | g
          · exact sq_le g (by omega)
          · have := sq_le (show 0 ≤ -h.q by omega) (show -h.q ≤ 1000 by omega); rwa [Int.neg_mul_neg] at this
        have p3 : h.c * h.c ≤ 1000 * 1000 := sq_le (by omega) (by omega)
        have p4 : 0 ≤ h.p * h.p := by rcases Int.le_total 0 h.p with g | g; exact Int.mul_nonneg g g; exact Int.mul_nonneg_of_nonpos_of_nonpos g g
        have p5 : 0 ≤ h.q * h.q := by rcases Int.le_total 0 h.q with g | g; exact Int.mul_nonneg g g; exact Int.mul_nonneg_of_nonpos_of_nonpos g g
        have p6 : 0 ≤ h.c * h.c := Int.mul_nonneg (by omega) (by omega)
        have t1 := IntWalk.i64_in (h.p * h.p) (by omega)
        have t2 := IntWalk.i64_in (h.q * h.q) (by omega)
        have t3 := IntWalk.i64_in (h.c * h.c) (by omega)
        have t4 := IntWalk.i64_in (h.p * h.p + h.q * h.q) (by omega)
        have t5 := IntWalk.i64_in (-h.c) (by omega)
        by_cases c4 : h.p * h.p + h.q * h.q = h.c * h.c
        · replace c1 := Lib.hid c1
          replace c2 := Lib.hid c2
          replace c3 := Lib.hid c3
          have c4' : (h.p * h.p + h.q * h.q != h.c * h.c) = false := by simp [c4]
          replace c4 := Lib.hid c4
          go_enter Tryz.func24, Tryz.ntmps24
          go_wp2_with fail
          refine (hw1 _).mono ?_
          rintro e w' ⟨rfl, rfl⟩
          go_wp2_with fail
          refine (hw2 _).mono ?_
          rintro e w' ⟨rfl, rfl⟩
          go_wp2_with fail
          refine (hw3 _).mono ?_
          rintro e w' ⟨rfl, rfl⟩
          go_wp2
          go_ret
          exact ⟨ret_int (by rw [hv.out, hu.out, if_pos (by have := c1.out; have := c2.out; have := c3.out; have := c4.out; simp; omega)]), (Below.refl _ _).alloc (Nat.le_refl _) _⟩
        · replace c1 := Lib.hid c1
          replace c2 := Lib.hid c2
          replace c3 := Lib.hid c3
          have c4' : (h.p * h.p + h.q * h.q != h.c * h.c) = true := by simp [c4]
          replace c4 := Lib.hid c4
          go_enter Tryz.func24, Tryz.ntmps24
          go_wp2_with fail
          refine (hw1 _).mono ?_
          rintro e w' ⟨rfl, rfl⟩
          go_wp2_with fail
          refine (hw2 _).mono ?_
          rintro e w' ⟨rfl, rfl⟩
          go_wp2_with fail
          refine (hw3 _).mono ?_
          rintro e w' ⟨rfl, rfl⟩
          go_wp2
          go_ret
          exact ⟨ret_int (by rw [hv.out, hu.out, if_neg (by have := c4.out; simp; omega)]), (Below.refl _ _).alloc (Nat.le_refl _) _⟩
      · simp only [decide_eq_false c3] at hw3
        have t5 := IntWalk.i64_in (-h.c) (by omega)
        replace c1 := Lib.hid c1
        replace c2 := Lib.hid c2
        replace c3 := Lib.hid c3
        go_enter Tryz.func24, Tryz.ntmps24
        go_wp2_with fail
        refine (hw1 _).mono ?_
        rintro e w' ⟨rfl, rfl⟩
        go_wp2_with fail
        refine (hw2 _).mono ?_
        rintro e w' ⟨rfl, rfl⟩
        go_wp2_with fail
        refine (hw3 _).mono ?_
        rintro e w' ⟨rfl, rfl⟩
        go_wp2
        go_ret
        exact ⟨ret_int (by rw [hv.out, hu.out, if_neg (by have := c3.out; simp; omega)]), (Below.refl _ _).alloc (Nat.le_refl _) _⟩
    · simp only [decide_eq_false c2] at hw2
      have t5 := IntWalk.i64_in (-h.c) (by omega)
      replace c1 := Lib.hid c1
      replace c2 := Lib.hid c2
      go_enter Tryz.func24, Tryz.ntmps24
      go_wp2_with fail
      refine (hw1 _).mono ?_
      rintro e w' ⟨rfl, rfl⟩
      go_wp2_with fail
      refine (hw2 _).mono ?_
      rintro e w' ⟨rfl, rfl⟩
      go_wp2
      go_ret
      exact ⟨ret_int (by rw [hv.out, hu.out, if_neg (by have := c2.out; simp; omega)]), (Below.refl _ _).alloc (Nat.le_refl _) _⟩
  · simp only [decide_eq_false c1] at hw1
    replace c1 := Lib.hid c1
    go_enter Tryz.func24, Tryz.ntmps24
    go_wp2_with fail
    refine (hw1 _).mono ?_
    rintro e w' ⟨rfl, rfl⟩
    go_wp2
    go_ret
    exact ⟨ret_int (by rw [hv.out, hu.out, if_neg (by have := c1.out; simp; omega)]), (Below.refl _ _).alloc (Nat.le_refl _) _⟩
end Go.Proofs.YtfengddpfeneiaaGreat
namespace Go.Proofs.YtfengddpfeneiaaGreat
open Go.RowKit Go.Shelf

theorem smul_bd {a b A B : Int} (h1 : -A ≤ a) (h2 : a ≤ A) (h3 : -B ≤ b) (h4 : b ≤ B) : -(A * B) ≤ a * b ∧ a * b ≤ A * B := by
  have hA : 0 ≤ A := by omega
  have hB : 0 ≤ B := by omega
  rcases Int.le_total 0 a with ha | ha <;> rcases Int.le_total 0 b with hb | hb
  · have := Int.mul_le_mul h2 h4 hb hA
    have := Int.mul_nonneg ha hb
    have := Int.mul_nonneg hA hB
    omega
  · have h := Int.mul_le_mul h2 (show -b ≤ B by omega) (by omega) hA
    have h0 := Int.mul_nonneg ha (show 0 ≤ -b by omega)
    have := Int.mul_nonneg hA hB
    rw [Int.mul_neg] at h h0
    omega
  · have h := Int.mul_le_mul (show -a ≤ A by omega) h4 hb hA
    have h0 := Int.mul_nonneg (show 0 ≤ -a by omega) hb
    have := Int.mul_nonneg hA hB
    rw [Int.neg_mul] at h h0
    omega
  · have h := Int.mul_le_mul (show -a ≤ A by omega) (show -b ≤ B by omega) (by omega) hA
    have h0 := Int.mul_nonneg (show 0 ≤ -a by omega) (show 0 ≤ -b by omega)
    have := Int.mul_nonneg hA hB
    rw [Int.neg_mul_neg] at h h0
    omega
def optB (o : Option Bnd) : Bnd := o.getD ⟨0, 0⟩
theorem extO_app (l : List RRow) (w : RRow) (p q : Int) : extO (l ++ [w]) p q = addE (extO l p q) (p * w.x + q * w.fr, p * w.x + q * w.to) := by
  unfold extO
  rw [List.foldl_append]
  rfl
set_option maxRecDepth 100000 in
set_option maxHeartbeats 2000000 in
theorem extremes_any (r : Reg) (p q : Int) (w : World) (hr : okReg r = true) (hp : -2000 ≤ p ∧ p ≤ 2000) (hq : -2000 ≤ q ∧ q ≤ 2000) :
    Calls Tryz.prog 121 #[.agg (regA r), .int .i64 p, .int .i64 q] w fun e w' => e = .returned (.agg #[.int .i64 (extB r p q).lo, .int .i64 (extB r p q).hi]) ∧ Below w.heap.size w w' := by
  have hmax := max3_int
  have hmin := min3_int
  simp only [okReg, Bool.and_eq_true, okBnd, decide_eq_true_eq] at hr
  obtain ⟨⟨⟨⟨x1, x2, x3⟩, ⟨y1, y2, y3⟩⟩, ⟨s1, s2, s3⟩⟩, ⟨d1, d2, d3⟩⟩ := hr
  obtain ⟨p1, p2⟩ := hp
  obtain ⟨q1, q2⟩ := hq
  simp only [regA]
  go_enter Tryz.func121, Tryz.ntmps121
  go_wp2_with fail
  go_loopw [8, 9] (fun s x wr => ∃ j : Nat, x = .int .i64 (r.x.lo + j) ∧ j ≤ nX r ∧ s = .bool (extO (rowsTo r j) p q).isSome ∧ Blk wr w.heap.size 42 (regA r) ∧ Blk wr (w.heap.size + 1) 40 #[.int .i64 0, .int .i64 0] ∧ Blk wr (w.heap.size + 1 + 1) 40 #[.int .i64 (optB (extO (rowsTo r j) p q)).lo, .int .i64 (optB (extO (rowsTo r j) p q)).hi] ∧ Below w.heap.size w wr) (fun s x wr => (r.x.hi + 1 - intOf x).toNat)
  case atStart =>
    exact ⟨0, by simp, Nat.zero_le _, rfl, ((Blk.newAt rfl).alloc _).alloc _, (Blk.newAt (by simp)).alloc _, Blk.newAt (by simp), (((Below.refl w.heap.size w).alloc (Nat.le_refl _) _).alloc (by simp) _).alloc (by simp; omega) _⟩
  case round =>
    obtain ⟨j, rfl, hj, rfl, k3, k6, k7, hb⟩ := hrel
    have hjx : j < nX r ↔ r.x.lo + j ≤ r.x.hi := by unfold nX; omega
    by_cases hlt : r.x.lo + j ≤ r.x.hi
    · have hj1 := Lib.hid (hjx.2 hlt)
      replace hj := Lib.hid hj
      have hstep := Lib.hid (rowsTo_succ r j)
      have e1 : Hid ((rowB r (r.x.lo + j)).fr = max r.y.lo (max (r.s.lo - (r.x.lo + j)) (r.x.lo + j - r.d.hi))) := rfl
      have e2 : Hid ((rowB r (r.x.lo + j)).to = min r.y.hi (min (r.s.hi - (r.x.lo + j)) (r.x.lo + j - r.d.lo))) := rfl
      have e3 : Hid ((rowB r (r.x.lo + j)).x = r.x.lo + j) := rfl
      clear hjx
      generalize rowB r (r.x.lo + j) = v at *
      generalize hx : r.x.lo + (j : Int) = x at *
      have hxb : -32768 ≤ x ∧ x ≤ 32768 := by omega
      have e1r := e1.out.symm
      have e2r := e2.out.symm
      have t1 := IntWalk.i64_in (r.s.lo - x) (by omega)
      have t2 := IntWalk.i64_in (x - r.d.hi) (by omega)
      have t3 := IntWalk.i64_in (r.s.hi - x) (by omega)
      have t4 := IntWalk.i64_in (x - r.d.lo) (by omega)
      have t5 := IntWalk.i64_in (x + 1) (by omega)
      have hfr : -32768 ≤ v.fr ∧ v.to ≤ 32768 := by omega
      replace hx := Lib.hid hx
      simp only [regA] at k3
      obtain ⟨c3, f3, l3⟩ := k3.rules
      obtain ⟨o, ho⟩ : ∃ o, extO (rowsTo r j) p q = o := ⟨_, rfl⟩
      rw [ho] at k7 ⊢
      replace ho := Lib.hid ho
      go_wp2_with fail
      go_quiet (fail)
      clear c3 f3 l3
      have k3d := k3.drewN nq
      have k6d := k6.drewN nq
      have k7d := k7.drewN nq
      have hbd := below_drewN hb nq
      clear k3 k6 k7 hb
      generalize wr.drewN nq = W at *
      by_cases hv : v.fr ≤ v.to
      · rw [if_pos hv] at hstep
        have ha := smul_bd p1 p2 hxb.1 hxb.2
        have hb1 := smul_bd q1 q2 (show -32768 ≤ v.fr by omega) (show v.fr ≤ 32768 by omega)
        have hb2 := smul_bd q1 q2 (show -32768 ≤ v.to by omega) (show v.to ≤ 32768 by omega)
        have u1 := IntWalk.i64_in (p * x) (by omega)
        have u2 := IntWalk.i64_in (q * v.fr) (by omega)
        have u3 := IntWalk.i64_in (q * v.to) (by omega)
        have u4 := IntWalk.i64_in (p * x + q * v.fr) (by omega)
        have u5 := IntWalk.i64_in (p * x + q * v.to) (by omega)
        have hext : Hid (extO (rowsTo r (j + 1)) p q = addE o (p * x + q * v.fr, p * x + q * v.to)) := by
          show _ = _
          rw [hstep.out, extO_app, ho.out, e3.out]
        have hv' : ¬ v.to < v.fr := by omega
        clear ha hb1 hb2
        obtain ⟨a, hA⟩ : ∃ a, p * x + q * v.fr = a := ⟨_, rfl⟩
        obtain ⟨b, hB⟩ : ∃ b, p * x + q * v.to = b := ⟨_, rfl⟩
        replace u4 : IntKind.i64.wrap (p * x + q * v.fr) = a := u4.trans hA
        replace u5 : IntKind.i64.wrap (p * x + q * v.to) = b := u5.trans hB
        rw [hA, hB] at hext
        clear hA hB
        cases o with
        | none =>
          have hm1 : Hid (min (a) (min (a) (b)) = min (a) (b)) := by show _ = _; omega
          have hm2 : Hid (max (a) (max (a) (b)) = max (a) (b)) := by show _ = _; omega
          simp only [optB, Option.getD_none, Option.isSome_none] at k7d ⊢
          obtain ⟨c7, f7, l7⟩ := k7d.rules
          go_wp2_with fail
          clear c7 f7 l7
          go_roundw
          case rel =>
            refine ⟨j + 1, by rw [← hx.out]; congr 1; push_cast; omega, hj1.out, by rw [hext.out]; rfl, (((k3d.far (by dsimp only; omega) _).far (by dsimp only; omega) _).far (by dsimp only; omega) _).far (by dsimp only; omega) _, (((k6d.far (by dsimp only; omega) _).far (by dsimp only; omega) _).far (by dsimp only; omega) _).far (by dsimp only; omega) _, ?_, ((((hbd.setCell (p := ⟨w.heap.size + 1 + 1, 0, none⟩) (by dsimp only; omega) _).setCell (p := ⟨w.heap.size + 1 + 1, 1, none⟩) (by dsimp only; omega) _).setCell (p := ⟨w.heap.size + 1 + 1, 0, none⟩) (by dsimp only; omega) _).setCell (p := ⟨w.heap.size + 1 + 1, 1, none⟩) (by dsimp only; omega) _)⟩
            rw [hext.out]
            simp only [addE]
            rw [hm1.out, hm2.out]
            exact (((k7d.set_ 0 _).set_ 1 _).set_ 0 _).set_ 1 _
          case measure => simp [intOf]; omega
        | some B =>
          simp only [optB, Option.getD_some, Option.isSome_some] at k7d ⊢
          obtain ⟨c7, f7, l7⟩ := k7d.rules
          go_wp2_with fail
          clear c7 f7 l7
          go_roundw
          case rel =>
            refine ⟨j + 1, by rw [← hx.out]; congr 1; push_cast; omega, hj1.out, by rw [hext.out]; rfl, (k3d.far (by dsimp only; omega) _).far (by dsimp only; omega) _, (k6d.far (by dsimp only; omega) _).far (by dsimp only; omega) _, ?_, ((hbd.setCell (p := ⟨w.heap.size + 1 + 1, 0, none⟩) (by dsimp only; omega) _).setCell (p := ⟨w.heap.size + 1 + 1, 1, none⟩) (by dsimp only; omega) _)⟩
            rw [hext.out]
            exact (k7d.set_ 0 _).set_ 1 _
          case measure => simp [intOf]; omega
      · rw [if_neg hv, List.append_nil] at hstep
        have hv' : v.to < v.fr := by omega
        go_wp2_with fail
        go_roundw
        case rel =>
          refine ⟨j + 1, by rw [← hx.out]; congr 1; push_cast; omega, hj1.out, ?_, k3d, k6d, ?_, hbd⟩
          · rw [hstep.out, ho.out]
          · rw [hstep.out, ho.out]; exact k7d
        case measure => simp [intOf]; omega
    · obtain rfl : j = nX r := by have : ¬ j < nX r := fun h => hlt (hjx.1 h); omega
      have hv : Hid (optB (extO (rowsTo r (nX r)) p q) = extB r p q) := rfl
      rw [hv.out] at k7
      clear hjx hj
      simp only [regA] at k3
      obtain ⟨c3, f3, l3⟩ := k3.rules
      obtain ⟨c7, f7, l7⟩ := k7.rules
      have kz := (k6.set_ 0 (.int .i64 (extB r p q).lo)).set_ 1 (.int .i64 (extB r p q).hi)
      have bz := (hb.setCell (p := ⟨w.heap.size + 1, 0, none⟩) (by dsimp only; omega) (.int .i64 (extB r p q).lo)).setCell (p := ⟨w.heap.size + 1, 1, none⟩) (by dsimp only; omega) (.int .i64 (extB r p q).hi)
      obtain ⟨wz, hwz⟩ : ∃ x, x = (wr.setCell ⟨w.heap.size + 1, 0, none⟩ (.int .i64 (extB r p q).lo)).setCell ⟨w.heap.size + 1, 1, none⟩ (.int .i64 (extB r p q).hi) := ⟨_, rfl⟩
      rw [← hwz] at kz bz
      obtain ⟨c6, f6, l6⟩ := k6.rules
      go_wp2
      rw [← hwz]
      clear hwz c3 f3 l3 c6 f6 l6 c7 f7 l7
      obtain ⟨c6, f6, l6⟩ := kz.rules
      exact bodyPost_ret (v := .agg #[.int .i64 (extB r p q).lo, .int .i64 (extB r p q).hi]) (by simp [results, Tryz.results121, go_sem, c6]) rfl ⟨rfl, bz⟩
end Go.Proofs.YtfengddpfeneiaaGreat
namespace Go.Proofs.YtfengddpfeneiaaGreat
set_option linter.unusedSimpArgs false
set_option linter.unusedVariables false
open Go.RowKit Go.Shelf

end Go.Proofs.YtfengddpfeneiaaGreat
namespace Go.Proofs.YtfengddpfeneiaaGreat
open Go.RowKit Go.Shelf

end Go.Proofs.YtfengddpfeneiaaGreat
namespace Go.Proofs.YtfengddpfeneiaaGreat
open Go.RowKit Go.Shelf

def stepTo (s : Strm) (o d : List Int) (k : Nat) : List Int := (List.range k).map fun i => eased s (s.sec i) (o.getD i s.head) (prev s.head o i) (d.getD i 0)
end Go.Proofs.YtfengddpfeneiaaGreat
namespace Go.Proofs.YtfengddpfeneiaaGreat
open Go.RowKit Go.Shelf
set_option linter.unusedSimpArgs false
set_option linter.unusedVariables false

end Go.Proofs.YtfengddpfeneiaaGreat
namespace Go.Proofs.YtfengddpfeneiaaGreat
open Go.RowKit Go.Shelf
set_option linter.unusedSimpArgs false
set_option linter.unusedVariables false

end Go.Proofs.YtfengddpfeneiaaGreat
namespace Go.Proofs.YtfengddpfeneiaaGreat
open Go.RowKit Go.Shelf
set_option linter.unusedSimpArgs false
set_option linter.unusedVariables false

end Go.Proofs.YtfengddpfeneiaaGreat
namespace Go.Proofs.YtfengddpfeneiaaGreat
open Go.RowKit Go.Shelf
set_option linter.unusedSimpArgs false
set_option linter.unusedVariables false

/-! Numbers within bounds, as others choose them. -/
def insB (bits : List Int) (fr : Int) (i : Nat) (b : Bnd) : Int := wrap64 (b.lo + restS (pickS bits (fr + i)) (wrap64 (wrap64 (b.hi - b.lo) + 1)))
def insTo (l : List Bnd) (bits : List Int) (fr : Int) (k : Nat) : List Int := (List.range k).map fun i => insB bits fr i (l.getD i ⟨0, 0⟩)
def insL (l : List Bnd) (bits : List Int) (fr : Int) : List Int := insTo l bits fr l.length
end Go.Proofs.YtfengddpfeneiaaGreat
namespace Go.Proofs.YtfengddpfeneiaaGreat
open Go.RowKit Go.Shelf

/-- A number lies in a bound. -/
def inB (x : Int) (b : Bnd) : Prop := b.lo ≤ x ∧ x ≤ b.hi
/-- So many numbers, each in its bound. -/
def Lies (xs : List Int) (bs : List Bnd) : Prop := xs.length = bs.length ∧ ∀ (i : Nat) (x : Int) (b : Bnd), xs[i]? = some x → bs[i]? = some b → inB x b
/-- So many numbers, none greater than the other one. -/
def LeL (xs ys : List Int) : Prop := xs.length = ys.length ∧ ∀ (i : Nat) (x y : Int), xs[i]? = some x → ys[i]? = some y → x ≤ y

theorem stepL_length (s : Strm) (o d : List Int) : (stepL s o d).length = o.length := eachL_length _ _ _
theorem encL_length (s : Strm) (bs : List Bnd) (d : Bnd) : (encL s bs d).length = bs.length := eachL_length _ _ _
theorem stepL_at (s : Strm) (o d : List Int) {i : Nat} (h : i < o.length) : (stepL s o d)[i]? = some (eased s (s.sec i) (o.getD i s.head) (prev s.head o i) (d.getD i 0)) := eachL_get _ _ _ h
theorem encL_at (s : Strm) (bs : List Bnd) (d : Bnd) {i : Nat} (h : i < bs.length) : (encL s bs d)[i]? = some (encB s d i (bs.getD i (still s.head)) (prev (still s.head) bs i)) := eachL_get _ _ _ h
theorem lt_of_at {α : Type} {l : List α} {i : Nat} {x : α} (h : l[i]? = some x) : i < l.length := (List.getElem?_eq_some_iff.1 h).1
theorem getD_of {α : Type} {l : List α} {i : Nat} {x : α} (d : α) (h : l[i]? = some x) : l.getD i d = x := by rw [List.getD_eq_getElem?_getD, h]; rfl
theorem Lies.getD {xs : List Int} {bs : List Bnd} (h : Lies xs bs) {i : Nat} (hi : i < bs.length) (n : Int) (b : Bnd) : (bs.getD i b).lo ≤ xs.getD i n ∧ xs.getD i n ≤ (bs.getD i b).hi :=
  h.2 i _ _ (getD_get n (by have := h.1; omega)) (getD_get b hi)
theorem LeL.getD {xs ys : List Int} (h : LeL xs ys) {i : Nat} (n : Int) : xs.getD i n ≤ ys.getD i n := by
  by_cases hi : i < xs.length
  · exact h.2 i _ _ (getD_get n hi) (getD_get n (by have := h.1; omega))
  · rw [List.getD_eq_getElem?_getD, List.getD_eq_getElem?_getD, List.getElem?_eq_none (by omega), List.getElem?_eq_none (by have := h.1; omega)]; exact Int.le_refl _
theorem Lies.prev {xs : List Int} {bs : List Bnd} (h : Lies xs bs) {i : Nat} (hi : i < bs.length) (n : Int) : (prev (still n) bs i).lo ≤ prev n xs i ∧ prev n xs i ≤ (prev (still n) bs i).hi := by
  cases i with
  | zero => exact ⟨Int.le_refl _, Int.le_refl _⟩
  | succ k => exact h.getD (by omega) n (still n)
theorem LeL.prev {xs ys : List Int} (h : LeL xs ys) (n : Int) (i : Nat) : prev n xs i ≤ prev n ys i := by
  cases i with
  | zero => exact Int.le_refl _
  | succ k => exact h.getD n
/-- Offsets that lie in bounds lie in those after a step. -/
theorem Lies.step {s : Strm} {o dr : List Int} {bs : List Bnd} {d : Bnd} (hs : okStrm s = true) (hl : bs.length = s.secs.length) (h : Lies o bs) (hd : ∀ i, i < bs.length → inB (dr.getD i 0) d) : Lies (stepL s o dr) (encL s bs d) := by
  refine ⟨by rw [stepL_length, encL_length]; exact h.1, fun i x b hx hb => ?_⟩
  have hi : i < bs.length := by have := lt_of_at hb; rwa [encL_length] at this
  rw [stepL_at s o dr (by have := h.1; omega)] at hx
  rw [encL_at s bs d hi] at hb
  cases hx
  cases hb
  have a := h.getD hi s.head (still s.head)
  have p := h.prev hi s.head
  have q := hd i hi
  exact ⟨eased_mono (ok_head hs) (ok_sec hs (by omega)) a.1 p.1 q.1, eased_mono (ok_head hs) (ok_sec hs (by omega)) a.2 p.2 q.2⟩
/-- More of anything before a step is not less after it. -/
theorem LeL.step {s : Strm} {o p d e : List Int} (hs : okStrm s = true) (hl : o.length = s.secs.length) (h1 : LeL o p) (h2 : LeL d e) : LeL (stepL s o d) (stepL s p e) := by
  refine ⟨by rw [stepL_length, stepL_length]; exact h1.1, fun i x y hx hy => ?_⟩
  have hi : i < o.length := by have := lt_of_at hx; rwa [stepL_length] at this
  rw [stepL_at s o d hi] at hx
  rw [stepL_at s p e (by have := h1.1; omega)] at hy
  cases hx
  cases hy
  exact eased_mono (ok_head hs) (ok_sec hs (by omega)) (h1.getD _) (h1.prev _ _) (h2.getD _)
/-! Bends and pulls. -/
theorem bend_in {x p : Int} {own bef : Bnd} (h1 : inB x own) (h2 : inB p bef) : inB (magS (x - p)) (bendB own bef) := by
  unfold inB magS bendB at *; dsimp only; omega
theorem bendL_length (s : Strm) (bs : List Bnd) : (bendL s bs).length = bs.length := eachL_length _ _ _
theorem bendL_at (s : Strm) (bs : List Bnd) {i : Nat} (h : i < bs.length) : (bendL s bs)[i]? = some (bendB (bs.getD i (still s.head)) (prev (still s.head) bs i)) := eachL_get _ _ _ h
/-- The bend of a section. -/
def bendAt (s : Strm) (o : List Int) (i : Nat) : Int := magS (o.getD i s.head - prev s.head o i)
theorem Lies.bend {s : Strm} {o : List Int} {bs : List Bnd} (h : Lies o bs) {i : Nat} (hi : i < bs.length) : inB (bendAt s o i) ((bendL s bs).getD i ⟨0, 0⟩) := by
  rw [getD_of _ (bendL_at s bs hi)]
  exact bend_in (h.getD hi _ _) (h.prev hi _)
/-- The sum of so many numbers from one on. -/
def sumFr (g : Nat → Int) (i : Nat) : Nat → Int
  | 0 => 0
  | m + 1 => g i + sumFr g (i + 1) m
theorem sumFr_succ (g : Nat → Int) (i m : Nat) : sumFr g i (m + 1) = g i + sumFr g (i + 1) m := rfl
theorem sumFr_mono {f g : Nat → Int} : ∀ (m i : Nat), (∀ j, i ≤ j → j < i + m → f j ≤ g j) → sumFr f i m ≤ sumFr g i m
  | 0, _, _ => Int.le_refl _
  | m + 1, i, h => by
    have h1 := h i (Nat.le_refl _) (by omega)
    have h2 := sumFr_mono (f := f) (g := g) m (i + 1) fun j a b => h j (by omega) (by omega)
    rw [sumFr_succ, sumFr_succ]; omega
theorem sumB_drop (Z : List Bnd) : ∀ (m i : Nat), i + m = Z.length → sumB (Z.drop i) = ⟨sumFr (fun j => (Z.getD j ⟨0, 0⟩).lo) i m, sumFr (fun j => (Z.getD j ⟨0, 0⟩).hi) i m⟩
  | 0, i, h => by rw [List.drop_eq_nil_of_le (by omega)]; rfl
  | m + 1, i, h => by
    have e := sumB_step (getD_get (⟨0, 0⟩ : Bnd) (l := Z) (i := i) (by omega))
    rw [e, sumB_drop Z m (i + 1) (by omega)]
    simp only [sumFr_succ]
    rw [Int.add_comm, Int.add_comm (sumFr _ _ _)]
theorem zip_getD (s : Strm) (L : List Bnd) (sl fa : Int) (hl : L.length = s.secs.length) {j : Nat} (hj : j < L.length) : (List.zipWith (ownPull sl fa) s.secs L).getD j ⟨0, 0⟩ = ownPull sl fa (s.sec j) (L.getD j ⟨0, 0⟩) := by
  rw [List.getD_eq_getElem?_getD, List.getElem?_zipWith, sec_at s (by omega), getD_get (⟨0, 0⟩ : Bnd) hj]; rfl
/-- The pull of a section. -/
def pullAt (s : Strm) (w : Int) (f : Nat → Int) (j : Nat) : Int := (s.sec j).drag * (w * w + f j)
theorem sq_mono {a b : Int} (h0 : 0 ≤ a) (h : a ≤ b) : a * a ≤ b * b := Int.mul_le_mul h h h0 (by omega)
theorem pullL_at (s : Strm) (bs : List Bnd) (v : Int) (cur : Bnd) (hl : bs.length = s.secs.length) {i : Nat} (hi : i < bs.length) :
    (pullL s bs v cur)[i]? = some ⟨sumFr (pullAt s (max 0 (v - cur.hi)) fun j => ((bendL s bs).getD j ⟨0, 0⟩).lo) i (bs.length - i), sumFr (pullAt s (max 0 (v - cur.lo)) fun j => ((bendL s bs).getD j ⟨0, 0⟩).hi) i (bs.length - i)⟩ := by
  unfold pullL
  rw [List.getElem?_map, List.getElem?_range hi]
  have e := sumB_drop (List.zipWith (ownPull (max 0 (v - cur.hi)) (max 0 (v - cur.lo))) s.secs (bendL s bs)) (bs.length - i) i (by rw [List.length_zipWith, bendL_length]; omega)
  have c : ∀ f g : Nat → Int, (∀ j, i ≤ j → j < i + (bs.length - i) → f j = g j) → sumFr f i (bs.length - i) = sumFr g i (bs.length - i) := fun f g h => Int.le_antisymm (sumFr_mono _ _ fun j a b => by rw [h j a b]; exact Int.le_refl _) (sumFr_mono _ _ fun j a b => by rw [h j a b]; exact Int.le_refl _)
  show some (sumB _) = _
  rw [e]
  congr 2
  · refine c _ _ fun j a b => ?_
    rw [zip_getD s _ _ _ (by rw [bendL_length]; exact hl) (by rw [bendL_length]; omega)]; rfl
  · refine c _ _ fun j a b => ?_
    rw [zip_getD s _ _ _ (by rw [bendL_length]; exact hl) (by rw [bendL_length]; omega)]; rfl
theorem pullAt_le {s : Strm} (hs : okStrm s = true) {j : Nat} (hj : j < s.secs.length) {w z : Int} {f g : Nat → Int} (hw : 0 ≤ w) (hz : w ≤ z) (hf : f j ≤ g j) : pullAt s w f j ≤ pullAt s z g j := by
  obtain ⟨k0, k1, k2, k3, k4, k5, k6, k7, k8, k9⟩ := of_decide_eq_true (ok_sec hs hj)
  have := sq_mono hw hz
  exact Int.mul_le_mul_of_nonneg_left (by omega) k6
/-- The pulls of offsets within bounds lie in theirs, with any current along the way. -/
theorem Lies.pull {s : Strm} {o : List Int} {bs : List Bnd} {v c : Int} {cur : Bnd} (hs : okStrm s = true) (hl : bs.length = s.secs.length) (h : Lies o bs) (hc : inB c cur) {i : Nat} (hi : i < bs.length) :
    inB (sumFr (pullAt s (max 0 (v - c)) (bendAt s o)) i (bs.length - i)) ((pullL s bs v cur).getD i ⟨0, 0⟩) := by
  rw [getD_of _ (pullL_at s bs v cur hl hi)]
  obtain ⟨c1, c2⟩ := hc
  exact ⟨sumFr_mono _ _ fun j a b => pullAt_le hs (by omega) (by omega) (by omega) (h.bend (by omega)).1, sumFr_mono _ _ fun j a b => pullAt_le hs (by omega) (by omega) (by omega) (h.bend (by omega)).2⟩
/-! The first step in which something holds. -/
/-! Narrower bounds. -/
def NarB (a b : Bnd) : Prop := b.lo ≤ a.lo ∧ a.hi ≤ b.hi
def NarL (xs ys : List Bnd) : Prop := xs.length = ys.length ∧ ∀ (i : Nat) (x y : Bnd), xs[i]? = some x → ys[i]? = some y → NarB x y
theorem NarB.refl (b : Bnd) : NarB b b := ⟨Int.le_refl _, Int.le_refl _⟩
theorem NarL.getD {xs ys : List Bnd} (h : NarL xs ys) {i : Nat} (n : Bnd) : NarB (xs.getD i n) (ys.getD i n) := by
  by_cases hi : i < xs.length
  · exact h.2 i _ _ (getD_get n hi) (getD_get n (by have := h.1; omega))
  · rw [List.getD_eq_getElem?_getD, List.getD_eq_getElem?_getD, List.getElem?_eq_none (by omega), List.getElem?_eq_none (by have := h.1; omega)]; exact NarB.refl _
theorem NarL.prev {xs ys : List Bnd} (h : NarL xs ys) (n : Bnd) (i : Nat) : NarB (prev n xs i) (prev n ys i) := by
  cases i with
  | zero => exact NarB.refl _
  | succ k => exact h.getD n
theorem NarL.enc {s : Strm} {bs cs : List Bnd} {d e : Bnd} (hs : okStrm s = true) (hl : bs.length = s.secs.length) (h : NarL bs cs) (hd : NarB d e) : NarL (encL s bs d) (encL s cs e) := by
  refine ⟨by rw [encL_length, encL_length]; exact h.1, fun i x y hx hy => ?_⟩
  have hi : i < bs.length := by have := lt_of_at hx; rwa [encL_length] at this
  rw [encL_at s bs d hi] at hx
  rw [encL_at s cs e (by have := h.1; omega)] at hy
  cases hx
  cases hy
  have a := h.getD (i := i) (still s.head)
  have p := h.prev (still s.head) i
  exact ⟨eased_mono (ok_head hs) (ok_sec hs (by omega)) a.1 p.1 hd.1, eased_mono (ok_head hs) (ok_sec hs (by omega)) a.2 p.2 hd.2⟩
/-- Narrower waters. -/
def NarW (l m : List Wat) : Prop := ∀ i, NarB (l.getD i wat0).acr (m.getD i wat0).acr ∧ (m.getD i wat0).alo.lo ≤ (l.getD i wat0).alo.lo
theorem NarL.encAt {s : Strm} {bs cs : List Bnd} {l m : List Wat} (hs : okStrm s = true) (hl : bs.length = s.secs.length) (h : NarL bs cs) (hw : NarW l m) : ∀ k, NarL (encAt s bs l k) (encAt s cs m k)
  | 0 => h
  | k + 1 => NarL.enc hs (by rw [encAt_len rfl]; exact hl) (NarL.encAt hs hl h hw k) (hw k).1
/-! Numbers within bounds, as others choose them. -/
theorem Lies.range {o : List Int} {l : List Bnd} (h : Lies o l) (hl : l.all (okBnd 16384) = true) : ∀ x ∈ o, -16384 ≤ x ∧ x ≤ 16384 := by
  intro x hx
  obtain ⟨i, hi⟩ := List.mem_iff_getElem?.1 hx
  have hlt := lt_of_at hi
  have hb := getD_get (⟨0, 0⟩ : Bnd) (l := l) (i := i) (by have := h.1; omega)
  have h1 := h.2 i x _ hi hb
  obtain ⟨a, b, c⟩ := of_decide_eq_true (List.all_eq_true.1 hl _ (List.mem_of_getElem? hb))
  unfold inB at h1
  omega
end Go.Proofs.YtfengddpfeneiaaGreat
namespace Go.Proofs.YtfengddpfeneiaaGreat

def sumL : List Int → Int
  | [] => 0
  | x :: l => x + sumL l
/-- A list comes before another one. -/
def earlierS : List Int → List Int → Bool
  | x :: l, y :: m => if x = y then earlierS l m else decide (x < y)
  | l, m => decide (l.length < m.length)
/-- The speeds of a plan. -/
def speedsOf (ch plan : List Int) : List Int := plan.map fun x => ch.getD x.toNat 0
def isPlan (ch plan : List Int) : Bool := plan.all fun x => decide (0 ≤ x ∧ x ≤ ch.length - 1)
/-- What Fastest says, where it is asked well. -/
structure FastSaid (s : Strm) (bs : List Bnd) (l : List Wat) (ch : List Int) (r : List Int × Int × Int) : Prop where
  bw : errBW s bs l = 0
  lim : 1 ≤ l.length ∧ l.length ≤ 6 ∧ 1 ≤ ch.length ∧ ch.length ≤ 4
  spd : okSpeeds ch = true
  run : (r.2.2 = 0 ∧ r.1.length = l.length ∧ isPlan ch r.1 = true ∧ keepsS s bs l (speedsOf ch r.1) = true ∧ sumL (speedsOf ch r.1) = r.2.1) ∨ r = ([], 0, 4)
  best : ∀ plan, plan.length = l.length → isPlan ch plan = true → keepsS s bs l (speedsOf ch plan) = true →
    r.2.2 = 0 ∧ sumL (speedsOf ch plan) ≤ r.2.1 ∧ (sumL (speedsOf ch plan) < r.2.1 ∨ earlierS plan r.1 = false)
end Go.Proofs.YtfengddpfeneiaaGreat
namespace Go.Proofs.YtfengddpfeneiaaGreat
set_option linter.unusedSimpArgs false
set_option linter.unusedVariables false

/-- The best plan so far, when one more is looked at. -/
def updF (K : List Int → Bool) (S : List Int → Int) (o : Option (List Int)) (p : List Int) : Option (List Int) :=
  if K p = true then (match o with | none => some p | some q => if S q < S p then some p else some q) else o
/-- All plans that begin so, with so many steps more. -/
def allP (m : Nat) : Nat → List Int → List (List Int)
  | 0, p => [p]
  | r + 1, p => (List.range m).flatMap fun i : Nat => allP m r (p ++ [(i : Int)])
def BestOf (K : List Int → Bool) (S : List Int → Int) (L : List (List Int)) : Option (List Int) → Prop
  | none => ∀ q ∈ L, K q = false
  | some p => p ∈ L ∧ K p = true ∧ ∀ q ∈ L, K q = true → S q < S p ∨ S q = S p ∧ (q = p ∨ earlierS p q = true)
/-- What the search has found when it has looked at the plans that begin so, too. -/
def searchS (s : Strm) (bs : List Bnd) (l : List Wat) (ch : List Int) (r : Nat) (p : List Int) (o : Option (List Int)) : Option (List Int) :=
  (allP ch.length r p).foldl (updF (fun p => keepsS s bs l (speedsOf ch p)) (fun p => sumL (speedsOf ch p))) o
def searchTo (s : Strm) (bs : List Bnd) (l : List Wat) (ch : List Int) (r : Nat) (p : List Int) (k : Nat) (o : Option (List Int)) : Option (List Int) :=
  (List.range k).foldl (fun o (i : Nat) => searchS s bs l ch r (p ++ [(i : Int)]) o) o
def foundR (ch : List Int) : Option (List Int) → List Int × Int × Int
  | none => ([], 0, 4)
  | some p => (p, sumL (speedsOf ch p), 0)
end Go.Proofs.YtfengddpfeneiaaGreat
namespace Go.Proofs.YtfengddpfeneiaaGreat

/-- A point lies in a region. -/
def inR (p : Pnt) (r : Reg) : Prop := inB p.x r.x ∧ inB p.y r.y ∧ inB (p.x + p.y) r.s ∧ inB (p.x - p.y) r.d
/-- A bound lies within another one. -/
theorem rowsTo_has {r : Reg} {q : RRow} : ∀ {n j : Nat}, j < n → q = rowB r (r.x.lo + j) → q.fr ≤ q.to → q ∈ rowsTo r n
  | 0, j, h, _, _ => absurd h (Nat.not_lt_zero _)
  | n + 1, j, h, e, hq => by
    rw [rowsTo, List.mem_append]
    by_cases hj : j < n
    · exact .inl (rowsTo_has hj e hq)
    · obtain rfl : j = n := by omega
      refine .inr ?_
      rw [← e, if_pos hq]; simp
theorem rowsL_iff {r : Reg} {q : RRow} : q ∈ rowsL r ↔ inB q.x r.x ∧ q = rowB r q.x ∧ q.fr ≤ q.to := by
  unfold rowsL
  constructor
  · intro h
    obtain ⟨j, hj, e, hq⟩ := rowsTo_mem h
    have ex : q.x = r.x.lo + j := by rw [e]; rfl
    unfold nX at hj
    exact ⟨⟨by omega, by omega⟩, by rw [ex]; exact e, hq⟩
  · rintro ⟨⟨h1, h2⟩, e, hq⟩
    refine rowsTo_has (j := (q.x - r.x.lo).toNat) (by unfold nX; omega) ?_ hq
    rw [show r.x.lo + ((q.x - r.x.lo).toNat : Int) = q.x by omega]; exact e
theorem ptsL_iff {r : Reg} {p : Pnt} : p ∈ ptsL r ↔ inR p r ∧ (p.y = (rowB r p.x).fr ∨ p.y = (rowB r p.x).to) := by
  unfold ptsL
  rw [List.mem_flatMap]
  constructor
  · rintro ⟨q, hq, hp⟩
    obtain ⟨⟨hx1, hx2⟩, e, hle⟩ := rowsL_iff.1 hq
    have hpx : p.x = q.x ∧ (p.y = q.fr ∨ p.y = q.to) := by
      unfold rowPts at hp
      split at hp
      · simp at hp; subst hp; exact ⟨rfl, .inl rfl⟩
      · simp at hp; rcases hp with rfl | rfl
        · exact ⟨rfl, .inl rfl⟩
        · exact ⟨rfl, .inr rfl⟩
    obtain ⟨px, py⟩ := hpx
    rw [e] at py hle
    rw [← px] at py hle hx1 hx2
    refine ⟨?_, py⟩
    unfold inR inB
    unfold rowB at py hle
    dsimp only at py hle
    omega
  · rintro ⟨⟨h1, h2, h3, h4⟩, hy⟩
    have hle : (rowB r p.x).fr ≤ p.y ∧ p.y ≤ (rowB r p.x).to := by
      unfold inB at *
      unfold rowB
      dsimp only
      omega
    refine ⟨rowB r p.x, rowsL_iff.2 ⟨h1, rfl, by omega⟩, ?_⟩
    have hx : (rowB r p.x).x = p.x := rfl
    obtain ⟨px, py⟩ := p
    unfold rowPts
    split
    · rename_i e
      simp only [List.mem_singleton, Pnt.mk.injEq]
      exact ⟨hx.symm, by dsimp only at hy e ⊢; omega⟩
    · simp only [List.mem_cons, Pnt.mk.injEq, List.not_mem_nil, or_false]
      rcases hy with hy | hy
      · exact .inl ⟨hx.symm, hy⟩
      · exact .inr ⟨hx.symm, hy⟩
/-- What a hull of points is. -/
structure Hull (l : List Pnt) (h : Reg) : Prop where
  has : ∀ p ∈ l, inR p h
  xlo : ∃ p ∈ l, p.x = h.x.lo
  xhi : ∃ p ∈ l, p.x = h.x.hi
  ylo : ∃ p ∈ l, p.y = h.y.lo
  yhi : ∃ p ∈ l, p.y = h.y.hi
  slo : ∃ p ∈ l, p.x + p.y = h.s.lo
  shi : ∃ p ∈ l, p.x + p.y = h.s.hi
  dlo : ∃ p ∈ l, p.x - p.y = h.d.lo
  dhi : ∃ p ∈ l, p.x - p.y = h.d.hi
theorem hull_one (p : Pnt) : Hull [p] (ofP p) := by
  have hh : ∀ q ∈ [p], inR q (ofP p) := by
    intro q hq
    simp at hq; subst hq
    exact ⟨⟨Int.le_refl _, Int.le_refl _⟩, ⟨Int.le_refl _, Int.le_refl _⟩, ⟨Int.le_refl _, Int.le_refl _⟩, ⟨Int.le_refl _, Int.le_refl _⟩⟩
  have hm : p ∈ [p] := List.mem_singleton.2 rfl
  exact ⟨hh, ⟨p, hm, rfl⟩, ⟨p, hm, rfl⟩, ⟨p, hm, rfl⟩, ⟨p, hm, rfl⟩, ⟨p, hm, rfl⟩, ⟨p, hm, rfl⟩, ⟨p, hm, rfl⟩, ⟨p, hm, rfl⟩⟩
theorem lo_add {l : List Pnt} {f : Pnt → Int} {a : Int} (p : Pnt) (h : ∃ q ∈ l, f q = a) : ∃ q ∈ l ++ [p], f q = min a (f p) := by
  obtain ⟨q, hq, e⟩ := h
  by_cases hlt : a ≤ f p
  · exact ⟨q, List.mem_append_left _ hq, by omega⟩
  · exact ⟨p, List.mem_append_right _ (List.mem_singleton.2 rfl), by omega⟩
theorem hi_add {l : List Pnt} {f : Pnt → Int} {a : Int} (p : Pnt) (h : ∃ q ∈ l, f q = a) : ∃ q ∈ l ++ [p], f q = max a (f p) := by
  obtain ⟨q, hq, e⟩ := h
  by_cases hlt : f p ≤ a
  · exact ⟨q, List.mem_append_left _ hq, by omega⟩
  · exact ⟨p, List.mem_append_right _ (List.mem_singleton.2 rfl), by omega⟩
theorem hull_add {l : List Pnt} {h : Reg} (p : Pnt) (H : Hull l h) : Hull (l ++ [p]) (zipR spanB h (ofP p)) := by
  have hh : ∀ q ∈ l ++ [p], inR q (zipR spanB h (ofP p)) := by
    intro q hq
    rcases List.mem_append.1 hq with hq | hq
    · have := H.has q hq
      unfold inR inB zipR spanB ofP still at *; dsimp only at *; omega
    · simp at hq; subst hq
      unfold inR inB zipR spanB ofP still; dsimp only; omega
  exact ⟨hh, lo_add (f := fun p => p.x) p H.xlo, hi_add (f := fun p => p.x) p H.xhi, lo_add (f := fun p => p.y) p H.ylo, hi_add (f := fun p => p.y) p H.yhi,
    lo_add (f := fun p => p.x + p.y) p H.slo, hi_add (f := fun p => p.x + p.y) p H.shi, lo_add (f := fun p => p.x - p.y) p H.dlo, hi_add (f := fun p => p.x - p.y) p H.dhi⟩
theorem hull_fold : ∀ (m l : List Pnt) (h : Reg), Hull l h → ∃ k, m.foldl addP (some h) = some k ∧ Hull (l ++ m) k
  | [], l, h, H => ⟨h, rfl, by rw [List.append_nil]; exact H⟩
  | p :: m, l, h, H => by
    obtain ⟨k, e, K⟩ := hull_fold m (l ++ [p]) _ (hull_add p H)
    exact ⟨k, e, by simpa using K⟩
theorem hull_of : ∀ (l : List Pnt), l ≠ [] → ∃ h, hullL l = some h ∧ Hull l h
  | [], h => absurd rfl h
  | p :: m, _ => by
    obtain ⟨k, e, K⟩ := hull_fold m [p] _ (hull_one p)
    refine ⟨k, ?_, K⟩
    unfold hullL
    rw [List.foldl_cons]
    show m.foldl addP (some (zipR spanB (ofP p) (ofP p))) = some k
    rw [zipR_self]; exact e
/-- What a tight region is: it has the places of the region, and each of its bounds is met by one. -/
theorem tight_hull {r t : Reg} (h : tightO r = some t) : Hull (ptsL r) t := by
  have hne : ptsL r ≠ [] := by
    intro e
    rw [tightO, e] at h
    cases h
  obtain ⟨k, e, K⟩ := hull_of _ hne
  rw [tightO, e] at h
  cases h
  exact K
theorem tight_has {r : Reg} {p : Pnt} (h : inR p r) : ∃ t, tightO r = some t ∧ inR p t := by
  have hle : (rowB r p.x).fr ≤ p.y ∧ p.y ≤ (rowB r p.x).to := by
    unfold inR inB at h
    unfold rowB
    dsimp only
    omega
  have m1 : (⟨p.x, (rowB r p.x).fr⟩ : Pnt) ∈ ptsL r := ptsL_iff.2 ⟨by unfold inR inB at *; unfold rowB at *; dsimp only at *; omega, .inl rfl⟩
  have m2 : (⟨p.x, (rowB r p.x).to⟩ : Pnt) ∈ ptsL r := ptsL_iff.2 ⟨by unfold inR inB at *; unfold rowB at *; dsimp only at *; omega, .inr rfl⟩
  obtain ⟨t, e, T⟩ := hull_of _ (List.ne_nil_of_mem m1)
  refine ⟨t, e, ?_⟩
  have a := T.has _ m1
  have b := T.has _ m2
  unfold inR inB at *
  dsimp only at *
  omega
theorem tight_in {r t : Reg} (h : tightO r = some t) {p : Pnt} (hp : inR p r) : inR p t := by
  obtain ⟨t', e, ht⟩ := tight_has hp
  rw [h] at e
  cases e
  exact ht
theorem tight_of {r t : Reg} (h : tightO r = some t) {p : Pnt} (hp : inR p t) : inR p r := by
  have T := tight_hull h
  obtain ⟨p1, m1, e1⟩ := T.xlo
  obtain ⟨p2, m2, e2⟩ := T.xhi
  obtain ⟨p3, m3, e3⟩ := T.ylo
  obtain ⟨p4, m4, e4⟩ := T.yhi
  obtain ⟨p5, m5, e5⟩ := T.slo
  obtain ⟨p6, m6, e6⟩ := T.shi
  obtain ⟨p7, m7, e7⟩ := T.dlo
  obtain ⟨p8, m8, e8⟩ := T.dhi
  have a1 := (ptsL_iff.1 m1).1
  have a2 := (ptsL_iff.1 m2).1
  have a3 := (ptsL_iff.1 m3).1
  have a4 := (ptsL_iff.1 m4).1
  have a5 := (ptsL_iff.1 m5).1
  have a6 := (ptsL_iff.1 m6).1
  have a7 := (ptsL_iff.1 m7).1
  have a8 := (ptsL_iff.1 m8).1
  unfold inR inB at *
  omega
theorem tight_ok {r t : Reg} (hr : okReg r = true) (h : tightO r = some t) : okReg t = true := by
  have T := tight_hull h
  have hp : ∀ p ∈ ptsL r, -32768 ≤ p.x ∧ p.x ≤ 32768 ∧ -32768 ≤ p.y ∧ p.y ≤ 32768 := fun p hp => ptsL_mid hr hp
  obtain ⟨p1, m1, e1⟩ := T.xlo
  obtain ⟨p2, m2, e2⟩ := T.xhi
  obtain ⟨p3, m3, e3⟩ := T.ylo
  obtain ⟨p4, m4, e4⟩ := T.yhi
  obtain ⟨p5, m5, e5⟩ := T.slo
  obtain ⟨p6, m6, e6⟩ := T.shi
  obtain ⟨p7, m7, e7⟩ := T.dlo
  obtain ⟨p8, m8, e8⟩ := T.dhi
  have a1 := hp _ m1
  have a2 := hp _ m2
  have a3 := hp _ m3
  have a4 := hp _ m4
  have a5 := hp _ m5
  have a6 := hp _ m6
  have a7 := hp _ m7
  have a8 := hp _ m8
  have b := T.has _ m1
  unfold okReg okBnd
  unfold inR inB at b
  simp only [Bool.and_eq_true, decide_eq_true_eq]
  omega
end Go.Proofs.YtfengddpfeneiaaGreat
namespace Go.Proofs.YtfengddpfeneiaaGreat
open Go.RowKit Go.Shelf
set_option linter.unusedSimpArgs false
set_option linter.unusedVariables false

def drTo (b : Bnd) (bits : List Int) (fr : Int) (k : Nat) : List Int := (List.range k).map fun i => insB bits fr i b
/-! Sum -/
/-! Earlier -/
end Go.Proofs.YtfengddpfeneiaaGreat
namespace Go.Proofs.YtfengddpfeneiaaGreat
open Go.RowKit Go.Shelf
set_option linter.unusedSimpArgs false
set_option linter.unusedVariables false

end Go.Proofs.YtfengddpfeneiaaGreat
namespace Go.Proofs.YtfengddpfeneiaaGreat
open Go.RowKit Go.Shelf

theorem rootS_bd {n : Int} (h : 0 ≤ n) : 0 ≤ rootS n ∧ rootS n * rootS n ≤ n := by
  obtain ⟨m, rfl⟩ : ∃ m : Nat, n = m := ⟨n.toNat, by omega⟩
  unfold rootS
  rw [Int.toNat_natCast]
  obtain ⟨h1, _⟩ := isq_spec m
  exact ⟨by omega, by exact_mod_cast h1⟩
theorem shortS_bd {len m : Int} (h1 : 0 ≤ len) (h2 : len ≤ 1000) (h3 : 0 ≤ m) : 0 ≤ shortS len m ∧ shortS len m ≤ 1000 := by
  have m1 : min m len * min m len ≤ len * len := sq_le (by omega) (by omega)
  have m2 : len * len ≤ 1000 * 1000 := sq_le h1 h2
  have m3 : 0 ≤ min m len * min m len := Int.mul_nonneg (by omega) (by omega)
  obtain ⟨r1, r2⟩ := rootS_bd (show 0 ≤ len * len - min m len * min m len by omega)
  refine ⟨r1, ?_⟩
  show rootS _ ≤ _
  rcases Int.lt_or_le 1000 (rootS (len * len - min m len * min m len)) with h | h
  · have := sq_le (show (0 : Int) ≤ 1001 by omega) (show 1001 ≤ rootS (len * len - min m len * min m len) by omega)
    omega
  · exact h
theorem sec_len {s : Strm} (ho : okStrm s = true) (k : Nat) : 0 ≤ (s.sec k).len ∧ (s.sec k).len ≤ 1000 := by
  by_cases hk : k < s.secs.length
  · have := ok_sec ho hk
    obtain ⟨k0, k1, _⟩ := of_decide_eq_true this
    omega
  · have : s.sec k = sec0 := by unfold Strm.sec; rw [List.getD_eq_getElem?_getD, List.getElem?_eq_none (by omega)]; rfl
    rw [this]; decide
theorem farS_bd {s : Strm} (ho : okStrm s = true) : ∀ k : Nat, 0 ≤ farS s k ∧ farS s k ≤ 1000 * k
  | 0 => by simp [farS]
  | k + 1 => by
    have := farS_bd ho k
    have := sec_len ho k
    simp only [farS]
    push_cast
    omega
theorem bend_hi {s : Strm} {bs : List Bnd} (hh : headOk s) (hl : bs.all (okBnd 16384) = true) (k : Nat) : 0 ≤ ((bendL s bs).getD k ⟨0, 0⟩).hi ∧ ((bendL s bs).getD k ⟨0, 0⟩).hi ≤ 32768 := by
  rw [List.getD_eq_getElem?_getD]
  cases h : (bendL s bs)[k]? with
  | none => decide
  | some b => have := bendL_bd hh hl h; simp; omega
theorem nearS_bd {s : Strm} {bs : List Bnd} (ho : okStrm s = true) (hl : bs.all (okBnd 16384) = true) : ∀ k : Nat, 0 ≤ nearS s bs k ∧ nearS s bs k ≤ 1000 * k
  | 0 => by simp [nearS]
  | k + 1 => by
    have := nearS_bd ho hl k
    have h1 := sec_len ho k
    have := shortS_bd h1.1 h1.2 (bend_hi (ok_head ho) hl k).1
    simp only [nearS]
    push_cast
    omega
def nodesTo (s : Strm) (bs : List Bnd) (k : Nat) : List Reg := (List.range k).map (nodeR s bs)
theorem nodesTo_succ (s : Strm) (bs : List Bnd) (k : Nat) : nodesTo s bs (k + 1) = nodesTo s bs k ++ [nodeR s bs k] := by
  unfold nodesTo; rw [List.range_succ, List.map_append]; rfl
theorem Tryz.infoReg : (Tryz.prog.info? 42).map (fun i => (i.zero, i.size, i.bytes)) = some (some (.agg #[.int .i64 0, .int .i64 0, .int .i64 0, .int .i64 0, .int .i64 0, .int .i64 0, .int .i64 0, .int .i64 0]), 8, 64) := by kernel_rfl
theorem ownsRow_set8 {w : World} {base : Nat} {e : TypeId} {size : Nat} {v : Value} {n : Nat} {xs : List Value} {g : Nat} (h : w.ownsRow base e size v n xs) (hg : v.ownBlock ≠ some g) (v0 v1 v2 v3 v4 v5 v6 v7 : Value) : (set8 w g v0 v1 v2 v3 v4 v5 v6 v7).ownsRow base e size v n xs :=
  ownsRow_setCell (ownsRow_setCell (ownsRow_setCell (ownsRow_setCell (ownsRow_setCell (ownsRow_setCell (ownsRow_setCell (ownsRow_setCell h (p := ⟨g, 0, none⟩) hg v0) (p := ⟨g, 1, none⟩) hg v1) (p := ⟨g, 2, none⟩) hg v2) (p := ⟨g, 3, none⟩) hg v3) (p := ⟨g, 4, none⟩) hg v4) (p := ⟨g, 5, none⟩) hg v5) (p := ⟨g, 6, none⟩) hg v6) (p := ⟨g, 7, none⟩) hg v7
/-- A row of regions of the call's own. -/
def OwnRegs (w0 : World) (n : Nat) (L : List Reg) (e : Ending) (w' : World) : Prop :=
  ∃ O co, e = .returned (.slice O n co) ∧ SlAt w' w0.heap.size 8 Reg.cells O n co L ∧ Below w0.heap.size w0 w'
set_option maxRecDepth 100000 in
set_option maxHeartbeats 4000000 in
theorem nodes_any (s : Strm) (A O : Option Addr) (n c co B1 B : Nat) (bs : List Bnd) (w : World) (ho : okStrm s = true) (hl : okOffs s bs = true) (hss : SlAt w B1 5 Sec.cells A n c s.secs) (hs : SlAt w B 2 Bnd.cells O n co bs) :
    Calls Tryz.prog 72 #[.agg #[.int .i64 s.head, .slice A n c, .int .i64 s.lane.lo, .int .i64 s.lane.hi, .int .i64 s.bend], .slice O n co] w (OwnRegs w n (nodesL s bs)) := by
  have hh := Lib.hid (ok_head ho)
  have hla := Lib.hid (okOffs_all hl)
  have hbl := Lib.hid hs.len
  have hsl := Lib.hid hss.len
  have hn8 : n ≤ 8 := by have := hh.out; unfold headOk at this; have := hsl.out; omega
  replace ho := Lib.hid ho
  replace hl := Lib.hid hl
  go_enter Tryz.func72, Tryz.ntmps72
  go_wp2_with fail
  refine (bends_any s A O n c n co B bs _ hh.out hla.out (hs.alloc _)).mono ?_
  rintro e w1 ⟨O', co', rfl, hown, hr, hb1⟩
  have k2 := (Blk.new w _ _).below hb1
  have b1 := ((Below.refl w.heap.size w).alloc (Nat.le_refl _) _).trans (hb1.mono (by simp))
  have hss1 := (hss.alloc _).below hb1
  have hs1 := (hs.alloc _).below hb1
  have hbdl := Lib.hid (show (bendL s bs).length = n by rw [bendL, eachL_length]; exact hbl.out)
  clear hown hb1 hss hs
  go_wp2_with fail
  go_loopw [5, 6, 7, 15] (fun v f q i wr => ∃ k : Nat, i = .int .i64 k ∧ k ≤ n ∧ f = .int .i64 (farS s k) ∧ q = .int .i64 (nearS s bs k) ∧ wr.ownsRow w1.heap.size 42 8 v k ((nodesTo s bs k).flatMap Reg.cells) ∧ Below w1.heap.size w1 wr) (fun v f q i wr => n - (intOf i).toNat)
  case atStart =>
    exact ⟨0, rfl, Nat.zero_le _, rfl, rfl, ⟨rfl, .inl ⟨rfl, rfl⟩⟩, Below.refl _ _⟩
  case round =>
    obtain ⟨k, rfl, hk, rfl, rfl, hown, hb⟩ := hrel
    by_cases hlt : k < n
    · have hk0 : (0 : Int) ≤ (k : Int) := by omega
      have hk1 : (k : Int) < (n : Int) := by omega
      obtain ⟨y, hy⟩ := some_of_lt hbdl.out hlt
      have hyd : (bendL s bs).getD k ⟨0, 0⟩ = y := by rw [List.getD_eq_getElem?_getD, hy]; rfl
      obtain ⟨z, hz⟩ := some_of_lt hbl.out hlt
      have hzd : bs.getD k ⟨0, 0⟩ = z := by rw [List.getD_eq_getElem?_getD, hz]; rfl
      have hks : k < s.secs.length := by have := hsl.out; omega
      obtain ⟨bb, ob, hO, -, hbbl, e0, e1⟩ := hr.bnd hy
      obtain ⟨bs_, os_, hA, -, hsbl, g0, -⟩ := hss1.sec (sec_at s hks)
      obtain ⟨bz, oz, hOz, -, hzbl, z0, z1⟩ := hs1.bnd hz
      replace e0 := (hb.cell (by dsimp only; omega)).trans e0
      replace e1 := (hb.cell (by dsimp only; omega)).trans e1
      have hyb := bend_hi hh.out hla.out k
      rw [hyd] at hyb
      have hsb := sec_len ho.out k
      have hfb := farS_bd ho.out k
      have hnb := nearS_bd ho.out hla.out k
      have hshb := shortS_bd hsb.1 hsb.2 hyb.1
      have hfs : Hid (farS s (k + 1) = farS s k + (s.sec k).len) := rfl
      have hns : Hid (nearS s bs (k + 1) = nearS s bs k + shortS (s.sec k).len y.hi) := by show nearS s bs k + shortS (s.sec k).len ((bendL s bs).getD k ⟨0, 0⟩).hi = _; rw [hyd]
      have hnode : Hid (nodeR s bs k = (tightR { allReg with x := ⟨-(farS s k + (s.sec k).len), -(nearS s bs k + shortS (s.sec k).len y.hi)⟩, y := z }).1) := by
        show nodeR s bs k = _
        unfold nodeR
        rw [hzd, hfs.out, hns.out]
      have hshort := fun W => shortest_any (s.sec k).len y.hi W hsb.1 hsb.2 hyb.1 (by omega)
      have t1 := IntWalk.i64_in (farS s k + (s.sec k).len) (by omega)
      have t2 := IntWalk.i64_in (nearS s bs k + shortS (s.sec k).len y.hi) (by omega)
      have t3 := IntWalk.i64_in (-(farS s k + (s.sec k).len)) (by omega)
      have t4 := IntWalk.i64_in (-(nearS s bs k + shortS (s.sec k).len y.hi)) (by omega)
      replace hy := Lib.hid hy
      replace hz := Lib.hid hz
      clear hyd hzd
      generalize shortS (s.sec k).len y.hi = sh at *
      generalize (s.sec k).len = ln at *
      generalize farS s k = fa at *
      generalize nearS s bs k = ne at *
      subst hO
      subst hA
      subst hOz
      have k2w := k2.belowB hb k2.lt
      have g0w := (hb.cell (p := ⟨bs_, os_ + k * 5, none⟩) hsbl).trans g0
      obtain ⟨c2, f2, l2⟩ := k2w.rules
      have lsb : bs_ < wr.heap.size := by have := hb.size; omega
      have lbz : bz < w1.heap.size := Nat.lt_of_lt_of_le hzbl (Nat.le_refl _)
      go_wp2_with fail
      clear c2 f2 l2
      have k9 := Blk.new wr 40 #[.int .i64 y.lo, .int .i64 y.hi]
      have k2a := k2w.alloc (.cells #[.int .i64 y.lo, .int .i64 y.hi] 40)
      have g0a := (World.cell?_alloc_lt wr (.cells #[.int .i64 y.lo, .int .i64 y.hi] 40) ⟨bs_, os_ + k * 5, none⟩ lsb).trans g0w
      have hba := hb.alloc hb.size (.cells #[.int .i64 y.lo, .int .i64 y.hi] 40)
      have howna := hown.alloc (.cells #[.int .i64 y.lo, .int .i64 y.hi] 40)
      have lwr : w1.heap.size ≤ wr.heap.size := hb.size
      clear hb hown k2w g0w e0 e1
      generalize hWA : wr.alloc (.cells #[.int .i64 y.lo, .int .i64 y.hi] 40) = WA at *
      clear hWA
      refine wp_held_np (fun w' : World => (∀ j, w'.cell? ⟨w.heap.size, j, none⟩ = #[Value.int .i64 s.head, .slice (some ⟨bs_, os_, none⟩) n c, .int .i64 s.lane.lo, .int .i64 s.lane.hi, .int .i64 s.bend][j]?) ∧ (∀ j, w'.cell? ⟨wr.heap.size, j, none⟩ = #[Value.int .i64 y.lo, .int .i64 y.hi][j]?) ∧ w'.cell? ⟨bs_, os_ + k * 5, none⟩ = some (.int .i64 ln)) (by kernel_rfl) ?_
      have hS : (fun w' : World => (∀ j, w'.cell? ⟨w.heap.size, j, none⟩ = #[Value.int .i64 s.head, .slice (some ⟨bs_, os_, none⟩) n c, .int .i64 s.lane.lo, .int .i64 s.lane.hi, .int .i64 s.bend][j]?) ∧ (∀ j, w'.cell? ⟨wr.heap.size, j, none⟩ = #[Value.int .i64 y.lo, .int .i64 y.hi][j]?) ∧ w'.cell? ⟨bs_, os_ + k * 5, none⟩ = some (.int .i64 ln)) WA.drew := ⟨k2a.cell, k9.cell, g0a⟩
      replace hba := hba.drew
      replace howna : WA.drew.ownsRow _ _ _ _ _ _ := howna
      clear k2a k9 g0a
      generalize WA.drew = W at *
      refine held_take (i := 0) (v := ?_) 29 rfl rfl (by kernel_rfl) (by kernel_rfl) (by kernel_rfl) (fun _ _ _ h => h) (Or.inl ⟨by rfl, ?_⟩) hS ?_
      rotate_left 1
      · intro w' hSw
        try dsimp only at hSw
        obtain ⟨q1, q2, q3⟩ := hSw
        go_simp
        all_goals with_reducible rfl
      try simp only [Act.put, List.setIfInBounds_toArray, List.set_cons_zero, List.set_cons_succ]
      refine held_take (i := 1) (v := ?_) 30 rfl rfl (by kernel_rfl) (by kernel_rfl) (by kernel_rfl) (fun _ _ _ h => h) (Or.inl ⟨by rfl, ?_⟩) hS ?_
      rotate_left 1
      · intro w' hSw
        try dsimp only at hSw
        obtain ⟨q1, q2, q3⟩ := hSw
        go_simp
        all_goals with_reducible rfl
      try simp only [Act.put, List.setIfInBounds_toArray, List.set_cons_zero, List.set_cons_succ]
      refine held_take (i := 2) (v := ?_) 31 rfl rfl (by kernel_rfl) (by kernel_rfl) (by kernel_rfl) (fun _ _ _ h => h) (Or.inl ⟨by rfl, ?_⟩) hS ?_
      rotate_left 1
      · intro w' hSw
        try dsimp only at hSw
        obtain ⟨q1, q2, q3⟩ := hSw
        go_simp
        all_goals with_reducible rfl
      try simp only [Act.put, List.setIfInBounds_toArray, List.set_cons_zero, List.set_cons_succ]
      refine held_take (i := 3) (v := ?_) 32 rfl rfl (by kernel_rfl) (by kernel_rfl) (by kernel_rfl) (fun _ _ _ h => h) (Or.inl ⟨by rfl, ?_⟩) hS ?_
      rotate_left 1
      · intro w' hSw
        try dsimp only at hSw
        obtain ⟨q1, q2, q3⟩ := hSw
        go_simp
        all_goals with_reducible rfl
      try simp only [Act.put, List.setIfInBounds_toArray, List.set_cons_zero, List.set_cons_succ]
      refine held_take (i := 4) (v := ?_) 33 rfl rfl (by kernel_rfl) (by kernel_rfl) (by kernel_rfl) (fun _ _ _ h => h) (Or.inl ⟨by rfl, ?_⟩) hS ?_
      rotate_left 1
      · intro w' hSw
        try dsimp only at hSw
        obtain ⟨q1, q2, q3⟩ := hSw
        go_simp
        all_goals with_reducible rfl
      try simp only [Act.put, List.setIfInBounds_toArray, List.set_cons_zero, List.set_cons_succ]
      refine held_take (i := 5) (v := ?_) 34 rfl rfl (by kernel_rfl) (by kernel_rfl) (by kernel_rfl) (fun _ _ _ h => h) (Or.inl ⟨by rfl, ?_⟩) hS ?_
      rotate_left 1
      · intro w' hSw
        try dsimp only at hSw
        obtain ⟨q1, q2, q3⟩ := hSw
        go_simp
        all_goals with_reducible rfl
      try simp only [Act.put, List.setIfInBounds_toArray, List.set_cons_zero, List.set_cons_succ]
      refine held_take (i := 6) (v := ?_) 35 rfl rfl (by kernel_rfl) (by kernel_rfl) (by kernel_rfl) (fun _ _ _ h => h) (Or.inl ⟨by rfl, ?_⟩) hS ?_
      rotate_left 1
      · intro w' hSw
        try dsimp only at hSw
        obtain ⟨q1, q2, q3⟩ := hSw
        go_simp
        all_goals with_reducible rfl
      try simp only [Act.put, List.setIfInBounds_toArray, List.set_cons_zero, List.set_cons_succ]
      refine held_take (i := 7) (v := ?_) 36 rfl rfl (by kernel_rfl) (by kernel_rfl) (by kernel_rfl) (fun _ _ _ h => h) (Or.inl ⟨by rfl, ?_⟩) hS ?_
      rotate_left 1
      · intro w' hSw
        try dsimp only at hSw
        obtain ⟨q1, q2, q3⟩ := hSw
        go_simp
        all_goals with_reducible rfl
      try simp only [Act.put, List.setIfInBounds_toArray, List.set_cons_zero, List.set_cons_succ]
      refine held_take (i := 8) (v := ?_) 37 rfl rfl (by kernel_rfl) (by kernel_rfl) (by kernel_rfl) (fun _ _ _ h => h) (Or.inl ⟨by rfl, ?_⟩) hS ?_
      rotate_left 1
      · intro w' hSw
        try dsimp only at hSw
        obtain ⟨q1, q2, q3⟩ := hSw
        go_simp
        all_goals with_reducible rfl
      try simp only [Act.put, List.setIfInBounds_toArray, List.set_cons_zero, List.set_cons_succ]
      refine held_take (i := 9) (v := ?_) 38 rfl rfl (by kernel_rfl) (by kernel_rfl) (by kernel_rfl) (fun _ _ _ h => h) (Or.inl ⟨by rfl, ?_⟩) hS ?_
      rotate_left 1
      · intro w' hSw
        try dsimp only at hSw
        obtain ⟨q1, q2, q3⟩ := hSw
        go_simp
        all_goals with_reducible rfl
      try simp only [Act.put, List.setIfInBounds_toArray, List.set_cons_zero, List.set_cons_succ]
      refine held_one (i := 10) (by kernel_rfl) rfl rfl (fun K hK => ?_)
      go_simp
      refine (hshort _).mono ?_
      rintro e w' ⟨rfl, rfl⟩
      refine hK _ _ hS ?_
      clear hK K
      try simp only [Act.put, List.setIfInBounds_toArray, List.set_cons_zero, List.set_cons_succ]
      refine held_take (i := 11) (v := ?_) 40 rfl rfl (by kernel_rfl) (by kernel_rfl) (by kernel_rfl) (fun _ _ _ h => h) (Or.inl ⟨by rfl, ?_⟩) hS ?_
      rotate_left 1
      · intro w' hSw
        try dsimp only at hSw
        obtain ⟨q1, q2, q3⟩ := hSw
        go_simp
        all_goals with_reducible rfl
      try simp only [Act.put, List.setIfInBounds_toArray, List.set_cons_zero, List.set_cons_succ]
      refine held_take (i := 12) (v := ?_) 7 rfl rfl (by kernel_rfl) (by kernel_rfl) (by kernel_rfl) (fun _ _ _ h => h) (Or.inl ⟨by rfl, ?_⟩) hS ?_
      rotate_left 1
      · intro w' hSw
        try dsimp only at hSw
        obtain ⟨q1, q2, q3⟩ := hSw
        go_simp
        all_goals with_reducible rfl
      try simp only [Act.put, List.setIfInBounds_toArray, List.set_cons_zero, List.set_cons_succ]
      refine wpAnyH_done (by kernel_rfl) (noPanic_normal ?_) _
      clear hS hshort
      have hall := fun W => All_any W
      simp only [regA, allReg] at hall
      go_wp2_with fail
      refine (hall _).mono ?_
      rintro e w3 ⟨rfl, hb3⟩
      clear hall
      replace howna := ownsRow_below howna hb3
      replace hba := hba.trans (hb3.mono hba.size)
      clear hb3
      have lw3 := hba.size
      have howna0 := howna
      go_wp2_with fail
      have k10 := Blk.new w3 42 #[.int .i64 (-32768), .int .i64 32768, .int .i64 (-32768), .int .i64 32768, .int .i64 (-65536), .int .i64 65536, .int .i64 (-65536), .int .i64 65536]
      replace howna := howna.alloc (.cells #[.int .i64 (-32768), .int .i64 32768, .int .i64 (-32768), .int .i64 32768, .int .i64 (-65536), .int .i64 65536, .int .i64 (-65536), .int .i64 65536] 42)
      replace hba := hba.alloc hba.size (.cells #[.int .i64 (-32768), .int .i64 32768, .int .i64 (-32768), .int .i64 32768, .int .i64 (-65536), .int .i64 65536, .int .i64 (-65536), .int .i64 65536] 42)
      generalize hV0 : w3.alloc (.cells #[.int .i64 (-32768), .int .i64 32768, .int .i64 (-32768), .int .i64 32768, .int .i64 (-65536), .int .i64 65536, .int .i64 (-65536), .int .i64 65536] 42) = V0 at *
      clear hV0
      refine wp_held_np (fun w' : World => w'.cell? ⟨bz, oz + k * 2, none⟩ = some (.int .i64 z.lo) ∧ w'.cell? ⟨bz, oz + k * 2 + 1, none⟩ = some (.int .i64 z.hi)) (by kernel_rfl) ?_
      replace hba := hba.drew
      replace howna : V0.drew.ownsRow _ _ _ _ _ _ := howna
      replace k10 := k10.drew
      generalize V0.drew = V at *
      have hS : (fun w' : World => w'.cell? ⟨bz, oz + k * 2, none⟩ = some (.int .i64 z.lo) ∧ w'.cell? ⟨bz, oz + k * 2 + 1, none⟩ = some (.int .i64 z.hi)) V := ⟨(hba.cell (p := ⟨bz, oz + k * 2, none⟩) lbz).trans z0, (hba.cell (p := ⟨bz, oz + k * 2 + 1, none⟩) lbz).trans z1⟩
      refine held_take (i := 0) (v := ?_) 42 rfl rfl (by kernel_rfl) (by kernel_rfl) (by kernel_rfl) (fun _ _ _ h => h) (Or.inl ⟨by rfl, ?_⟩) hS ?_
      rotate_left 1
      · intro w' hSw
        try dsimp only at hSw
        obtain ⟨q1, q2⟩ := hSw
        go_simp
        all_goals with_reducible rfl
      try simp only [Act.put, List.setIfInBounds_toArray, List.set_cons_zero, List.set_cons_succ]
      refine held_take (i := 1) (v := ?_) 43 rfl rfl (by kernel_rfl) (by kernel_rfl) (by kernel_rfl) (fun _ _ _ h => h) (Or.inl ⟨by rfl, ?_⟩) hS ?_
      rotate_left 1
      · intro w' hSw
        try dsimp only at hSw
        obtain ⟨q1, q2⟩ := hSw
        go_simp
        all_goals with_reducible rfl
      try simp only [Act.put, List.setIfInBounds_toArray, List.set_cons_zero, List.set_cons_succ]
      refine held_take (i := 2) (v := ?_) 44 rfl rfl (by kernel_rfl) (by kernel_rfl) (by kernel_rfl) (fun _ _ _ h => h) (Or.inl ⟨by rfl, ?_⟩) hS ?_
      rotate_left 1
      · intro w' hSw
        try dsimp only at hSw
        obtain ⟨q1, q2⟩ := hSw
        go_simp
        all_goals with_reducible rfl
      try simp only [Act.put, List.setIfInBounds_toArray, List.set_cons_zero, List.set_cons_succ]
      refine held_take (i := 3) (v := ?_) 45 rfl rfl (by kernel_rfl) (by kernel_rfl) (by kernel_rfl) (fun _ _ _ h => h) (Or.inl ⟨by rfl, ?_⟩) hS ?_
      rotate_left 1
      · intro w' hSw
        try dsimp only at hSw
        obtain ⟨q1, q2⟩ := hSw
        go_simp
        all_goals with_reducible rfl
      try simp only [Act.put, List.setIfInBounds_toArray, List.set_cons_zero, List.set_cons_succ]
      refine held_take (i := 4) (v := ?_) 46 rfl rfl (by kernel_rfl) (by kernel_rfl) (by kernel_rfl) (fun _ _ _ h => h) (Or.inl ⟨by rfl, ?_⟩) hS ?_
      rotate_left 1
      · intro w' hSw
        try dsimp only at hSw
        obtain ⟨q1, q2⟩ := hSw
        go_simp
        all_goals with_reducible rfl
      try simp only [Act.put, List.setIfInBounds_toArray, List.set_cons_zero, List.set_cons_succ]
      refine held_take (i := 5) (v := ?_) 47 rfl rfl (by kernel_rfl) (by kernel_rfl) (by kernel_rfl) (fun _ _ _ h => h) (Or.inl ⟨by rfl, ?_⟩) hS ?_
      rotate_left 1
      · intro w' hSw
        try dsimp only at hSw
        obtain ⟨q1, q2⟩ := hSw
        go_simp
        all_goals with_reducible rfl
      try simp only [Act.put, List.setIfInBounds_toArray, List.set_cons_zero, List.set_cons_succ]
      refine held_take (i := 6) (v := ?_) 48 rfl rfl (by kernel_rfl) (by kernel_rfl) (by kernel_rfl) (fun _ _ _ h => h) (Or.inl ⟨by rfl, ?_⟩) hS ?_
      rotate_left 1
      · intro w' hSw
        try dsimp only at hSw
        obtain ⟨q1, q2⟩ := hSw
        go_simp
        all_goals with_reducible rfl
      try simp only [Act.put, List.setIfInBounds_toArray, List.set_cons_zero, List.set_cons_succ]
      refine held_take (i := 7) (v := ?_) 49 rfl rfl (by kernel_rfl) (by kernel_rfl) (by kernel_rfl) (fun _ _ _ h => h) (Or.inl ⟨by rfl, ?_⟩) hS ?_
      rotate_left 1
      · intro w' hSw
        try dsimp only at hSw
        obtain ⟨q1, q2⟩ := hSw
        go_simp
        all_goals with_reducible rfl
      try simp only [Act.put, List.setIfInBounds_toArray, List.set_cons_zero, List.set_cons_succ]
      refine held_take (i := 8) (v := ?_) 50 rfl rfl (by kernel_rfl) (by kernel_rfl) (by kernel_rfl) (fun _ _ _ h => h) (Or.inl ⟨by rfl, ?_⟩) hS ?_
      rotate_left 1
      · intro w' hSw
        try dsimp only at hSw
        obtain ⟨q1, q2⟩ := hSw
        go_simp
        all_goals with_reducible rfl
      try simp only [Act.put, List.setIfInBounds_toArray, List.set_cons_zero, List.set_cons_succ]
      refine held_take (i := 9) (v := ?_) 51 rfl rfl (by kernel_rfl) (by kernel_rfl) (by kernel_rfl) (fun _ _ _ h => h) (Or.inl ⟨by rfl, ?_⟩) hS ?_
      rotate_left 1
      · intro w' hSw
        try dsimp only at hSw
        obtain ⟨q1, q2⟩ := hSw
        go_simp
        all_goals with_reducible rfl
      try simp only [Act.put, List.setIfInBounds_toArray, List.set_cons_zero, List.set_cons_succ]
      have hvne : u5.ownBlock ≠ some w3.heap.size := fun e => by
        have := howna0.lt _ e
        omega
      have k10a := (k10.set_ 0 (.int .i64 (-(fa + ln)))).set_ 1 (.int .i64 (-(ne + sh)))
      have hbb := (hba.setCell (p := ⟨w3.heap.size, 0, none⟩) lw3 (.int .i64 (-(fa + ln)))).setCell (p := ⟨w3.heap.size, 1, none⟩) lw3 (.int .i64 (-(ne + sh)))
      have hownb := ownsRow_setCell (ownsRow_setCell howna (p := ⟨w3.heap.size, 0, none⟩) hvne (.int .i64 (-(fa + ln)))) (p := ⟨w3.heap.size, 1, none⟩) hvne (.int .i64 (-(ne + sh)))
      obtain ⟨c10, f10, l10⟩ := k10.rules
      refine held_one (i := 10) (by kernel_rfl) rfl rfl (fun K hK => ?_)
      go_simp
      refine hK _ _ ⟨(hbb.cell (p := ⟨bz, oz + k * 2, none⟩) lbz).trans z0, (hbb.cell (p := ⟨bz, oz + k * 2 + 1, none⟩) lbz).trans z1⟩ ?_
      clear hK K c10 f10 l10 hS k10 hba howna
      simp only [List.setIfInBounds_toArray, List.set_cons_zero, List.set_cons_succ] at k10a
      generalize (V.setCell ⟨w3.heap.size, 0, none⟩ (.int .i64 (-(fa + ln)))).setCell ⟨w3.heap.size, 1, none⟩ (.int .i64 (-(ne + sh))) = V1 at *
      have hS : (fun w' : World => w'.cell? ⟨bz, oz + k * 2, none⟩ = some (.int .i64 z.lo) ∧ w'.cell? ⟨bz, oz + k * 2 + 1, none⟩ = some (.int .i64 z.hi)) V1 := ⟨(hbb.cell (p := ⟨bz, oz + k * 2, none⟩) lbz).trans z0, (hbb.cell (p := ⟨bz, oz + k * 2 + 1, none⟩) lbz).trans z1⟩
      try simp only [Act.put, List.setIfInBounds_toArray, List.set_cons_zero, List.set_cons_succ]
      refine held_take (i := 11) (v := ?_) 52 rfl rfl (by kernel_rfl) (by kernel_rfl) (by kernel_rfl) (fun _ _ _ h => h) (Or.inl ⟨by rfl, ?_⟩) hS ?_
      rotate_left 1
      · intro w' hSw
        try dsimp only at hSw
        obtain ⟨q1, q2⟩ := hSw
        go_simp
        all_goals with_reducible rfl
      try simp only [Act.put, List.setIfInBounds_toArray, List.set_cons_zero, List.set_cons_succ]
      have k10b := (k10a.set_ 2 (.int .i64 z.lo)).set_ 3 (.int .i64 z.hi)
      have hbc := (hbb.setCell (p := ⟨w3.heap.size, 2, none⟩) lw3 (.int .i64 z.lo)).setCell (p := ⟨w3.heap.size, 3, none⟩) lw3 (.int .i64 z.hi)
      have hownc := ownsRow_setCell (ownsRow_setCell hownb (p := ⟨w3.heap.size, 2, none⟩) hvne (.int .i64 z.lo)) (p := ⟨w3.heap.size, 3, none⟩) hvne (.int .i64 z.hi)
      obtain ⟨c10, f10, l10⟩ := k10a.rules
      refine held_one (i := 12) (by kernel_rfl) rfl rfl (fun K hK => ?_)
      go_simp
      refine hK _ _ ⟨(hbc.cell (p := ⟨bz, oz + k * 2, none⟩) lbz).trans z0, (hbc.cell (p := ⟨bz, oz + k * 2 + 1, none⟩) lbz).trans z1⟩ ?_
      clear hK K c10 f10 l10 hS k10a hbb hownb
      simp only [List.setIfInBounds_toArray, List.set_cons_zero, List.set_cons_succ] at k10b
      generalize (V1.setCell ⟨w3.heap.size, 2, none⟩ (.int .i64 z.lo)).setCell ⟨w3.heap.size, 3, none⟩ (.int .i64 z.hi) = V2 at *
      refine wpAnyH_done (by kernel_rfl) (noPanic_normal ?_) _
      have hti := fun W => Tight_any { allReg with x := ⟨-(fa + ln), -(ne + sh)⟩, y := z } W
      simp only [← hnode.out] at hti
      simp only [regA, allReg] at hti
      obtain ⟨R, hR⟩ : ∃ R, nodeR s bs k = R := ⟨_, rfl⟩
      simp only [hR] at hti
      replace hR := Lib.hid hR
      obtain ⟨c10, f10, l10⟩ := k10b.rules
      go_wp2_with fail
      refine (hti _).mono ?_
      rintro e w6 ⟨rfl, hb6⟩
      clear hti c10 f10 l10
      have k10c := k10b.below hb6
      have hownd := ownsRow_below hownc hb6
      have hbd := hbc.trans (hb6.mono hbc.size)
      clear k10b hownc hbc hb6
      have k10d := k10c.set8 (.int .i64 R.x.lo) (.int .i64 R.x.hi) (.int .i64 R.y.lo) (.int .i64 R.y.hi) (.int .i64 R.s.lo) (.int .i64 R.s.hi) (.int .i64 R.d.lo) (.int .i64 R.d.hi)
      have hbe := below_set8 (g := w3.heap.size) hbd lw3 (.int .i64 R.x.lo) (.int .i64 R.x.hi) (.int .i64 R.y.lo) (.int .i64 R.y.hi) (.int .i64 R.s.lo) (.int .i64 R.s.hi) (.int .i64 R.d.lo) (.int .i64 R.d.hi)
      have howne := ownsRow_set8 (g := w3.heap.size) hownd hvne (.int .i64 R.x.lo) (.int .i64 R.x.hi) (.int .i64 R.y.lo) (.int .i64 R.y.hi) (.int .i64 R.s.lo) (.int .i64 R.s.hi) (.int .i64 R.d.lo) (.int .i64 R.d.hi)
      obtain ⟨c10, f10, l10⟩ := k10c.rules
      have hsz8 : (set8 w6 w3.heap.size (.int .i64 R.x.lo) (.int .i64 R.x.hi) (.int .i64 R.y.lo) (.int .i64 R.y.hi) (.int .i64 R.s.lo) (.int .i64 R.s.hi) (.int .i64 R.d.lo) (.int .i64 R.d.hi)).heap.size = w6.heap.size := by simp [set8, World.setCell]
      have hnews : ∀ (j : Nat) (u : Value), (Reg.cells R)[j]? = some u → ((set8 w6 w3.heap.size (.int .i64 R.x.lo) (.int .i64 R.x.hi) (.int .i64 R.y.lo) (.int .i64 R.y.hi) (.int .i64 R.s.lo) (.int .i64 R.s.hi) (.int .i64 R.d.lo) (.int .i64 R.d.hi)).alloc (.cells #[.int .i64 R.x.lo, .int .i64 R.x.hi, .int .i64 R.y.lo, .int .i64 R.y.hi, .int .i64 R.s.lo, .int .i64 R.s.hi, .int .i64 R.d.lo, .int .i64 R.d.hi] 42)).cell? ((⟨w6.heap.size, 0, none⟩ : Addr).add j) = some u :=
        World.news_of_block (cs := #[.int .i64 R.x.lo, .int .i64 R.x.hi, .int .i64 R.y.lo, .int .i64 R.y.hi, .int .i64 R.s.lo, .int .i64 R.s.hi, .int .i64 R.d.lo, .int .i64 R.d.hi]) (t := 42) (fr := (0, 0)) (by rw [← hsz8]; exact World.alloc_heap_new _ _)
      have hownf := howne.alloc (.cells #[.int .i64 R.x.lo, .int .i64 R.x.hi, .int .i64 R.y.lo, .int .i64 R.y.hi, .int .i64 R.s.lo, .int .i64 R.s.hi, .int .i64 R.d.lo, .int .i64 R.d.hi] 42)
      have hbf := hbe.alloc hbe.size (.cells #[.int .i64 R.x.lo, .int .i64 R.x.hi, .int .i64 R.y.lo, .int .i64 R.y.hi, .int .i64 R.s.lo, .int .i64 R.s.hi, .int .i64 R.d.lo, .int .i64 R.d.hi] 42)
      have hszf : ((set8 w6 w3.heap.size (.int .i64 R.x.lo) (.int .i64 R.x.hi) (.int .i64 R.y.lo) (.int .i64 R.y.hi) (.int .i64 R.s.lo) (.int .i64 R.s.hi) (.int .i64 R.d.lo) (.int .i64 R.d.hi)).alloc (.cells #[.int .i64 R.x.lo, .int .i64 R.x.hi, .int .i64 R.y.lo, .int .i64 R.y.hi, .int .i64 R.s.lo, .int .i64 R.s.hi, .int .i64 R.d.lo, .int .i64 R.d.hi] 42)).heap.size = w6.heap.size + 1 := by rw [World.size_alloc, hsz8]
      clear k10c hownd hbd k10d howne hbe
      obtain ⟨i0, hi0, hz0, hz1, hz2⟩ := info_parts Tryz.infoReg
      have hnx := Lib.hid (nodesTo_succ s bs k)
      have hbig1 : Hid (k + 1 ≤ maxLen) := by show k + 1 ≤ maxLen; unfold maxLen; omega
      have hbig2 : Hid ((k + 1) * 64 ≤ 140737488355328) := by show (k + 1) * 64 ≤ 140737488355328; omega
      have hone : Hid (∀ u ∈ Reg.cells R, u.oneCell' = true) := by show ∀ u ∈ Reg.cells R, u.oneCell' = true; intro u hu; simp [Reg.cells] at hu; rcases hu with rfl | rfl | rfl | rfl | rfl | rfl | rfl | rfl <;> rfl
      go_wp2_with (at_builtin; refine wpList_append_lies _ rfl (.tmp 58) (.tmp 60) 28 rfl w1.heap.size 42 i0 (.agg #[.int .i64 0, .int .i64 0, .int .i64 0, .int .i64 0, .int .i64 0, .int .i64 0, .int .i64 0, .int .i64 0]) 8 64 Tryz.underlying28 hi0 hz0 hz1 hz2 rfl (by decide) u5 k ((nodesTo s bs k).flatMap Reg.cells) rfl hownf ⟨w6.heap.size, 0, none⟩ 1 1 (Reg.cells R) rfl rfl hnews hone.out (by decide) hbig1.out hbig2.out hbf.size (w6.heap.size + 1) hszf ?_; intro g cap w7 hown7 hgrow hlies hlt7)
      have hbg : Below w1.heap.size _ w7 := ⟨hgrow.os, hgrow.tape, hgrow.output, hgrow.size, fun b hb => hgrow.block b (Nat.lt_of_lt_of_le hb hbf.size) (fun e => by have := (howna0.lt _ e.symm).1; omega)⟩
      have hbh := hbf.trans hbg
      go_roundw
      case rel =>
        refine ⟨k + 1, by go_num, by omega, by rw [hfs.out], by rw [hns.out], ?_, hbh⟩
        rw [hnx.out, hR.out, List.flatMap_append]
        simpa using hown7
      case measure => simp [intOf]; omega
    · obtain rfl : k = n := by omega
      go_wp2
      go_ret
      obtain ⟨O2, c2, e2, h2⟩ := SlAt.of_own (enc := Reg.cells) hown (by omega) (nodesTo s bs k) rfl (fun _ => rfl) (by simp [nodesTo])
      have hnl : nodesTo s bs k = nodesL s bs := by unfold nodesTo nodesL; rw [hbl.out]
      rw [hnl] at h2
      exact ⟨O2, c2, by rw [e2]; rfl, h2.mono b1.size, b1.trans (hb.mono b1.size)⟩
set_option maxRecDepth 100000 in
set_option maxHeartbeats 1000000 in
theorem Nodes_any (s : Strm) (A O : Option Addr) (n c no co B1 B : Nat) (bs : List Bnd) (w : World) (hss : SlAt w B1 5 Sec.cells A n c s.secs) (hs : SlAt w B 2 Bnd.cells O no co bs) :
    Calls Tryz.prog 22 #[.agg #[.int .i64 s.head, .slice A n c, .int .i64 s.lane.lo, .int .i64 s.lane.hi, .int .i64 s.bend], .slice O no co] w (RetSl 8 Reg.cells (nodesR s bs) w) := by
  by_cases h1 : errB s bs = 0
  · obtain ⟨e1, e2⟩ := errB_zero h1
    have hno : no = n := by have := okOffs_len e2; have := hs.len; have := hss.len; omega
    subst hno
    have hv : nodesR s bs = (nodesL s bs, 0) := by simp [nodesR, h1]
    rw [hv]
    have hnl : (nodesL s bs).length = no := by simp [nodesL, hs.len]
    replace h1 := Lib.hid h1
    replace hnl := Lib.hid hnl
    clear hv
    go_enter Tryz.func22, Tryz.ntmps22
    go_wp2_with fail
    refine (checked_any s A O no c no co B1 B bs _ (hss.alloc _) (hs.alloc _)).mono ?_
    rintro e w1 ⟨r1, -, hb1⟩
    obtain rfl := r1 h1.out
    clear r1
    have b1 := ((Below.refl w.heap.size w).alloc (Nat.le_refl _) _).trans (hb1.mono (by simp))
    have hss1 := ((hss.alloc _).below hb1).alloc (.cells #[.int .i64 s.head, .slice A no c, .int .i64 s.lane.lo, .int .i64 s.lane.hi, .int .i64 s.bend] 137)
    have hs1 := ((hs.alloc _).below hb1).alloc (.cells #[.int .i64 s.head, .slice A no c, .int .i64 s.lane.lo, .int .i64 s.lane.hi, .int .i64 s.bend] 137)
    have b1a := b1.alloc b1.size (.cells #[.int .i64 s.head, .slice A no c, .int .i64 s.lane.lo, .int .i64 s.lane.hi, .int .i64 s.bend] 137)
    go_wp2_with fail
    refine (nodes_any s A O no c co B1 B bs _ e1 e2 hss1 hs1).mono ?_
    rintro e w2 ⟨O', co', rfl, hr, hb2⟩
    go_wp2
    go_ret2
    exact ⟨O', no, co', rfl, hr.mono b1a.size, b1a.trans (hb2.mono b1a.size)⟩
  · have hv : nodesR s bs = ([], errB s bs) := by simp [nodesR, h1]
    rw [hv]
    have h1' : (errB s bs != 0) = true := by rw [bne_iff_ne]; exact h1
    clear hv
    go_enter Tryz.func22, Tryz.ntmps22
    go_wp2_with fail
    refine (checked_any s A O n c no co B1 B bs _ (hss.alloc _) (hs.alloc _)).mono ?_
    rintro e w1 ⟨-, r2, hb1⟩
    obtain rfl := r2 h1
    clear r2
    have b1 := ((Below.refl w.heap.size w).alloc (Nat.le_refl _) _).trans (hb1.mono (by simp))
    go_wp2
    go_ret2
    exact RetSl.none_ (Below.alloc b1 b1.size _)
end Go.Proofs.YtfengddpfeneiaaGreat
namespace Go.Proofs.YtfengddpfeneiaaGreat
set_option linter.unusedSimpArgs false
set_option linter.unusedVariables false
open Go.RowKit Go.Shelf

def bigB (b : Bnd) : Prop := -1000000000 ≤ b.lo ∧ b.lo ≤ 1000000000 ∧ -1000000000 ≤ b.hi ∧ b.hi ≤ 1000000000
theorem extO_big {p q : Int} : ∀ (l : List RRow) (o : Option Bnd), (∀ w ∈ l, -1000000000 ≤ p * w.x + q * w.fr ∧ p * w.x + q * w.fr ≤ 1000000000 ∧ -1000000000 ≤ p * w.x + q * w.to ∧ p * w.x + q * w.to ≤ 1000000000) → (∀ b, o = some b → bigB b) →
    ∀ b, l.foldl (fun o w => addE o (p * w.x + q * w.fr, p * w.x + q * w.to)) o = some b → bigB b
  | [], o, _, ho, b, e => ho b e
  | w :: l, o, hl, ho, b, e => by
    refine extO_big l _ (fun v hv => hl v (List.mem_cons_of_mem _ hv)) (fun b' e' => ?_) b e
    have hw := hl w (List.mem_cons_self ..)
    cases o with
    | none =>
      simp only [addE, Option.some.injEq] at e'
      subst e'
      unfold bigB
      simp only
      omega
    | some g =>
      have hg := ho g rfl
      unfold bigB at hg
      simp only [addE, Option.some.injEq] at e'
      subst e'
      unfold bigB
      simp only
      omega
theorem extB_big {r : Reg} {p q : Int} (hr : okReg r = true) (hp : -2000 ≤ p ∧ p ≤ 2000) (hq : -2000 ≤ q ∧ q ≤ 2000) : bigB (extB r p q) := by
  unfold extB
  cases h : extO (rowsL r) p q with
  | none => simp [bigB]
  | some b =>
    refine extO_big (rowsL r) none (fun w hw => ?_) (fun _ e => by cases e) b h
    obtain ⟨j, hj, rfl, hle⟩ := rowsTo_mem hw
    simp only [okReg, Bool.and_eq_true, okBnd, decide_eq_true_eq] at hr
    obtain ⟨⟨⟨⟨x1, x2, x3⟩, ⟨y1, y2, y3⟩⟩, _⟩, _⟩ := hr
    have hx : j < (r.x.hi + 1 - r.x.lo).toNat := hj
    have e1 : (rowB r (r.x.lo + j)).fr = max r.y.lo (max (r.s.lo - (r.x.lo + j)) (r.x.lo + j - r.d.hi)) := rfl
    have e2 : (rowB r (r.x.lo + j)).to = min r.y.hi (min (r.s.hi - (r.x.lo + j)) (r.x.lo + j - r.d.lo)) := rfl
    have e3 : (rowB r (r.x.lo + j)).x = r.x.lo + j := rfl
    generalize rowB r (r.x.lo + j) = v at *
    have ha := smul_bd hp.1 hp.2 (show -32768 ≤ v.x by omega) (show v.x ≤ 32768 by omega)
    have hb1 := smul_bd hq.1 hq.2 (show -32768 ≤ v.fr by omega) (show v.fr ≤ 32768 by omega)
    have hb2 := smul_bd hq.1 hq.2 (show -32768 ≤ v.to by omega) (show v.to ≤ 32768 by omega)
    omega
def turnK (r : Reg) (h : Hdg) : Nat → Reg
  | 0 => noReg
  | 1 => { noReg with x := turnB r h.c h.p (-h.q) }
  | 2 => { noReg with x := turnB r h.c h.p (-h.q), y := turnB r h.c h.q h.p }
  | 3 => { noReg with x := turnB r h.c h.p (-h.q), y := turnB r h.c h.q h.p, s := turnB r h.c (h.p + h.q) (h.p - h.q) }
  | _ => turnedS r h
set_option maxRecDepth 100000 in
set_option maxHeartbeats 4000000 in
theorem turned_any (r : Reg) (h : Hdg) (w : World) (hr : okReg r = true) (hh : okHdg h = true) :
    Calls Tryz.prog 73 #[.agg (regA r), .agg #[.int .i64 h.p, .int .i64 h.q, .int .i64 h.c]] w fun e w' => e = .returned (.tuple #[.agg (regA (turnedS r h)), .bool (inPlane (turnedS r h))]) ∧ Below w.heap.size w w' := by
  obtain ⟨h1, h2, h3, h4, h5, h6, -⟩ := of_decide_eq_true hh
  have i0 : ∀ (a b c d a' b' c' d' : Value) w, (Instr.index 209 (.agg #[a, a', b, b', c, c', d, d']) (.int .i64 0)).run Tryz.prog w = .ok (.agg #[a, a']) w := fun _ _ _ _ _ _ _ _ _ => by kernel_rfl
  have i1 : ∀ (a b c d a' b' c' d' : Value) w, (Instr.index 209 (.agg #[a, a', b, b', c, c', d, d']) (.int .i64 1)).run Tryz.prog w = .ok (.agg #[b, b']) w := fun _ _ _ _ _ _ _ _ _ => by kernel_rfl
  have i2 : ∀ (a b c d a' b' c' d' : Value) w, (Instr.index 209 (.agg #[a, a', b, b', c, c', d, d']) (.int .i64 2)).run Tryz.prog w = .ok (.agg #[c, c']) w := fun _ _ _ _ _ _ _ _ _ => by kernel_rfl
  have i3 : ∀ (a b c d a' b' c' d' : Value) w, (Instr.index 209 (.agg #[a, a', b, b', c, c', d, d']) (.int .i64 3)).run Tryz.prog w = .ok (.agg #[d, d']) w := fun _ _ _ _ _ _ _ _ _ => by kernel_rfl
  have t1 := IntWalk.i64_in (-h.q) (by omega)
  have t2 := IntWalk.i64_in (h.p + h.q) (by omega)
  have t3 := IntWalk.i64_in (h.p - h.q) (by omega)
  have t4 := IntWalk.i64_in (-h.q - h.p) (by omega)
  replace hr := Lib.hid hr
  clear hh
  simp only [regA]
  go_enter Tryz.func73, Tryz.ntmps73
  go_wp2_with fail
  go_loopw [45] (fun j wr => ∃ k : Nat, j = jv k ∧ k ≤ 4 ∧ Blk wr w.heap.size 42 (regA r) ∧ Blk wr (w.heap.size + 1) 25 #[.int .i64 h.p, .int .i64 h.q, .int .i64 h.c] ∧ Blk wr (w.heap.size + 1 + 1) 42 (regA noReg) ∧ Blk wr (w.heap.size + 1 + 1 + 1) 116 (regA (turnK r h k)) ∧ Below w.heap.size w wr) (fun j wr => 4 - (intOf j).toNat)
  case atStart =>
    exact ⟨0, rfl, by omega, (((Blk.newAt rfl).alloc _).alloc _).alloc _, ((Blk.newAt (by simp)).alloc _).alloc _, (Blk.newAt (by simp)).alloc _, Blk.newAt (by simp), ((((Below.refl w.heap.size w).alloc (Nat.le_refl _) _).alloc (by simp) _).alloc (by simp; omega) _).alloc (by simp; omega) _⟩
  case round =>
    obtain ⟨k, rfl, hk, k2, k3, k4, k6, hb⟩ := hrel
    match k, hk with
    | 0, _ =>
      rw [show jv 0 = .int .i64 0 from rfl]
      have hext := fun W => extremes_any r h.p (-h.q) W hr.out (by omega) (by omega)
      have hbig := extB_big (r := r) (p := h.p) (q := (-h.q)) hr.out (by omega) (by omega)
      obtain ⟨B, hB⟩ : ∃ B, extB r h.p (-h.q) = B := ⟨_, rfl⟩
      simp only [hB] at hext hbig
      have hT : Hid (turnB r h.c h.p (-h.q) = ⟨floorS B.lo h.c, ceilS B.hi h.c⟩) := by show _ = _; unfold turnB; rw [hB]
      replace hB := Lib.hid hB
      unfold bigB at hbig
      have hf := fun W => floor_any B.lo h.c W (by omega) (by omega) (by omega) (by omega)
      have hg := fun W => ceil_any B.hi h.c W (by omega) (by omega) (by omega) (by omega)
      clear hbig
      simp only [regA] at hext
      simp only [turnK, regA, noReg] at k6
      have k2' := k2
      simp only [regA] at k2
      obtain ⟨c2, f2, l2⟩ := k2.rules
      obtain ⟨c3, f3, l3⟩ := k3.rules
      go_wp2_with fail
      refine (hext _).mono ?_
      rintro e w1 ⟨rfl, hb1⟩
      clear hext c2 f2 l2 c3 f3 l3 k2
      have ba := (Below.refl wr.heap.size wr).alloc (Nat.le_refl _) (.cells #[.int .i64 h.p, .int .i64 (-h.q)] 64)
      replace hb1 := ba.trans (hb1.mono ba.size)
      replace k2 := k2'.below hb1
      replace k3 := k3.below hb1
      replace k4 := k4.below hb1
      replace k6 := k6.below hb1
      replace hb := hb.trans (hb1.mono hb.size)
      clear hb1 ba k2'
      go_wp2_with fail
      have n6 := k6.lt
      have k9 := Blk.new w1 40 #[.int .i64 B.lo, .int .i64 B.hi]
      replace k2 := k2.alloc (.cells #[.int .i64 B.lo, .int .i64 B.hi] 40)
      replace k3 := k3.alloc (.cells #[.int .i64 B.lo, .int .i64 B.hi] 40)
      replace k4 := k4.alloc (.cells #[.int .i64 B.lo, .int .i64 B.hi] 40)
      replace k6 := k6.alloc (.cells #[.int .i64 B.lo, .int .i64 B.hi] 40)
      replace hb := hb.alloc hb.size (.cells #[.int .i64 B.lo, .int .i64 B.hi] 40)
      generalize hW : w1.alloc (.cells #[.int .i64 B.lo, .int .i64 B.hi] 40) = W at *
      refine wp_held_np (fun w' => (∀ j, w'.cell? ⟨w1.heap.size, j, none⟩ = #[Value.int .i64 B.lo, .int .i64 B.hi][j]?) ∧ (∀ j, w'.cell? ⟨w.heap.size + 1, j, none⟩ = #[Value.int .i64 h.p, .int .i64 h.q, .int .i64 h.c][j]?)) (by kernel_rfl) ?_
      have hS : (fun w' : World => (∀ j, w'.cell? ⟨w1.heap.size, j, none⟩ = #[Value.int .i64 B.lo, .int .i64 B.hi][j]?) ∧ (∀ j, w'.cell? ⟨w.heap.size + 1, j, none⟩ = #[Value.int .i64 h.p, .int .i64 h.q, .int .i64 h.c][j]?)) W.drew := ⟨k9.cell, k3.cell⟩
      replace k2 := k2.drew
      replace k3 := k3.drew
      replace k4 := k4.drew
      replace k6 := k6.drew
      replace k9 := k9.drew
      replace hb := hb.drew
      clear hW
      generalize W.drew = V at *
      refine held_take (i := 0) (v := ?_) 55 rfl rfl (by kernel_rfl) (by kernel_rfl) (by kernel_rfl) (fun _ _ _ h => h) (Or.inl ⟨by rfl, ?_⟩) hS ?_
      rotate_left 1
      · intro w' hSw
        try dsimp only at hSw
        obtain ⟨q1, q2⟩ := hSw
        go_simp
        all_goals with_reducible rfl
      try simp only [Act.put, List.setIfInBounds_toArray, List.set_cons_zero, List.set_cons_succ]
      refine held_take (i := 1) (v := ?_) 56 rfl rfl (by kernel_rfl) (by kernel_rfl) (by kernel_rfl) (fun _ _ _ h => h) (Or.inl ⟨by rfl, ?_⟩) hS ?_
      rotate_left 1
      · intro w' hSw
        try dsimp only at hSw
        obtain ⟨q1, q2⟩ := hSw
        go_simp
        all_goals with_reducible rfl
      try simp only [Act.put, List.setIfInBounds_toArray, List.set_cons_zero, List.set_cons_succ]
      refine held_take (i := 2) (v := ?_) 57 rfl rfl (by kernel_rfl) (by kernel_rfl) (by kernel_rfl) (fun _ _ _ h => h) (Or.inl ⟨by rfl, ?_⟩) hS ?_
      rotate_left 1
      · intro w' hSw
        try dsimp only at hSw
        obtain ⟨q1, q2⟩ := hSw
        go_simp
        all_goals with_reducible rfl
      try simp only [Act.put, List.setIfInBounds_toArray, List.set_cons_zero, List.set_cons_succ]
      refine held_take (i := 3) (v := ?_) 58 rfl rfl (by kernel_rfl) (by kernel_rfl) (by kernel_rfl) (fun _ _ _ h => h) (Or.inl ⟨by rfl, ?_⟩) hS ?_
      rotate_left 1
      · intro w' hSw
        try dsimp only at hSw
        obtain ⟨q1, q2⟩ := hSw
        go_simp
        all_goals with_reducible rfl
      try simp only [Act.put, List.setIfInBounds_toArray, List.set_cons_zero, List.set_cons_succ]
      refine held_take (i := 4) (v := ?_) 59 rfl rfl (by kernel_rfl) (by kernel_rfl) (by kernel_rfl) (fun _ _ _ h => h) (Or.inl ⟨by rfl, ?_⟩) hS ?_
      rotate_left 1
      · intro w' hSw
        try dsimp only at hSw
        obtain ⟨q1, q2⟩ := hSw
        go_simp
        all_goals with_reducible rfl
      try simp only [Act.put, List.setIfInBounds_toArray, List.set_cons_zero, List.set_cons_succ]
      refine held_take (i := 6) (v := ?_) 61 rfl rfl (by kernel_rfl) (by kernel_rfl) (by kernel_rfl) (fun _ _ _ h => h) (Or.inl ⟨by rfl, ?_⟩) hS ?_
      rotate_left 1
      · intro w' hSw
        try dsimp only at hSw
        obtain ⟨q1, q2⟩ := hSw
        go_simp
        all_goals with_reducible rfl
      try simp only [Act.put, List.setIfInBounds_toArray, List.set_cons_zero, List.set_cons_succ]
      refine held_take (i := 7) (v := ?_) 62 rfl rfl (by kernel_rfl) (by kernel_rfl) (by kernel_rfl) (fun _ _ _ h => h) (Or.inl ⟨by rfl, ?_⟩) hS ?_
      rotate_left 1
      · intro w' hSw
        try dsimp only at hSw
        obtain ⟨q1, q2⟩ := hSw
        go_simp
        all_goals with_reducible rfl
      try simp only [Act.put, List.setIfInBounds_toArray, List.set_cons_zero, List.set_cons_succ]
      refine held_take (i := 8) (v := ?_) 63 rfl rfl (by kernel_rfl) (by kernel_rfl) (by kernel_rfl) (fun _ _ _ h => h) (Or.inl ⟨by rfl, ?_⟩) hS ?_
      rotate_left 1
      · intro w' hSw
        try dsimp only at hSw
        obtain ⟨q1, q2⟩ := hSw
        go_simp
        all_goals with_reducible rfl
      try simp only [Act.put, List.setIfInBounds_toArray, List.set_cons_zero, List.set_cons_succ]
      refine held_take (i := 9) (v := ?_) 64 rfl rfl (by kernel_rfl) (by kernel_rfl) (by kernel_rfl) (fun _ _ _ h => h) (Or.inl ⟨by rfl, ?_⟩) hS ?_
      rotate_left 1
      · intro w' hSw
        try dsimp only at hSw
        obtain ⟨q1, q2⟩ := hSw
        go_simp
        all_goals with_reducible rfl
      try simp only [Act.put, List.setIfInBounds_toArray, List.set_cons_zero, List.set_cons_succ]
      refine held_one (i := 5) (by kernel_rfl) rfl rfl (fun K hK => ?_)
      go_simp
      refine (hf _).mono ?_
      rintro e w' ⟨rfl, rfl⟩
      refine hK _ _ hS ?_
      clear hK K
      try simp only [Act.put, List.setIfInBounds_toArray, List.set_cons_zero, List.set_cons_succ]
      refine held_one (i := 10) (by kernel_rfl) rfl rfl (fun K hK => ?_)
      go_simp
      refine (hg _).mono ?_
      rintro e w' ⟨rfl, rfl⟩
      refine hK _ _ hS ?_
      clear hK K
      try simp only [Act.put, List.setIfInBounds_toArray, List.set_cons_zero, List.set_cons_succ]
      refine held_take (i := 11) (v := ?_) 66 rfl rfl (by kernel_rfl) (by kernel_rfl) (by kernel_rfl) (fun _ _ _ h => h) (Or.inl ⟨by rfl, ?_⟩) hS ?_
      rotate_left 1
      · intro w' hSw
        try dsimp only at hSw
        obtain ⟨q1, q2⟩ := hSw
        go_simp
        all_goals with_reducible rfl
      try simp only [Act.put, List.setIfInBounds_toArray, List.set_cons_zero, List.set_cons_succ]
      refine held_take (i := 12) (v := ?_) 67 rfl rfl (by kernel_rfl) (by kernel_rfl) (by kernel_rfl) (fun _ _ _ h => h) (Or.inl ⟨by rfl, ?_⟩) hS ?_
      rotate_left 1
      · intro w' hSw
        try dsimp only at hSw
        obtain ⟨q1, q2⟩ := hSw
        go_simp
        all_goals with_reducible rfl
      try simp only [Act.put, List.setIfInBounds_toArray, List.set_cons_zero, List.set_cons_succ]
      refine held_one (i := 13) (by kernel_rfl) rfl rfl (fun K hK => ?_)
      obtain ⟨c6, f6, l6⟩ := k6.rules
      go_simp
      have k9z := (k9.far (p := ⟨w.heap.size + 1 + 1 + 1, 0, none⟩) (by dsimp only; omega) (.int .i64 (floorS B.lo h.c))).far (p := ⟨w.heap.size + 1 + 1 + 1, 1, none⟩) (by dsimp only; omega) (.int .i64 (ceilS B.hi h.c))
      have k3z := (k3.far (p := ⟨w.heap.size + 1 + 1 + 1, 0, none⟩) (by dsimp only; omega) (.int .i64 (floorS B.lo h.c))).far (p := ⟨w.heap.size + 1 + 1 + 1, 1, none⟩) (by dsimp only; omega) (.int .i64 (ceilS B.hi h.c))
      refine hK _ _ ⟨k9z.cell, k3z.cell⟩ ?_
      clear hK K c6 f6 l6
      refine wpAnyH_done (by kernel_rfl) (noPanic_normal ?_) _
      go_wp2_with fail
      go_roundw
      case rel =>
        refine ⟨0 + 1, rfl, by omega, (k2.far (by dsimp only; omega) _).far (by dsimp only; omega) _, k3z, (k4.far (by dsimp only; omega) _).far (by dsimp only; omega) _, ?_, (hb.setCell (p := ⟨w.heap.size + 1 + 1 + 1, 0, none⟩) (by dsimp only; omega) _).setCell (p := ⟨w.heap.size + 1 + 1 + 1, 1, none⟩) (by dsimp only; omega) _⟩
        have k6z := (k6.set_ 0 (.int .i64 (floorS B.lo h.c))).set_ 1 (.int .i64 (ceilS B.hi h.c))
        simp only [turnK, turnedS, regA, hT.out, noReg]
        exact k6z
      case measure => simp [intOf]
    | 1, _ =>
      rw [show jv 1 = .int .i64 1 from rfl]
      have hext := fun W => extremes_any r h.q h.p W hr.out (by omega) (by omega)
      have hbig := extB_big (r := r) (p := h.q) (q := h.p) hr.out (by omega) (by omega)
      obtain ⟨B, hB⟩ : ∃ B, extB r h.q h.p = B := ⟨_, rfl⟩
      simp only [hB] at hext hbig
      have hT : Hid (turnB r h.c h.q h.p = ⟨floorS B.lo h.c, ceilS B.hi h.c⟩) := by show _ = _; unfold turnB; rw [hB]
      replace hB := Lib.hid hB
      unfold bigB at hbig
      have hf := fun W => floor_any B.lo h.c W (by omega) (by omega) (by omega) (by omega)
      have hg := fun W => ceil_any B.hi h.c W (by omega) (by omega) (by omega) (by omega)
      clear hbig
      simp only [regA] at hext
      simp only [turnK, regA, noReg] at k6
      have k2' := k2
      simp only [regA] at k2
      obtain ⟨c2, f2, l2⟩ := k2.rules
      obtain ⟨c3, f3, l3⟩ := k3.rules
      go_wp2_with fail
      refine (hext _).mono ?_
      rintro e w1 ⟨rfl, hb1⟩
      clear hext c2 f2 l2 c3 f3 l3 k2
      have ba := (Below.refl wr.heap.size wr).alloc (Nat.le_refl _) (.cells #[.int .i64 h.q, .int .i64 h.p] 64)
      replace hb1 := ba.trans (hb1.mono ba.size)
      replace k2 := k2'.below hb1
      replace k3 := k3.below hb1
      replace k4 := k4.below hb1
      replace k6 := k6.below hb1
      replace hb := hb.trans (hb1.mono hb.size)
      clear hb1 ba k2'
      go_wp2_with fail
      have n6 := k6.lt
      have k9 := Blk.new w1 40 #[.int .i64 B.lo, .int .i64 B.hi]
      replace k2 := k2.alloc (.cells #[.int .i64 B.lo, .int .i64 B.hi] 40)
      replace k3 := k3.alloc (.cells #[.int .i64 B.lo, .int .i64 B.hi] 40)
      replace k4 := k4.alloc (.cells #[.int .i64 B.lo, .int .i64 B.hi] 40)
      replace k6 := k6.alloc (.cells #[.int .i64 B.lo, .int .i64 B.hi] 40)
      replace hb := hb.alloc hb.size (.cells #[.int .i64 B.lo, .int .i64 B.hi] 40)
      generalize hW : w1.alloc (.cells #[.int .i64 B.lo, .int .i64 B.hi] 40) = W at *
      refine wp_held_np (fun w' => (∀ j, w'.cell? ⟨w1.heap.size, j, none⟩ = #[Value.int .i64 B.lo, .int .i64 B.hi][j]?) ∧ (∀ j, w'.cell? ⟨w.heap.size + 1, j, none⟩ = #[Value.int .i64 h.p, .int .i64 h.q, .int .i64 h.c][j]?)) (by kernel_rfl) ?_
      have hS : (fun w' : World => (∀ j, w'.cell? ⟨w1.heap.size, j, none⟩ = #[Value.int .i64 B.lo, .int .i64 B.hi][j]?) ∧ (∀ j, w'.cell? ⟨w.heap.size + 1, j, none⟩ = #[Value.int .i64 h.p, .int .i64 h.q, .int .i64 h.c][j]?)) W.drew := ⟨k9.cell, k3.cell⟩
      replace k2 := k2.drew
      replace k3 := k3.drew
      replace k4 := k4.drew
      replace k6 := k6.drew
      replace k9 := k9.drew
      replace hb := hb.drew
      clear hW
      generalize W.drew = V at *
      refine held_take (i := 0) (v := ?_) 55 rfl rfl (by kernel_rfl) (by kernel_rfl) (by kernel_rfl) (fun _ _ _ h => h) (Or.inl ⟨by rfl, ?_⟩) hS ?_
      rotate_left 1
      · intro w' hSw
        try dsimp only at hSw
        obtain ⟨q1, q2⟩ := hSw
        go_simp
        all_goals with_reducible rfl
      try simp only [Act.put, List.setIfInBounds_toArray, List.set_cons_zero, List.set_cons_succ]
      refine held_take (i := 1) (v := ?_) 56 rfl rfl (by kernel_rfl) (by kernel_rfl) (by kernel_rfl) (fun _ _ _ h => h) (Or.inl ⟨by rfl, ?_⟩) hS ?_
      rotate_left 1
      · intro w' hSw
        try dsimp only at hSw
        obtain ⟨q1, q2⟩ := hSw
        go_simp
        all_goals with_reducible rfl
      try simp only [Act.put, List.setIfInBounds_toArray, List.set_cons_zero, List.set_cons_succ]
      refine held_take (i := 2) (v := ?_) 57 rfl rfl (by kernel_rfl) (by kernel_rfl) (by kernel_rfl) (fun _ _ _ h => h) (Or.inl ⟨by rfl, ?_⟩) hS ?_
      rotate_left 1
      · intro w' hSw
        try dsimp only at hSw
        obtain ⟨q1, q2⟩ := hSw
        go_simp
        all_goals with_reducible rfl
      try simp only [Act.put, List.setIfInBounds_toArray, List.set_cons_zero, List.set_cons_succ]
      refine held_take (i := 3) (v := ?_) 58 rfl rfl (by kernel_rfl) (by kernel_rfl) (by kernel_rfl) (fun _ _ _ h => h) (Or.inl ⟨by rfl, ?_⟩) hS ?_
      rotate_left 1
      · intro w' hSw
        try dsimp only at hSw
        obtain ⟨q1, q2⟩ := hSw
        go_simp
        all_goals with_reducible rfl
      try simp only [Act.put, List.setIfInBounds_toArray, List.set_cons_zero, List.set_cons_succ]
      refine held_take (i := 4) (v := ?_) 59 rfl rfl (by kernel_rfl) (by kernel_rfl) (by kernel_rfl) (fun _ _ _ h => h) (Or.inl ⟨by rfl, ?_⟩) hS ?_
      rotate_left 1
      · intro w' hSw
        try dsimp only at hSw
        obtain ⟨q1, q2⟩ := hSw
        go_simp
        all_goals with_reducible rfl
      try simp only [Act.put, List.setIfInBounds_toArray, List.set_cons_zero, List.set_cons_succ]
      refine held_take (i := 6) (v := ?_) 61 rfl rfl (by kernel_rfl) (by kernel_rfl) (by kernel_rfl) (fun _ _ _ h => h) (Or.inl ⟨by rfl, ?_⟩) hS ?_
      rotate_left 1
      · intro w' hSw
        try dsimp only at hSw
        obtain ⟨q1, q2⟩ := hSw
        go_simp
        all_goals with_reducible rfl
      try simp only [Act.put, List.setIfInBounds_toArray, List.set_cons_zero, List.set_cons_succ]
      refine held_take (i := 7) (v := ?_) 62 rfl rfl (by kernel_rfl) (by kernel_rfl) (by kernel_rfl) (fun _ _ _ h => h) (Or.inl ⟨by rfl, ?_⟩) hS ?_
      rotate_left 1
      · intro w' hSw
        try dsimp only at hSw
        obtain ⟨q1, q2⟩ := hSw
        go_simp
        all_goals with_reducible rfl
      try simp only [Act.put, List.setIfInBounds_toArray, List.set_cons_zero, List.set_cons_succ]
      refine held_take (i := 8) (v := ?_) 63 rfl rfl (by kernel_rfl) (by kernel_rfl) (by kernel_rfl) (fun _ _ _ h => h) (Or.inl ⟨by rfl, ?_⟩) hS ?_
      rotate_left 1
      · intro w' hSw
        try dsimp only at hSw
        obtain ⟨q1, q2⟩ := hSw
        go_simp
        all_goals with_reducible rfl
      try simp only [Act.put, List.setIfInBounds_toArray, List.set_cons_zero, List.set_cons_succ]
      refine held_take (i := 9) (v := ?_) 64 rfl rfl (by kernel_rfl) (by kernel_rfl) (by kernel_rfl) (fun _ _ _ h => h) (Or.inl ⟨by rfl, ?_⟩) hS ?_
      rotate_left 1
      · intro w' hSw
        try dsimp only at hSw
        obtain ⟨q1, q2⟩ := hSw
        go_simp
        all_goals with_reducible rfl
      try simp only [Act.put, List.setIfInBounds_toArray, List.set_cons_zero, List.set_cons_succ]
      refine held_one (i := 5) (by kernel_rfl) rfl rfl (fun K hK => ?_)
      go_simp
      refine (hf _).mono ?_
      rintro e w' ⟨rfl, rfl⟩
      refine hK _ _ hS ?_
      clear hK K
      try simp only [Act.put, List.setIfInBounds_toArray, List.set_cons_zero, List.set_cons_succ]
      refine held_one (i := 10) (by kernel_rfl) rfl rfl (fun K hK => ?_)
      go_simp
      refine (hg _).mono ?_
      rintro e w' ⟨rfl, rfl⟩
      refine hK _ _ hS ?_
      clear hK K
      try simp only [Act.put, List.setIfInBounds_toArray, List.set_cons_zero, List.set_cons_succ]
      refine held_take (i := 11) (v := ?_) 66 rfl rfl (by kernel_rfl) (by kernel_rfl) (by kernel_rfl) (fun _ _ _ h => h) (Or.inl ⟨by rfl, ?_⟩) hS ?_
      rotate_left 1
      · intro w' hSw
        try dsimp only at hSw
        obtain ⟨q1, q2⟩ := hSw
        go_simp
        all_goals with_reducible rfl
      try simp only [Act.put, List.setIfInBounds_toArray, List.set_cons_zero, List.set_cons_succ]
      refine held_take (i := 12) (v := ?_) 67 rfl rfl (by kernel_rfl) (by kernel_rfl) (by kernel_rfl) (fun _ _ _ h => h) (Or.inl ⟨by rfl, ?_⟩) hS ?_
      rotate_left 1
      · intro w' hSw
        try dsimp only at hSw
        obtain ⟨q1, q2⟩ := hSw
        go_simp
        all_goals with_reducible rfl
      try simp only [Act.put, List.setIfInBounds_toArray, List.set_cons_zero, List.set_cons_succ]
      refine held_one (i := 13) (by kernel_rfl) rfl rfl (fun K hK => ?_)
      obtain ⟨c6, f6, l6⟩ := k6.rules
      go_simp
      have k9z := (k9.far (p := ⟨w.heap.size + 1 + 1 + 1, 2, none⟩) (by dsimp only; omega) (.int .i64 (floorS B.lo h.c))).far (p := ⟨w.heap.size + 1 + 1 + 1, 3, none⟩) (by dsimp only; omega) (.int .i64 (ceilS B.hi h.c))
      have k3z := (k3.far (p := ⟨w.heap.size + 1 + 1 + 1, 2, none⟩) (by dsimp only; omega) (.int .i64 (floorS B.lo h.c))).far (p := ⟨w.heap.size + 1 + 1 + 1, 3, none⟩) (by dsimp only; omega) (.int .i64 (ceilS B.hi h.c))
      refine hK _ _ ⟨k9z.cell, k3z.cell⟩ ?_
      clear hK K c6 f6 l6
      refine wpAnyH_done (by kernel_rfl) (noPanic_normal ?_) _
      go_wp2_with fail
      go_roundw
      case rel =>
        refine ⟨1 + 1, rfl, by omega, (k2.far (by dsimp only; omega) _).far (by dsimp only; omega) _, k3z, (k4.far (by dsimp only; omega) _).far (by dsimp only; omega) _, ?_, (hb.setCell (p := ⟨w.heap.size + 1 + 1 + 1, 2, none⟩) (by dsimp only; omega) _).setCell (p := ⟨w.heap.size + 1 + 1 + 1, 3, none⟩) (by dsimp only; omega) _⟩
        have k6z := (k6.set_ 2 (.int .i64 (floorS B.lo h.c))).set_ 3 (.int .i64 (ceilS B.hi h.c))
        simp only [turnK, turnedS, regA, hT.out, noReg]
        exact k6z
      case measure => simp [intOf]
    | 2, _ =>
      rw [show jv 2 = .int .i64 2 from rfl]
      have hext := fun W => extremes_any r (h.p + h.q) (h.p - h.q) W hr.out (by omega) (by omega)
      have hbig := extB_big (r := r) (p := (h.p + h.q)) (q := (h.p - h.q)) hr.out (by omega) (by omega)
      obtain ⟨B, hB⟩ : ∃ B, extB r (h.p + h.q) (h.p - h.q) = B := ⟨_, rfl⟩
      simp only [hB] at hext hbig
      have hT : Hid (turnB r h.c (h.p + h.q) (h.p - h.q) = ⟨floorS B.lo h.c, ceilS B.hi h.c⟩) := by show _ = _; unfold turnB; rw [hB]
      replace hB := Lib.hid hB
      unfold bigB at hbig
      have hf := fun W => floor_any B.lo h.c W (by omega) (by omega) (by omega) (by omega)
      have hg := fun W => ceil_any B.hi h.c W (by omega) (by omega) (by omega) (by omega)
      clear hbig
      simp only [regA] at hext
      simp only [turnK, regA, noReg] at k6
      have k2' := k2
      simp only [regA] at k2
      obtain ⟨c2, f2, l2⟩ := k2.rules
      obtain ⟨c3, f3, l3⟩ := k3.rules
      go_wp2_with fail
      refine (hext _).mono ?_
      rintro e w1 ⟨rfl, hb1⟩
      clear hext c2 f2 l2 c3 f3 l3 k2
      have ba := (Below.refl wr.heap.size wr).alloc (Nat.le_refl _) (.cells #[.int .i64 (h.p + h.q), .int .i64 (h.p - h.q)] 64)
      replace hb1 := ba.trans (hb1.mono ba.size)
      replace k2 := k2'.below hb1
      replace k3 := k3.below hb1
      replace k4 := k4.below hb1
      replace k6 := k6.below hb1
      replace hb := hb.trans (hb1.mono hb.size)
      clear hb1 ba k2'
      go_wp2_with fail
      have n6 := k6.lt
      have k9 := Blk.new w1 40 #[.int .i64 B.lo, .int .i64 B.hi]
      replace k2 := k2.alloc (.cells #[.int .i64 B.lo, .int .i64 B.hi] 40)
      replace k3 := k3.alloc (.cells #[.int .i64 B.lo, .int .i64 B.hi] 40)
      replace k4 := k4.alloc (.cells #[.int .i64 B.lo, .int .i64 B.hi] 40)
      replace k6 := k6.alloc (.cells #[.int .i64 B.lo, .int .i64 B.hi] 40)
      replace hb := hb.alloc hb.size (.cells #[.int .i64 B.lo, .int .i64 B.hi] 40)
      generalize hW : w1.alloc (.cells #[.int .i64 B.lo, .int .i64 B.hi] 40) = W at *
      refine wp_held_np (fun w' => (∀ j, w'.cell? ⟨w1.heap.size, j, none⟩ = #[Value.int .i64 B.lo, .int .i64 B.hi][j]?) ∧ (∀ j, w'.cell? ⟨w.heap.size + 1, j, none⟩ = #[Value.int .i64 h.p, .int .i64 h.q, .int .i64 h.c][j]?)) (by kernel_rfl) ?_
      have hS : (fun w' : World => (∀ j, w'.cell? ⟨w1.heap.size, j, none⟩ = #[Value.int .i64 B.lo, .int .i64 B.hi][j]?) ∧ (∀ j, w'.cell? ⟨w.heap.size + 1, j, none⟩ = #[Value.int .i64 h.p, .int .i64 h.q, .int .i64 h.c][j]?)) W.drew := ⟨k9.cell, k3.cell⟩
      replace k2 := k2.drew
      replace k3 := k3.drew
      replace k4 := k4.drew
      replace k6 := k6.drew
      replace k9 := k9.drew
      replace hb := hb.drew
      clear hW
      generalize W.drew = V at *
      refine held_take (i := 0) (v := ?_) 55 rfl rfl (by kernel_rfl) (by kernel_rfl) (by kernel_rfl) (fun _ _ _ h => h) (Or.inl ⟨by rfl, ?_⟩) hS ?_
      rotate_left 1
      · intro w' hSw
        try dsimp only at hSw
        obtain ⟨q1, q2⟩ := hSw
        go_simp
        all_goals with_reducible rfl
      try simp only [Act.put, List.setIfInBounds_toArray, List.set_cons_zero, List.set_cons_succ]
      refine held_take (i := 1) (v := ?_) 56 rfl rfl (by kernel_rfl) (by kernel_rfl) (by kernel_rfl) (fun _ _ _ h => h) (Or.inl ⟨by rfl, ?_⟩) hS ?_
      rotate_left 1
      · intro w' hSw
        try dsimp only at hSw
        obtain ⟨q1, q2⟩ := hSw
        go_simp
        all_goals with_reducible rfl
      try simp only [Act.put, List.setIfInBounds_toArray, List.set_cons_zero, List.set_cons_succ]
      refine held_take (i := 2) (v := ?_) 57 rfl rfl (by kernel_rfl) (by kernel_rfl) (by kernel_rfl) (fun _ _ _ h => h) (Or.inl ⟨by rfl, ?_⟩) hS ?_
      rotate_left 1
      · intro w' hSw
        try dsimp only at hSw
        obtain ⟨q1, q2⟩ := hSw
        go_simp
        all_goals with_reducible rfl
      try simp only [Act.put, List.setIfInBounds_toArray, List.set_cons_zero, List.set_cons_succ]
      refine held_take (i := 3) (v := ?_) 58 rfl rfl (by kernel_rfl) (by kernel_rfl) (by kernel_rfl) (fun _ _ _ h => h) (Or.inl ⟨by rfl, ?_⟩) hS ?_
      rotate_left 1
      · intro w' hSw
        try dsimp only at hSw
        obtain ⟨q1, q2⟩ := hSw
        go_simp
        all_goals with_reducible rfl
      try simp only [Act.put, List.setIfInBounds_toArray, List.set_cons_zero, List.set_cons_succ]
      refine held_take (i := 4) (v := ?_) 59 rfl rfl (by kernel_rfl) (by kernel_rfl) (by kernel_rfl) (fun _ _ _ h => h) (Or.inl ⟨by rfl, ?_⟩) hS ?_
      rotate_left 1
      · intro w' hSw
        try dsimp only at hSw
        obtain ⟨q1, q2⟩ := hSw
        go_simp
        all_goals with_reducible rfl
      try simp only [Act.put, List.setIfInBounds_toArray, List.set_cons_zero, List.set_cons_succ]
      refine held_take (i := 6) (v := ?_) 61 rfl rfl (by kernel_rfl) (by kernel_rfl) (by kernel_rfl) (fun _ _ _ h => h) (Or.inl ⟨by rfl, ?_⟩) hS ?_
      rotate_left 1
      · intro w' hSw
        try dsimp only at hSw
        obtain ⟨q1, q2⟩ := hSw
        go_simp
        all_goals with_reducible rfl
      try simp only [Act.put, List.setIfInBounds_toArray, List.set_cons_zero, List.set_cons_succ]
      refine held_take (i := 7) (v := ?_) 62 rfl rfl (by kernel_rfl) (by kernel_rfl) (by kernel_rfl) (fun _ _ _ h => h) (Or.inl ⟨by rfl, ?_⟩) hS ?_
      rotate_left 1
      · intro w' hSw
        try dsimp only at hSw
        obtain ⟨q1, q2⟩ := hSw
        go_simp
        all_goals with_reducible rfl
      try simp only [Act.put, List.setIfInBounds_toArray, List.set_cons_zero, List.set_cons_succ]
      refine held_take (i := 8) (v := ?_) 63 rfl rfl (by kernel_rfl) (by kernel_rfl) (by kernel_rfl) (fun _ _ _ h => h) (Or.inl ⟨by rfl, ?_⟩) hS ?_
      rotate_left 1
      · intro w' hSw
        try dsimp only at hSw
        obtain ⟨q1, q2⟩ := hSw
        go_simp
        all_goals with_reducible rfl
      try simp only [Act.put, List.setIfInBounds_toArray, List.set_cons_zero, List.set_cons_succ]
      refine held_take (i := 9) (v := ?_) 64 rfl rfl (by kernel_rfl) (by kernel_rfl) (by kernel_rfl) (fun _ _ _ h => h) (Or.inl ⟨by rfl, ?_⟩) hS ?_
      rotate_left 1
      · intro w' hSw
        try dsimp only at hSw
        obtain ⟨q1, q2⟩ := hSw
        go_simp
        all_goals with_reducible rfl
      try simp only [Act.put, List.setIfInBounds_toArray, List.set_cons_zero, List.set_cons_succ]
      refine held_one (i := 5) (by kernel_rfl) rfl rfl (fun K hK => ?_)
      go_simp
      refine (hf _).mono ?_
      rintro e w' ⟨rfl, rfl⟩
      refine hK _ _ hS ?_
      clear hK K
      try simp only [Act.put, List.setIfInBounds_toArray, List.set_cons_zero, List.set_cons_succ]
      refine held_one (i := 10) (by kernel_rfl) rfl rfl (fun K hK => ?_)
      go_simp
      refine (hg _).mono ?_
      rintro e w' ⟨rfl, rfl⟩
      refine hK _ _ hS ?_
      clear hK K
      try simp only [Act.put, List.setIfInBounds_toArray, List.set_cons_zero, List.set_cons_succ]
      refine held_take (i := 11) (v := ?_) 66 rfl rfl (by kernel_rfl) (by kernel_rfl) (by kernel_rfl) (fun _ _ _ h => h) (Or.inl ⟨by rfl, ?_⟩) hS ?_
      rotate_left 1
      · intro w' hSw
        try dsimp only at hSw
        obtain ⟨q1, q2⟩ := hSw
        go_simp
        all_goals with_reducible rfl
      try simp only [Act.put, List.setIfInBounds_toArray, List.set_cons_zero, List.set_cons_succ]
      refine held_take (i := 12) (v := ?_) 67 rfl rfl (by kernel_rfl) (by kernel_rfl) (by kernel_rfl) (fun _ _ _ h => h) (Or.inl ⟨by rfl, ?_⟩) hS ?_
      rotate_left 1
      · intro w' hSw
        try dsimp only at hSw
        obtain ⟨q1, q2⟩ := hSw
        go_simp
        all_goals with_reducible rfl
      try simp only [Act.put, List.setIfInBounds_toArray, List.set_cons_zero, List.set_cons_succ]
      refine held_one (i := 13) (by kernel_rfl) rfl rfl (fun K hK => ?_)
      obtain ⟨c6, f6, l6⟩ := k6.rules
      go_simp
      have k9z := (k9.far (p := ⟨w.heap.size + 1 + 1 + 1, 4, none⟩) (by dsimp only; omega) (.int .i64 (floorS B.lo h.c))).far (p := ⟨w.heap.size + 1 + 1 + 1, 5, none⟩) (by dsimp only; omega) (.int .i64 (ceilS B.hi h.c))
      have k3z := (k3.far (p := ⟨w.heap.size + 1 + 1 + 1, 4, none⟩) (by dsimp only; omega) (.int .i64 (floorS B.lo h.c))).far (p := ⟨w.heap.size + 1 + 1 + 1, 5, none⟩) (by dsimp only; omega) (.int .i64 (ceilS B.hi h.c))
      refine hK _ _ ⟨k9z.cell, k3z.cell⟩ ?_
      clear hK K c6 f6 l6
      refine wpAnyH_done (by kernel_rfl) (noPanic_normal ?_) _
      go_wp2_with fail
      go_roundw
      case rel =>
        refine ⟨2 + 1, rfl, by omega, (k2.far (by dsimp only; omega) _).far (by dsimp only; omega) _, k3z, (k4.far (by dsimp only; omega) _).far (by dsimp only; omega) _, ?_, (hb.setCell (p := ⟨w.heap.size + 1 + 1 + 1, 4, none⟩) (by dsimp only; omega) _).setCell (p := ⟨w.heap.size + 1 + 1 + 1, 5, none⟩) (by dsimp only; omega) _⟩
        have k6z := (k6.set_ 4 (.int .i64 (floorS B.lo h.c))).set_ 5 (.int .i64 (ceilS B.hi h.c))
        simp only [turnK, turnedS, regA, hT.out, noReg]
        exact k6z
      case measure => simp [intOf]
    | 3, _ =>
      rw [show jv 3 = .int .i64 3 from rfl]
      have hext := fun W => extremes_any r (h.p - h.q) (-h.q - h.p) W hr.out (by omega) (by omega)
      have hbig := extB_big (r := r) (p := (h.p - h.q)) (q := (-h.q - h.p)) hr.out (by omega) (by omega)
      obtain ⟨B, hB⟩ : ∃ B, extB r (h.p - h.q) (-h.q - h.p) = B := ⟨_, rfl⟩
      simp only [hB] at hext hbig
      have hT : Hid (turnB r h.c (h.p - h.q) (-h.q - h.p) = ⟨floorS B.lo h.c, ceilS B.hi h.c⟩) := by show _ = _; unfold turnB; rw [hB]
      replace hB := Lib.hid hB
      unfold bigB at hbig
      have hf := fun W => floor_any B.lo h.c W (by omega) (by omega) (by omega) (by omega)
      have hg := fun W => ceil_any B.hi h.c W (by omega) (by omega) (by omega) (by omega)
      clear hbig
      simp only [regA] at hext
      simp only [turnK, regA, noReg] at k6
      have k2' := k2
      simp only [regA] at k2
      obtain ⟨c2, f2, l2⟩ := k2.rules
      obtain ⟨c3, f3, l3⟩ := k3.rules
      go_wp2_with fail
      refine (hext _).mono ?_
      rintro e w1 ⟨rfl, hb1⟩
      clear hext c2 f2 l2 c3 f3 l3 k2
      have ba := (Below.refl wr.heap.size wr).alloc (Nat.le_refl _) (.cells #[.int .i64 (h.p - h.q), .int .i64 (-h.q - h.p)] 64)
      replace hb1 := ba.trans (hb1.mono ba.size)
      replace k2 := k2'.below hb1
      replace k3 := k3.below hb1
      replace k4 := k4.below hb1
      replace k6 := k6.below hb1
      replace hb := hb.trans (hb1.mono hb.size)
      clear hb1 ba k2'
      go_wp2_with fail
      have n6 := k6.lt
      have k9 := Blk.new w1 40 #[.int .i64 B.lo, .int .i64 B.hi]
      replace k2 := k2.alloc (.cells #[.int .i64 B.lo, .int .i64 B.hi] 40)
      replace k3 := k3.alloc (.cells #[.int .i64 B.lo, .int .i64 B.hi] 40)
      replace k4 := k4.alloc (.cells #[.int .i64 B.lo, .int .i64 B.hi] 40)
      replace k6 := k6.alloc (.cells #[.int .i64 B.lo, .int .i64 B.hi] 40)
      replace hb := hb.alloc hb.size (.cells #[.int .i64 B.lo, .int .i64 B.hi] 40)
      generalize hW : w1.alloc (.cells #[.int .i64 B.lo, .int .i64 B.hi] 40) = W at *
      refine wp_held_np (fun w' => (∀ j, w'.cell? ⟨w1.heap.size, j, none⟩ = #[Value.int .i64 B.lo, .int .i64 B.hi][j]?) ∧ (∀ j, w'.cell? ⟨w.heap.size + 1, j, none⟩ = #[Value.int .i64 h.p, .int .i64 h.q, .int .i64 h.c][j]?)) (by kernel_rfl) ?_
      have hS : (fun w' : World => (∀ j, w'.cell? ⟨w1.heap.size, j, none⟩ = #[Value.int .i64 B.lo, .int .i64 B.hi][j]?) ∧ (∀ j, w'.cell? ⟨w.heap.size + 1, j, none⟩ = #[Value.int .i64 h.p, .int .i64 h.q, .int .i64 h.c][j]?)) W.drew := ⟨k9.cell, k3.cell⟩
      replace k2 := k2.drew
      replace k3 := k3.drew
      replace k4 := k4.drew
      replace k6 := k6.drew
      replace k9 := k9.drew
      replace hb := hb.drew
      clear hW
      generalize W.drew = V at *
      refine held_take (i := 0) (v := ?_) 55 rfl rfl (by kernel_rfl) (by kernel_rfl) (by kernel_rfl) (fun _ _ _ h => h) (Or.inl ⟨by rfl, ?_⟩) hS ?_
      rotate_left 1
      · intro w' hSw
        try dsimp only at hSw
        obtain ⟨q1, q2⟩ := hSw
        go_simp
        all_goals with_reducible rfl
      try simp only [Act.put, List.setIfInBounds_toArray, List.set_cons_zero, List.set_cons_succ]
      refine held_take (i := 1) (v := ?_) 56 rfl rfl (by kernel_rfl) (by kernel_rfl) (by kernel_rfl) (fun _ _ _ h => h) (Or.inl ⟨by rfl, ?_⟩) hS ?_
      rotate_left 1
      · intro w' hSw
        try dsimp only at hSw
        obtain ⟨q1, q2⟩ := hSw
        go_simp
        all_goals with_reducible rfl
      try simp only [Act.put, List.setIfInBounds_toArray, List.set_cons_zero, List.set_cons_succ]
      refine held_take (i := 2) (v := ?_) 57 rfl rfl (by kernel_rfl) (by kernel_rfl) (by kernel_rfl) (fun _ _ _ h => h) (Or.inl ⟨by rfl, ?_⟩) hS ?_
      rotate_left 1
      · intro w' hSw
        try dsimp only at hSw
        obtain ⟨q1, q2⟩ := hSw
        go_simp
        all_goals with_reducible rfl
      try simp only [Act.put, List.setIfInBounds_toArray, List.set_cons_zero, List.set_cons_succ]
      refine held_take (i := 3) (v := ?_) 58 rfl rfl (by kernel_rfl) (by kernel_rfl) (by kernel_rfl) (fun _ _ _ h => h) (Or.inl ⟨by rfl, ?_⟩) hS ?_
      rotate_left 1
      · intro w' hSw
        try dsimp only at hSw
        obtain ⟨q1, q2⟩ := hSw
        go_simp
        all_goals with_reducible rfl
      try simp only [Act.put, List.setIfInBounds_toArray, List.set_cons_zero, List.set_cons_succ]
      refine held_take (i := 4) (v := ?_) 59 rfl rfl (by kernel_rfl) (by kernel_rfl) (by kernel_rfl) (fun _ _ _ h => h) (Or.inl ⟨by rfl, ?_⟩) hS ?_
      rotate_left 1
      · intro w' hSw
        try dsimp only at hSw
        obtain ⟨q1, q2⟩ := hSw
        go_simp
        all_goals with_reducible rfl
      try simp only [Act.put, List.setIfInBounds_toArray, List.set_cons_zero, List.set_cons_succ]
      refine held_take (i := 6) (v := ?_) 61 rfl rfl (by kernel_rfl) (by kernel_rfl) (by kernel_rfl) (fun _ _ _ h => h) (Or.inl ⟨by rfl, ?_⟩) hS ?_
      rotate_left 1
      · intro w' hSw
        try dsimp only at hSw
        obtain ⟨q1, q2⟩ := hSw
        go_simp
        all_goals with_reducible rfl
      try simp only [Act.put, List.setIfInBounds_toArray, List.set_cons_zero, List.set_cons_succ]
      refine held_take (i := 7) (v := ?_) 62 rfl rfl (by kernel_rfl) (by kernel_rfl) (by kernel_rfl) (fun _ _ _ h => h) (Or.inl ⟨by rfl, ?_⟩) hS ?_
      rotate_left 1
      · intro w' hSw
        try dsimp only at hSw
        obtain ⟨q1, q2⟩ := hSw
        go_simp
        all_goals with_reducible rfl
      try simp only [Act.put, List.setIfInBounds_toArray, List.set_cons_zero, List.set_cons_succ]
      refine held_take (i := 8) (v := ?_) 63 rfl rfl (by kernel_rfl) (by kernel_rfl) (by kernel_rfl) (fun _ _ _ h => h) (Or.inl ⟨by rfl, ?_⟩) hS ?_
      rotate_left 1
      · intro w' hSw
        try dsimp only at hSw
        obtain ⟨q1, q2⟩ := hSw
        go_simp
        all_goals with_reducible rfl
      try simp only [Act.put, List.setIfInBounds_toArray, List.set_cons_zero, List.set_cons_succ]
      refine held_take (i := 9) (v := ?_) 64 rfl rfl (by kernel_rfl) (by kernel_rfl) (by kernel_rfl) (fun _ _ _ h => h) (Or.inl ⟨by rfl, ?_⟩) hS ?_
      rotate_left 1
      · intro w' hSw
        try dsimp only at hSw
        obtain ⟨q1, q2⟩ := hSw
        go_simp
        all_goals with_reducible rfl
      try simp only [Act.put, List.setIfInBounds_toArray, List.set_cons_zero, List.set_cons_succ]
      refine held_one (i := 5) (by kernel_rfl) rfl rfl (fun K hK => ?_)
      go_simp
      refine (hf _).mono ?_
      rintro e w' ⟨rfl, rfl⟩
      refine hK _ _ hS ?_
      clear hK K
      try simp only [Act.put, List.setIfInBounds_toArray, List.set_cons_zero, List.set_cons_succ]
      refine held_one (i := 10) (by kernel_rfl) rfl rfl (fun K hK => ?_)
      go_simp
      refine (hg _).mono ?_
      rintro e w' ⟨rfl, rfl⟩
      refine hK _ _ hS ?_
      clear hK K
      try simp only [Act.put, List.setIfInBounds_toArray, List.set_cons_zero, List.set_cons_succ]
      refine held_take (i := 11) (v := ?_) 66 rfl rfl (by kernel_rfl) (by kernel_rfl) (by kernel_rfl) (fun _ _ _ h => h) (Or.inl ⟨by rfl, ?_⟩) hS ?_
      rotate_left 1
      · intro w' hSw
        try dsimp only at hSw
        obtain ⟨q1, q2⟩ := hSw
        go_simp
        all_goals with_reducible rfl
      try simp only [Act.put, List.setIfInBounds_toArray, List.set_cons_zero, List.set_cons_succ]
      refine held_take (i := 12) (v := ?_) 67 rfl rfl (by kernel_rfl) (by kernel_rfl) (by kernel_rfl) (fun _ _ _ h => h) (Or.inl ⟨by rfl, ?_⟩) hS ?_
      rotate_left 1
      · intro w' hSw
        try dsimp only at hSw
        obtain ⟨q1, q2⟩ := hSw
        go_simp
        all_goals with_reducible rfl
      try simp only [Act.put, List.setIfInBounds_toArray, List.set_cons_zero, List.set_cons_succ]
      refine held_one (i := 13) (by kernel_rfl) rfl rfl (fun K hK => ?_)
      obtain ⟨c6, f6, l6⟩ := k6.rules
      go_simp
      have k9z := (k9.far (p := ⟨w.heap.size + 1 + 1 + 1, 6, none⟩) (by dsimp only; omega) (.int .i64 (floorS B.lo h.c))).far (p := ⟨w.heap.size + 1 + 1 + 1, 7, none⟩) (by dsimp only; omega) (.int .i64 (ceilS B.hi h.c))
      have k3z := (k3.far (p := ⟨w.heap.size + 1 + 1 + 1, 6, none⟩) (by dsimp only; omega) (.int .i64 (floorS B.lo h.c))).far (p := ⟨w.heap.size + 1 + 1 + 1, 7, none⟩) (by dsimp only; omega) (.int .i64 (ceilS B.hi h.c))
      refine hK _ _ ⟨k9z.cell, k3z.cell⟩ ?_
      clear hK K c6 f6 l6
      refine wpAnyH_done (by kernel_rfl) (noPanic_normal ?_) _
      go_wp2_with fail
      go_roundw
      case rel =>
        refine ⟨3 + 1, rfl, by omega, (k2.far (by dsimp only; omega) _).far (by dsimp only; omega) _, k3z, (k4.far (by dsimp only; omega) _).far (by dsimp only; omega) _, ?_, (hb.setCell (p := ⟨w.heap.size + 1 + 1 + 1, 6, none⟩) (by dsimp only; omega) _).setCell (p := ⟨w.heap.size + 1 + 1 + 1, 7, none⟩) (by dsimp only; omega) _⟩
        have k6z := (k6.set_ 6 (.int .i64 (floorS B.lo h.c))).set_ 7 (.int .i64 (ceilS B.hi h.c))
        simp only [turnK, turnedS, regA, hT.out, noReg]
        exact k6z
      case measure => simp [intOf]
    | 4, _ =>
      rw [show jv 4 = .int .i64 4 from rfl]
      rw [show turnK r h 4 = turnedS r h from rfl] at k6
      obtain ⟨T, hT⟩ : ∃ T, turnedS r h = T := ⟨_, rfl⟩
      rw [hT] at k6
      replace hT := Lib.hid hT
      have hbx := fun W => bound_any T.x 32768 W (by omega) (by omega)
      have hby := fun W => bound_any T.y 32768 W (by omega) (by omega)
      have hin : Hid (inPlane T = (okBnd 32768 T.x && okBnd 32768 T.y)) := rfl
      simp only [regA, noReg] at k6 k4
      clear i0 i1 i2 i3 t1 t2 t3 t4 k2 k3
      generalize okBnd 32768 T.x = bx at *
      generalize okBnd 32768 T.y = by_ at *
      go_wp2_with fail
      refine wp_held_np (fun w' => (∀ j, w'.cell? ⟨w.heap.size + 1 + 1 + 1, j, none⟩ = #[Value.int .i64 T.x.lo, .int .i64 T.x.hi, .int .i64 T.y.lo, .int .i64 T.y.hi, .int .i64 T.s.lo, .int .i64 T.s.hi, .int .i64 T.d.lo, .int .i64 T.d.hi][j]?) ∧ True) (by kernel_rfl) ?_
      have hS : (fun w' : World => (∀ j, w'.cell? ⟨w.heap.size + 1 + 1 + 1, j, none⟩ = #[Value.int .i64 T.x.lo, .int .i64 T.x.hi, .int .i64 T.y.lo, .int .i64 T.y.hi, .int .i64 T.s.lo, .int .i64 T.s.hi, .int .i64 T.d.lo, .int .i64 T.d.hi][j]?) ∧ True) wr.drew := ⟨k6.cell, trivial⟩
      replace k4 := k4.drew
      replace k6 := k6.drew
      replace hb := hb.drew
      generalize wr.drew = V at *
      refine held_take (i := 0) (v := ?_) 69 rfl rfl (by kernel_rfl) (by kernel_rfl) (by kernel_rfl) (fun _ _ _ h => h) (Or.inl ⟨by rfl, ?_⟩) hS ?_
      rotate_left 1
      · intro w' hSw
        try dsimp only at hSw
        obtain ⟨q1, q2⟩ := hSw
        go_simp
        all_goals with_reducible rfl
      try simp only [Act.put, List.setIfInBounds_toArray, List.set_cons_zero, List.set_cons_succ]
      refine held_take (i := 1) (v := ?_) 70 rfl rfl (by kernel_rfl) (by kernel_rfl) (by kernel_rfl) (fun _ _ _ h => h) (Or.inl ⟨by rfl, ?_⟩) hS ?_
      rotate_left 1
      · intro w' hSw
        try dsimp only at hSw
        obtain ⟨q1, q2⟩ := hSw
        go_simp
        all_goals with_reducible rfl
      try simp only [Act.put, List.setIfInBounds_toArray, List.set_cons_zero, List.set_cons_succ]
      refine held_take (i := 2) (v := ?_) 71 rfl rfl (by kernel_rfl) (by kernel_rfl) (by kernel_rfl) (fun _ _ _ h => h) (Or.inl ⟨by rfl, ?_⟩) hS ?_
      rotate_left 1
      · intro w' hSw
        try dsimp only at hSw
        obtain ⟨q1, q2⟩ := hSw
        go_simp
        all_goals with_reducible rfl
      try simp only [Act.put, List.setIfInBounds_toArray, List.set_cons_zero, List.set_cons_succ]
      refine held_take (i := 3) (v := ?_) 72 rfl rfl (by kernel_rfl) (by kernel_rfl) (by kernel_rfl) (fun _ _ _ h => h) (Or.inl ⟨by rfl, ?_⟩) hS ?_
      rotate_left 1
      · intro w' hSw
        try dsimp only at hSw
        obtain ⟨q1, q2⟩ := hSw
        go_simp
        all_goals with_reducible rfl
      try simp only [Act.put, List.setIfInBounds_toArray, List.set_cons_zero, List.set_cons_succ]
      refine held_take (i := 4) (v := ?_) 73 rfl rfl (by kernel_rfl) (by kernel_rfl) (by kernel_rfl) (fun _ _ _ h => h) (Or.inl ⟨by rfl, ?_⟩) hS ?_
      rotate_left 1
      · intro w' hSw
        try dsimp only at hSw
        obtain ⟨q1, q2⟩ := hSw
        go_simp
        all_goals with_reducible rfl
      try simp only [Act.put, List.setIfInBounds_toArray, List.set_cons_zero, List.set_cons_succ]
      refine held_take (i := 5) (v := ?_) 74 rfl rfl (by kernel_rfl) (by kernel_rfl) (by kernel_rfl) (fun _ _ _ h => h) (Or.inl ⟨by rfl, ?_⟩) hS ?_
      rotate_left 1
      · intro w' hSw
        try dsimp only at hSw
        obtain ⟨q1, q2⟩ := hSw
        go_simp
        all_goals with_reducible rfl
      try simp only [Act.put, List.setIfInBounds_toArray, List.set_cons_zero, List.set_cons_succ]
      refine held_take (i := 6) (v := ?_) 75 rfl rfl (by kernel_rfl) (by kernel_rfl) (by kernel_rfl) (fun _ _ _ h => h) (Or.inl ⟨by rfl, ?_⟩) hS ?_
      rotate_left 1
      · intro w' hSw
        try dsimp only at hSw
        obtain ⟨q1, q2⟩ := hSw
        go_simp
        all_goals with_reducible rfl
      try simp only [Act.put, List.setIfInBounds_toArray, List.set_cons_zero, List.set_cons_succ]
      refine held_take (i := 7) (v := ?_) 76 rfl rfl (by kernel_rfl) (by kernel_rfl) (by kernel_rfl) (fun _ _ _ h => h) (Or.inl ⟨by rfl, ?_⟩) hS ?_
      rotate_left 1
      · intro w' hSw
        try dsimp only at hSw
        obtain ⟨q1, q2⟩ := hSw
        go_simp
        all_goals with_reducible rfl
      try simp only [Act.put, List.setIfInBounds_toArray, List.set_cons_zero, List.set_cons_succ]
      refine held_take (i := 8) (v := ?_) 77 rfl rfl (by kernel_rfl) (by kernel_rfl) (by kernel_rfl) (fun _ _ _ h => h) (Or.inl ⟨by rfl, ?_⟩) hS ?_
      rotate_left 1
      · intro w' hSw
        try dsimp only at hSw
        obtain ⟨q1, q2⟩ := hSw
        go_simp
        all_goals with_reducible rfl
      try simp only [Act.put, List.setIfInBounds_toArray, List.set_cons_zero, List.set_cons_succ]
      refine held_take (i := 9) (v := ?_) 78 rfl rfl (by kernel_rfl) (by kernel_rfl) (by kernel_rfl) (fun _ _ _ h => h) (Or.inl ⟨by rfl, ?_⟩) hS ?_
      rotate_left 1
      · intro w' hSw
        try dsimp only at hSw
        obtain ⟨q1, q2⟩ := hSw
        go_simp
        all_goals with_reducible rfl
      try simp only [Act.put, List.setIfInBounds_toArray, List.set_cons_zero, List.set_cons_succ]
      refine held_take (i := 10) (v := ?_) 79 rfl rfl (by kernel_rfl) (by kernel_rfl) (by kernel_rfl) (fun _ _ _ h => h) (Or.inl ⟨by rfl, ?_⟩) hS ?_
      rotate_left 1
      · intro w' hSw
        try dsimp only at hSw
        obtain ⟨q1, q2⟩ := hSw
        go_simp
        all_goals with_reducible rfl
      try simp only [Act.put, List.setIfInBounds_toArray, List.set_cons_zero, List.set_cons_succ]
      refine held_one (i := 11) (by kernel_rfl) rfl rfl (fun K hK => ?_)
      go_simp
      refine (hbx _).mono ?_
      rintro e w5 ⟨rfl, hb5⟩
      replace k4 := k4.below hb5
      replace k6 := k6.below hb5
      replace hb := hb.trans (hb5.mono hb.size)
      clear hS hb5 hbx
      have hS : (fun w' : World => (∀ j, w'.cell? ⟨w.heap.size + 1 + 1 + 1, j, none⟩ = #[Value.int .i64 T.x.lo, .int .i64 T.x.hi, .int .i64 T.y.lo, .int .i64 T.y.hi, .int .i64 T.s.lo, .int .i64 T.s.hi, .int .i64 T.d.lo, .int .i64 T.d.hi][j]?) ∧ True) w5 := ⟨k6.cell, trivial⟩
      refine hK _ _ hS ?_
      clear hK K
      try simp only [Act.put, List.setIfInBounds_toArray, List.set_cons_zero, List.set_cons_succ]
      cases bx with
      | true =>
        refine held_take (i := 12) (v := ?_) 81 rfl rfl (by kernel_rfl) (by kernel_rfl) (by kernel_rfl) (fun _ _ _ h => h) (Or.inl ⟨by rfl, ?_⟩) hS ?_
        rotate_left 1
        · intro w' hSw
          try dsimp only at hSw
          obtain ⟨q1, q2⟩ := hSw
          go_simp
          all_goals with_reducible rfl
        try simp only [Act.put, List.setIfInBounds_toArray, List.set_cons_zero, List.set_cons_succ]
        refine held_take (i := 13) (v := ?_) 82 rfl rfl (by kernel_rfl) (by kernel_rfl) (by kernel_rfl) (fun _ _ _ h => h) (Or.inl ⟨by rfl, ?_⟩) hS ?_
        rotate_left 1
        · intro w' hSw
          try dsimp only at hSw
          obtain ⟨q1, q2⟩ := hSw
          go_simp
          all_goals with_reducible rfl
        try simp only [Act.put, List.setIfInBounds_toArray, List.set_cons_zero, List.set_cons_succ]
        refine held_take (i := 14) (v := ?_) 83 rfl rfl (by kernel_rfl) (by kernel_rfl) (by kernel_rfl) (fun _ _ _ h => h) (Or.inl ⟨by rfl, ?_⟩) hS ?_
        rotate_left 1
        · intro w' hSw
          try dsimp only at hSw
          obtain ⟨q1, q2⟩ := hSw
          go_simp
          all_goals with_reducible rfl
        try simp only [Act.put, List.setIfInBounds_toArray, List.set_cons_zero, List.set_cons_succ]
        refine held_one (i := 15) (by kernel_rfl) rfl rfl (fun K hK => ?_)
        go_simp
        refine (hby _).mono ?_
        rintro e w6 ⟨rfl, hb6⟩
        replace k4 := k4.below hb6
        replace k6 := k6.below hb6
        replace hb := hb.trans (hb6.mono hb.size)
        clear hS hb6 hby
        have hS : (fun w' : World => (∀ j, w'.cell? ⟨w.heap.size + 1 + 1 + 1, j, none⟩ = #[Value.int .i64 T.x.lo, .int .i64 T.x.hi, .int .i64 T.y.lo, .int .i64 T.y.hi, .int .i64 T.s.lo, .int .i64 T.s.hi, .int .i64 T.d.lo, .int .i64 T.d.hi][j]?) ∧ True) w6 := ⟨k6.cell, trivial⟩
        refine hK _ _ hS ?_
        clear hK K
        try simp only [Act.put, List.setIfInBounds_toArray, List.set_cons_zero, List.set_cons_succ]
        cases by_ with
        | true =>
          refine held_take (i := 16) (v := ?_) 85 rfl rfl (by kernel_rfl) (by kernel_rfl) (by kernel_rfl) (fun _ _ _ h => h) (Or.inl ⟨by rfl, ?_⟩) hS ?_
          rotate_left 1
          · intro w' hSw
            try dsimp only at hSw
            obtain ⟨q1, q2⟩ := hSw
            go_simp
            all_goals with_reducible rfl
          try simp only [Act.put, List.setIfInBounds_toArray, List.set_cons_zero, List.set_cons_succ]
          have kz := k4.set8 (.int .i64 T.x.lo) (.int .i64 T.x.hi) (.int .i64 T.y.lo) (.int .i64 T.y.hi) (.int .i64 T.s.lo) (.int .i64 T.s.hi) (.int .i64 T.d.lo) (.int .i64 T.d.hi)
          have k6z := far_set8 k6 (g := w.heap.size + 1 + 1) (by omega) (.int .i64 T.x.lo) (.int .i64 T.x.hi) (.int .i64 T.y.lo) (.int .i64 T.y.hi) (.int .i64 T.s.lo) (.int .i64 T.s.hi) (.int .i64 T.d.lo) (.int .i64 T.d.hi)
          have bz := below_set8 (g := w.heap.size + 1 + 1) hb (by omega) (.int .i64 T.x.lo) (.int .i64 T.x.hi) (.int .i64 T.y.lo) (.int .i64 T.y.hi) (.int .i64 T.s.lo) (.int .i64 T.s.hi) (.int .i64 T.d.lo) (.int .i64 T.d.hi)
          obtain ⟨wz, hwz⟩ : ∃ x, x = set8 w6 (w.heap.size + 1 + 1) (.int .i64 T.x.lo) (.int .i64 T.x.hi) (.int .i64 T.y.lo) (.int .i64 T.y.hi) (.int .i64 T.s.lo) (.int .i64 T.s.hi) (.int .i64 T.d.lo) (.int .i64 T.d.hi) := ⟨_, rfl⟩
          rw [← hwz] at kz k6z bz
          simp only [set8] at hwz
          refine held_one (i := 17) (by kernel_rfl) rfl rfl (fun K hK => ?_)
          obtain ⟨c4, f4, l4⟩ := k4.rules
          go_simp
          rw [← hwz]
          clear hwz hS c4 f4 l4
          have hS : (fun w' : World => (∀ j, w'.cell? ⟨w.heap.size + 1 + 1 + 1, j, none⟩ = #[Value.int .i64 T.x.lo, .int .i64 T.x.hi, .int .i64 T.y.lo, .int .i64 T.y.hi, .int .i64 T.s.lo, .int .i64 T.s.hi, .int .i64 T.d.lo, .int .i64 T.d.hi][j]?) ∧ True) wz := ⟨k6z.cell, trivial⟩
          refine hK _ _ hS ?_
          clear hK K
          try simp only [Act.put, List.setIfInBounds_toArray, List.set_cons_zero, List.set_cons_succ]
          refine held_take (i := 18) (v := ?_) 5 rfl rfl (by kernel_rfl) (by kernel_rfl) (by kernel_rfl) (fun _ _ _ h => h) (Or.inl ⟨by rfl, ?_⟩) hS ?_
          rotate_left 1
          · intro w' hSw
            try dsimp only at hSw
            obtain ⟨q1, q2⟩ := hSw
            go_simp
            all_goals with_reducible rfl
          try simp only [Act.put, List.setIfInBounds_toArray, List.set_cons_zero, List.set_cons_succ]
          refine wpAnyH_done (by kernel_rfl) (noPanic_normal ?_) _
          go_wp2
          obtain ⟨c4, f4, l4⟩ := kz.rules
          refine bodyPost_ret (v := .tuple #[.agg #[.int .i64 T.x.lo, .int .i64 T.x.hi, .int .i64 T.y.lo, .int .i64 T.y.hi, .int .i64 T.s.lo, .int .i64 T.s.hi, .int .i64 T.d.lo, .int .i64 T.d.hi], .bool true]) (by simp [results, Tryz.results73, go_sem, c4]) rfl ⟨?_, bz⟩
          rw [hT.out, hin.out]
          rfl
        | false =>
          refine held_take (i := 16) (v := ?_) 85 rfl rfl (by kernel_rfl) (by kernel_rfl) (by kernel_rfl) (fun _ _ _ h => h) (Or.inl ⟨by rfl, ?_⟩) hS ?_
          rotate_left 1
          · intro w' hSw
            try dsimp only at hSw
            obtain ⟨q1, q2⟩ := hSw
            go_simp
            all_goals with_reducible rfl
          try simp only [Act.put, List.setIfInBounds_toArray, List.set_cons_zero, List.set_cons_succ]
          have kz := k4.set8 (.int .i64 T.x.lo) (.int .i64 T.x.hi) (.int .i64 T.y.lo) (.int .i64 T.y.hi) (.int .i64 T.s.lo) (.int .i64 T.s.hi) (.int .i64 T.d.lo) (.int .i64 T.d.hi)
          have k6z := far_set8 k6 (g := w.heap.size + 1 + 1) (by omega) (.int .i64 T.x.lo) (.int .i64 T.x.hi) (.int .i64 T.y.lo) (.int .i64 T.y.hi) (.int .i64 T.s.lo) (.int .i64 T.s.hi) (.int .i64 T.d.lo) (.int .i64 T.d.hi)
          have bz := below_set8 (g := w.heap.size + 1 + 1) hb (by omega) (.int .i64 T.x.lo) (.int .i64 T.x.hi) (.int .i64 T.y.lo) (.int .i64 T.y.hi) (.int .i64 T.s.lo) (.int .i64 T.s.hi) (.int .i64 T.d.lo) (.int .i64 T.d.hi)
          obtain ⟨wz, hwz⟩ : ∃ x, x = set8 w6 (w.heap.size + 1 + 1) (.int .i64 T.x.lo) (.int .i64 T.x.hi) (.int .i64 T.y.lo) (.int .i64 T.y.hi) (.int .i64 T.s.lo) (.int .i64 T.s.hi) (.int .i64 T.d.lo) (.int .i64 T.d.hi) := ⟨_, rfl⟩
          rw [← hwz] at kz k6z bz
          simp only [set8] at hwz
          refine held_one (i := 17) (by kernel_rfl) rfl rfl (fun K hK => ?_)
          obtain ⟨c4, f4, l4⟩ := k4.rules
          go_simp
          rw [← hwz]
          clear hwz hS c4 f4 l4
          have hS : (fun w' : World => (∀ j, w'.cell? ⟨w.heap.size + 1 + 1 + 1, j, none⟩ = #[Value.int .i64 T.x.lo, .int .i64 T.x.hi, .int .i64 T.y.lo, .int .i64 T.y.hi, .int .i64 T.s.lo, .int .i64 T.s.hi, .int .i64 T.d.lo, .int .i64 T.d.hi][j]?) ∧ True) wz := ⟨k6z.cell, trivial⟩
          refine hK _ _ hS ?_
          clear hK K
          try simp only [Act.put, List.setIfInBounds_toArray, List.set_cons_zero, List.set_cons_succ]
          refine held_take (i := 18) (v := ?_) 5 rfl rfl (by kernel_rfl) (by kernel_rfl) (by kernel_rfl) (fun _ _ _ h => h) (Or.inl ⟨by rfl, ?_⟩) hS ?_
          rotate_left 1
          · intro w' hSw
            try dsimp only at hSw
            obtain ⟨q1, q2⟩ := hSw
            go_simp
            all_goals with_reducible rfl
          try simp only [Act.put, List.setIfInBounds_toArray, List.set_cons_zero, List.set_cons_succ]
          refine wpAnyH_done (by kernel_rfl) (noPanic_normal ?_) _
          go_wp2
          obtain ⟨c4, f4, l4⟩ := kz.rules
          refine bodyPost_ret (v := .tuple #[.agg #[.int .i64 T.x.lo, .int .i64 T.x.hi, .int .i64 T.y.lo, .int .i64 T.y.hi, .int .i64 T.s.lo, .int .i64 T.s.hi, .int .i64 T.d.lo, .int .i64 T.d.hi], .bool false]) (by simp [results, Tryz.results73, go_sem, c4]) rfl ⟨?_, bz⟩
          rw [hT.out, hin.out]
          rfl
      | false =>
        refine held_take (i := 12) (v := ?_) 81 rfl rfl (by kernel_rfl) (by kernel_rfl) (by kernel_rfl) (fun _ _ _ h => h) (Or.inl ⟨by rfl, ?_⟩) hS ?_
        rotate_left 1
        · intro w' hSw
          try dsimp only at hSw
          obtain ⟨q1, q2⟩ := hSw
          go_simp
          all_goals with_reducible rfl
        try simp only [Act.put, List.setIfInBounds_toArray, List.set_cons_zero, List.set_cons_succ]
        refine held_take (i := 13) (v := undef) 82 rfl rfl (by kernel_rfl) (by kernel_rfl) (by kernel_rfl) (fun _ _ _ h => h) (Or.inr ⟨by rfl, rfl⟩) hS ?_
        try simp only [Act.put, List.setIfInBounds_toArray, List.set_cons_zero, List.set_cons_succ]
        refine held_take (i := 14) (v := undef) 83 rfl rfl (by kernel_rfl) (by kernel_rfl) (by kernel_rfl) (fun _ _ _ h => h) (Or.inr ⟨by rfl, rfl⟩) hS ?_
        try simp only [Act.put, List.setIfInBounds_toArray, List.set_cons_zero, List.set_cons_succ]
        refine held_take (i := 15) (v := undef) 84 rfl rfl (by kernel_rfl) (by kernel_rfl) (by kernel_rfl) (fun _ _ _ h => h) (Or.inr ⟨by rfl, rfl⟩) hS ?_
        try simp only [Act.put, List.setIfInBounds_toArray, List.set_cons_zero, List.set_cons_succ]
        refine held_take (i := 16) (v := ?_) 85 rfl rfl (by kernel_rfl) (by kernel_rfl) (by kernel_rfl) (fun _ _ _ h => h) (Or.inl ⟨by rfl, ?_⟩) hS ?_
        rotate_left 1
        · intro w' hSw
          try dsimp only at hSw
          obtain ⟨q1, q2⟩ := hSw
          go_simp
          all_goals with_reducible rfl
        try simp only [Act.put, List.setIfInBounds_toArray, List.set_cons_zero, List.set_cons_succ]
        have kz := k4.set8 (.int .i64 T.x.lo) (.int .i64 T.x.hi) (.int .i64 T.y.lo) (.int .i64 T.y.hi) (.int .i64 T.s.lo) (.int .i64 T.s.hi) (.int .i64 T.d.lo) (.int .i64 T.d.hi)
        have k6z := far_set8 k6 (g := w.heap.size + 1 + 1) (by omega) (.int .i64 T.x.lo) (.int .i64 T.x.hi) (.int .i64 T.y.lo) (.int .i64 T.y.hi) (.int .i64 T.s.lo) (.int .i64 T.s.hi) (.int .i64 T.d.lo) (.int .i64 T.d.hi)
        have bz := below_set8 (g := w.heap.size + 1 + 1) hb (by omega) (.int .i64 T.x.lo) (.int .i64 T.x.hi) (.int .i64 T.y.lo) (.int .i64 T.y.hi) (.int .i64 T.s.lo) (.int .i64 T.s.hi) (.int .i64 T.d.lo) (.int .i64 T.d.hi)
        obtain ⟨wz, hwz⟩ : ∃ x, x = set8 w5 (w.heap.size + 1 + 1) (.int .i64 T.x.lo) (.int .i64 T.x.hi) (.int .i64 T.y.lo) (.int .i64 T.y.hi) (.int .i64 T.s.lo) (.int .i64 T.s.hi) (.int .i64 T.d.lo) (.int .i64 T.d.hi) := ⟨_, rfl⟩
        rw [← hwz] at kz k6z bz
        simp only [set8] at hwz
        refine held_one (i := 17) (by kernel_rfl) rfl rfl (fun K hK => ?_)
        obtain ⟨c4, f4, l4⟩ := k4.rules
        go_simp
        rw [← hwz]
        clear hwz hS c4 f4 l4
        have hS : (fun w' : World => (∀ j, w'.cell? ⟨w.heap.size + 1 + 1 + 1, j, none⟩ = #[Value.int .i64 T.x.lo, .int .i64 T.x.hi, .int .i64 T.y.lo, .int .i64 T.y.hi, .int .i64 T.s.lo, .int .i64 T.s.hi, .int .i64 T.d.lo, .int .i64 T.d.hi][j]?) ∧ True) wz := ⟨k6z.cell, trivial⟩
        refine hK _ _ hS ?_
        clear hK K
        try simp only [Act.put, List.setIfInBounds_toArray, List.set_cons_zero, List.set_cons_succ]
        refine held_take (i := 18) (v := ?_) 5 rfl rfl (by kernel_rfl) (by kernel_rfl) (by kernel_rfl) (fun _ _ _ h => h) (Or.inl ⟨by rfl, ?_⟩) hS ?_
        rotate_left 1
        · intro w' hSw
          try dsimp only at hSw
          obtain ⟨q1, q2⟩ := hSw
          go_simp
          all_goals with_reducible rfl
        try simp only [Act.put, List.setIfInBounds_toArray, List.set_cons_zero, List.set_cons_succ]
        refine wpAnyH_done (by kernel_rfl) (noPanic_normal ?_) _
        go_wp2
        obtain ⟨c4, f4, l4⟩ := kz.rules
        refine bodyPost_ret (v := .tuple #[.agg #[.int .i64 T.x.lo, .int .i64 T.x.hi, .int .i64 T.y.lo, .int .i64 T.y.hi, .int .i64 T.s.lo, .int .i64 T.s.hi, .int .i64 T.d.lo, .int .i64 T.d.hi], .bool false]) (by simp [results, Tryz.results73, go_sem, c4]) rfl ⟨?_, bz⟩
        rw [hT.out, hin.out]
        rfl
end Go.Proofs.YtfengddpfeneiaaGreat
namespace Go.Proofs.YtfengddpfeneiaaGreat
open Go.RowKit Go.Shelf

theorem okReg_iff {r : Reg} : okReg r = true ↔ (-32768 ≤ r.x.lo ∧ r.x.lo ≤ r.x.hi ∧ r.x.hi ≤ 32768) ∧ (-32768 ≤ r.y.lo ∧ r.y.lo ≤ r.y.hi ∧ r.y.hi ≤ 32768) ∧ (-65536 ≤ r.s.lo ∧ r.s.lo ≤ r.s.hi ∧ r.s.hi ≤ 65536) ∧ (-65536 ≤ r.d.lo ∧ r.d.lo ≤ r.d.hi ∧ r.d.hi ≤ 65536) := by
  simp only [okReg, okBnd, Bool.and_eq_true, decide_eq_true_eq, and_assoc]
/-! What is written into the result's own cells at the end. -/
end Go.Proofs.YtfengddpfeneiaaGreat
namespace Go.Proofs.YtfengddpfeneiaaGreat
open Go.RowKit Go.Shelf
set_option linter.unusedSimpArgs false
set_option linter.unusedVariables false

theorem lt_of_sq {a b : Int} (ha : 0 ≤ b) (h : a * a < b * b) : a < b := by
  rcases Int.lt_or_le a b with h1 | h1
  · exact h1
  · have := Int.mul_le_mul h1 h1 ha (by omega); omega
/-- How far a section that lies straight reaches back, rounded up or down. -/
def backS (up : Bool) (n m : Int) : Int :=
  if up = true ∧ rootS (n * n - m * m) * rootS (n * n - m * m) < n * n - m * m then rootS (n * n - m * m) + 1 else rootS (n * n - m * m)
/-- Where the nodes are if all sections lie straight. -/
def laidX (s : Strm) (o : List Int) (up : Bool) : Nat → Int
  | 0 => 0
  | k + 1 => laidX s o up k - backS up (s.sec k).len (bendAt s o k)
def laidTo (s : Strm) (o : List Int) (up : Bool) (k : Nat) : List Pnt := (List.range k).map fun i => ⟨laidX s o up (i + 1), o.getD i s.head⟩
def laidL (s : Strm) (o : List Int) (up : Bool) : List Pnt := laidTo s o up o.length
def laidB (s : Strm) (o : List Int) : Bool := (List.range o.length).all fun i => decide (bendAt s o i ≤ (s.sec i).len)
theorem okReg_all {f n : Int} {b : Bnd} (h1 : 0 ≤ n) (h2 : n ≤ f) (h3 : f ≤ 8000) (h4 : okBnd 16384 b = true) : okReg { allReg with x := ⟨-f, -n⟩, y := b } = true := by
  obtain ⟨b1, b2, b3⟩ := of_decide_eq_true h4
  rw [okReg_iff]
  simp only [allReg]
  omega
theorem nodesL_at (s : Strm) (bs : List Bnd) {i : Nat} (h : i < bs.length) : (nodesL s bs)[i]? = some (nodeR s bs i) := by
  unfold nodesL; rw [List.getElem?_map, List.getElem?_range h]; rfl
/-- What region.Has says. -/
def hasS (r : Reg) (p : Pnt) : Bool := decide (zipR cutB r (ofP p) = ofP p)
def hasR (r : Reg) (p : Pnt) : Bool × Int := if okReg r = true then (if okPnt p = true then (hasS r p, 0) else (false, 10)) else (false, 11)
/-- Each bound of a tight region is met by one of its places. -/
structure TightR (r : Reg) : Prop where
  xlo : ∃ p, inR p r ∧ p.x = r.x.lo
  xhi : ∃ p, inR p r ∧ p.x = r.x.hi
  ylo : ∃ p, inR p r ∧ p.y = r.y.lo
  yhi : ∃ p, inR p r ∧ p.y = r.y.hi
  slo : ∃ p, inR p r ∧ p.x + p.y = r.s.lo
  shi : ∃ p, inR p r ∧ p.x + p.y = r.s.hi
  dlo : ∃ p, inR p r ∧ p.x - p.y = r.d.lo
  dhi : ∃ p, inR p r ∧ p.x - p.y = r.d.hi
theorem tight_tight {r t : Reg} (h : tightO r = some t) : TightR t := by
  have T := tight_hull h
  have f : ∀ {p : Pnt}, p ∈ ptsL r → inR p t := fun hp => tight_in h (ptsL_iff.1 hp).1
  obtain ⟨p1, m1, e1⟩ := T.xlo
  obtain ⟨p2, m2, e2⟩ := T.xhi
  obtain ⟨p3, m3, e3⟩ := T.ylo
  obtain ⟨p4, m4, e4⟩ := T.yhi
  obtain ⟨p5, m5, e5⟩ := T.slo
  obtain ⟨p6, m6, e6⟩ := T.shi
  obtain ⟨p7, m7, e7⟩ := T.dlo
  obtain ⟨p8, m8, e8⟩ := T.dhi
  exact ⟨⟨_, f m1, e1⟩, ⟨_, f m2, e2⟩, ⟨_, f m3, e3⟩, ⟨_, f m4, e4⟩, ⟨_, f m5, e5⟩, ⟨_, f m6, e6⟩, ⟨_, f m7, e7⟩, ⟨_, f m8, e8⟩⟩
theorem tight_self {t : Reg} (h : TightR t) : tightO t = some t := by
  obtain ⟨p1, i1, e1⟩ := h.xlo
  obtain ⟨p2, i2, e2⟩ := h.xhi
  obtain ⟨p3, i3, e3⟩ := h.ylo
  obtain ⟨p4, i4, e4⟩ := h.yhi
  obtain ⟨p5, i5, e5⟩ := h.slo
  obtain ⟨p6, i6, e6⟩ := h.shi
  obtain ⟨p7, i7, e7⟩ := h.dlo
  obtain ⟨p8, i8, e8⟩ := h.dhi
  obtain ⟨u, hu, -⟩ := tight_has i1
  have U := tight_tight hu
  have b1 := tight_in hu i1
  have b2 := tight_in hu i2
  have b3 := tight_in hu i3
  have b4 := tight_in hu i4
  have b5 := tight_in hu i5
  have b6 := tight_in hu i6
  have b7 := tight_in hu i7
  have b8 := tight_in hu i8
  obtain ⟨q1, j1, f1⟩ := U.xlo
  obtain ⟨q2, j2, f2⟩ := U.xhi
  obtain ⟨q3, j3, f3⟩ := U.ylo
  obtain ⟨q4, j4, f4⟩ := U.yhi
  obtain ⟨q5, j5, f5⟩ := U.slo
  obtain ⟨q6, j6, f6⟩ := U.shi
  obtain ⟨q7, j7, f7⟩ := U.dlo
  obtain ⟨q8, j8, f8⟩ := U.dhi
  replace j1 := tight_of hu j1
  replace j2 := tight_of hu j2
  replace j3 := tight_of hu j3
  replace j4 := tight_of hu j4
  replace j5 := tight_of hu j5
  replace j6 := tight_of hu j6
  replace j7 := tight_of hu j7
  replace j8 := tight_of hu j8
  rw [hu]
  have e : u = t := by
    obtain ⟨⟨ux1, ux2⟩, ⟨uy1, uy2⟩, ⟨us1, us2⟩, ⟨ud1, ud2⟩⟩ := u
    obtain ⟨⟨tx1, tx2⟩, ⟨ty1, ty2⟩, ⟨ts1, ts2⟩, ⟨td1, td2⟩⟩ := t
    unfold inR inB at *
    simp only [Reg.mk.injEq, Bnd.mk.injEq]
    dsimp only at *
    have k1 : ux1 = tx1 := by omega
    have k2 : ux2 = tx2 := by omega
    have k3 : uy1 = ty1 := by omega
    have k4 : uy2 = ty2 := by omega
    have k5 : us1 = ts1 := by omega
    have k6 : us2 = ts2 := by omega
    have k7 : ud1 = td1 := by omega
    have k8 : ud2 = td2 := by omega
    exact ⟨⟨k1, k2⟩, ⟨k3, k4⟩, ⟨k5, k6⟩, ⟨k7, k8⟩⟩
  rw [e]
/-! The least and the greatest p x + q y. -/
structure ExtS (r : Reg) (p q : Int) (b : Bnd) : Prop where
  lo : ∃ v, inR v r ∧ p * v.x + q * v.y = b.lo
  hi : ∃ v, inR v r ∧ p * v.x + q * v.y = b.hi
  has : ∀ v, inR v r → inB (p * v.x + q * v.y) b
def ExtL (L : List RRow) (p q : Int) (b : Bnd) : Prop :=
  (∃ w ∈ L, p * w.x + q * w.fr = b.lo ∨ p * w.x + q * w.to = b.lo) ∧ (∃ w ∈ L, p * w.x + q * w.fr = b.hi ∨ p * w.x + q * w.to = b.hi) ∧ ∀ w ∈ L, inB (p * w.x + q * w.fr) b ∧ inB (p * w.x + q * w.to) b
theorem extL_add {L : List RRow} {p q : Int} {b : Bnd} (w : RRow) (h : ExtL L p q b) (c : Bnd) (hc : addE (some b) (p * w.x + q * w.fr, p * w.x + q * w.to) = some c) : ExtL (L ++ [w]) p q c := by
  obtain ⟨⟨w1, m1, e1⟩, ⟨w2, m2, e2⟩, h3⟩ := h
  have hm : w ∈ L ++ [w] := by simp
  simp only [addE, Option.some.injEq] at hc
  subst hc
  generalize ha : p * w.x + q * w.fr = a at *
  generalize hb : p * w.x + q * w.to = a' at *
  refine ⟨?_, ?_, fun v hv => ?_⟩
  · by_cases k1 : b.lo ≤ a ∧ b.lo ≤ a'
    · exact ⟨w1, List.mem_append_left _ m1, by dsimp only; omega⟩
    · exact ⟨w, hm, by dsimp only; omega⟩
  · by_cases k1 : a ≤ b.hi ∧ a' ≤ b.hi
    · exact ⟨w2, List.mem_append_left _ m2, by dsimp only; omega⟩
    · exact ⟨w, hm, by dsimp only; omega⟩
  · rcases List.mem_append.1 hv with hv | hv
    · have := h3 v hv
      unfold inB at *
      dsimp only
      omega
    · simp at hv; subst hv
      unfold inB
      dsimp only
      omega
theorem extL_one (w : RRow) (p q : Int) (c : Bnd) (hc : addE none (p * w.x + q * w.fr, p * w.x + q * w.to) = some c) : ExtL [w] p q c := by
  have hm : w ∈ [w] := by simp
  simp only [addE, Option.some.injEq] at hc
  subst hc
  refine ⟨⟨w, hm, by dsimp only; omega⟩, ⟨w, hm, by dsimp only; omega⟩, fun v hv => ?_⟩
  simp at hv; subst hv
  unfold inB
  dsimp only
  omega
theorem extL_fold (p q : Int) : ∀ (M L : List RRow) (b : Bnd), ExtL L p q b → ∃ c, M.foldl (fun o w => addE o (p * w.x + q * w.fr, p * w.x + q * w.to)) (some b) = some c ∧ ExtL (L ++ M) p q c
  | [], L, b, h => ⟨b, rfl, by rw [List.append_nil]; exact h⟩
  | w :: M, L, b, h => by
    obtain ⟨c, e, k⟩ := extL_fold p q M (L ++ [w]) _ (extL_add w h _ rfl)
    exact ⟨c, e, by simpa using k⟩
theorem extL_of (p q : Int) : ∀ L : List RRow, L ≠ [] → ∃ c, extO L p q = some c ∧ ExtL L p q c
  | [], h => absurd rfl h
  | w :: M, _ => by
    obtain ⟨c, e, k⟩ := extL_fold p q M [w] _ (extL_one w p q _ rfl)
    exact ⟨c, e, k⟩
theorem row_lin {q a b y : Int} (h1 : a ≤ y) (h2 : y ≤ b) : min (q * a) (q * b) ≤ q * y ∧ q * y ≤ max (q * a) (q * b) := by
  rcases Int.le_total 0 q with h | h
  · have := Int.mul_le_mul_of_nonneg_left h1 h
    have := Int.mul_le_mul_of_nonneg_left h2 h
    omega
  · have := Int.mul_le_mul_of_nonpos_left h h1
    have := Int.mul_le_mul_of_nonpos_left h h2
    omega
theorem row_of {r : Reg} {v : Pnt} (h : inR v r) : rowB r v.x ∈ rowsL r ∧ (rowB r v.x).fr ≤ v.y ∧ v.y ≤ (rowB r v.x).to := by
  have hle : (rowB r v.x).fr ≤ v.y ∧ v.y ≤ (rowB r v.x).to := by
    unfold inR inB at h
    unfold rowB
    dsimp only
    omega
  exact ⟨rowsL_iff.2 ⟨h.1, rfl, by omega⟩, hle.1, hle.2⟩
theorem row_ends {r : Reg} {w : RRow} (h : w ∈ rowsL r) : inR ⟨w.x, w.fr⟩ r ∧ inR ⟨w.x, w.to⟩ r := by
  obtain ⟨h1, h2, h3⟩ := rowsL_iff.1 h
  rw [h2] at h3
  have e1 : w.fr = (rowB r w.x).fr := by rw [← h2]
  have e2 : w.to = (rowB r w.x).to := by rw [← h2]
  rw [e1, e2]
  unfold inR inB at *
  unfold rowB at *
  dsimp only at *
  omega
theorem ext_spec {r : Reg} (p q : Int) (h : ∃ v, inR v r) : ExtS r p q (extB r p q) := by
  obtain ⟨v0, h0⟩ := h
  obtain ⟨c, e, ⟨w1, m1, e1⟩, ⟨w2, m2, e2⟩, h3⟩ := extL_of p q (rowsL r) (List.ne_nil_of_mem (row_of h0).1)
  unfold extB
  rw [e]
  show ExtS r p q c
  refine ⟨?_, ?_, fun v hv => ?_⟩
  · obtain ⟨a, b⟩ := row_ends m1
    rcases e1 with e1 | e1
    · exact ⟨_, a, e1⟩
    · exact ⟨_, b, e1⟩
  · obtain ⟨a, b⟩ := row_ends m2
    rcases e2 with e2 | e2
    · exact ⟨_, a, e2⟩
    · exact ⟨_, b, e2⟩
  · obtain ⟨hm, a, b⟩ := row_of hv
    have k := h3 _ hm
    have l := row_lin (q := q) a b
    have ex : (rowB r v.x).x = v.x := rfl
    rw [ex] at k
    unfold inB at *
    omega
theorem floorS_one (a : Int) : floorS a 1 = a := by unfold floorS; omega
theorem ceilS_one (a : Int) : ceilS a 1 = a := by unfold ceilS; omega
theorem turnB_one (r : Reg) (p q : Int) : turnB r 1 p q = extB r p q := by unfold turnB; rw [floorS_one, ceilS_one]
theorem bnd_ext {a b : Bnd} (h1 : a.lo = b.lo) (h2 : a.hi = b.hi) : a = b := by cases a; cases b; simp_all
theorem ext_eq {r : Reg} {p q : Int} {c : Bnd} (h1 : ∃ v, inR v r ∧ p * v.x + q * v.y = c.lo) (h2 : ∃ v, inR v r ∧ p * v.x + q * v.y = c.hi) (h3 : ∀ v, inR v r → inB (p * v.x + q * v.y) c) : extB r p q = c := by
  obtain ⟨v1, i1, e1⟩ := h1
  obtain ⟨v2, i2, e2⟩ := h2
  have E := ext_spec p q ⟨v1, i1⟩
  obtain ⟨v3, i3, e3⟩ := E.lo
  obtain ⟨v4, i4, e4⟩ := E.hi
  have a1 := E.has _ i1
  have a2 := E.has _ i2
  have a3 := h3 _ i3
  have a4 := h3 _ i4
  unfold inB at *
  exact bnd_ext (by omega) (by omega)
def negB (b : Bnd) : Bnd := ⟨-b.hi, -b.lo⟩
def negR (r : Reg) : Reg := ⟨negB r.x, negB r.y, negB r.s, negB r.d⟩
theorem turned_none {t : Reg} (h : TightR t) : turnedS t ⟨1, 0, 1⟩ = t := by
  unfold turnedS
  dsimp only
  rw [turnB_one, turnB_one, turnB_one, turnB_one]
  obtain ⟨p1, i1, e1⟩ := h.xlo
  obtain ⟨p2, i2, e2⟩ := h.xhi
  obtain ⟨p3, i3, e3⟩ := h.ylo
  obtain ⟨p4, i4, e4⟩ := h.yhi
  obtain ⟨p5, i5, e5⟩ := h.slo
  obtain ⟨p6, i6, e6⟩ := h.shi
  obtain ⟨p7, i7, e7⟩ := h.dlo
  obtain ⟨p8, i8, e8⟩ := h.dhi
  have x : extB t 1 (-0) = t.x := ext_eq ⟨p1, i1, by omega⟩ ⟨p2, i2, by omega⟩ fun v hv => by unfold inR inB at *; omega
  have y : extB t 0 1 = t.y := ext_eq ⟨p3, i3, by omega⟩ ⟨p4, i4, by omega⟩ fun v hv => by unfold inR inB at *; omega
  have s : extB t (1 + 0) (1 - 0) = t.s := ext_eq ⟨p5, i5, by omega⟩ ⟨p6, i6, by omega⟩ fun v hv => by unfold inR inB at *; omega
  have d : extB t (1 - 0) (-0 - 1) = t.d := ext_eq ⟨p7, i7, by omega⟩ ⟨p8, i8, by omega⟩ fun v hv => by unfold inR inB at *; omega
  rw [x, y, s, d]
theorem turned_half {t : Reg} (h : TightR t) : turnedS t ⟨-1, 0, 1⟩ = negR t := by
  unfold turnedS
  dsimp only
  rw [turnB_one, turnB_one, turnB_one, turnB_one]
  obtain ⟨p1, i1, e1⟩ := h.xlo
  obtain ⟨p2, i2, e2⟩ := h.xhi
  obtain ⟨p3, i3, e3⟩ := h.ylo
  obtain ⟨p4, i4, e4⟩ := h.yhi
  obtain ⟨p5, i5, e5⟩ := h.slo
  obtain ⟨p6, i6, e6⟩ := h.shi
  obtain ⟨p7, i7, e7⟩ := h.dlo
  obtain ⟨p8, i8, e8⟩ := h.dhi
  unfold negR negB
  have x : extB t (-1) (-0) = ⟨-t.x.hi, -t.x.lo⟩ := ext_eq ⟨p2, i2, by dsimp only; omega⟩ ⟨p1, i1, by dsimp only; omega⟩ fun v hv => by unfold inR inB at *; dsimp only; omega
  have y : extB t 0 (-1) = ⟨-t.y.hi, -t.y.lo⟩ := ext_eq ⟨p4, i4, by dsimp only; omega⟩ ⟨p3, i3, by dsimp only; omega⟩ fun v hv => by unfold inR inB at *; dsimp only; omega
  have s : extB t (-1 + 0) (-1 - 0) = ⟨-t.s.hi, -t.s.lo⟩ := ext_eq ⟨p6, i6, by dsimp only; omega⟩ ⟨p5, i5, by dsimp only; omega⟩ fun v hv => by unfold inR inB at *; dsimp only; omega
  have d : extB t (-1 - 0) (-0 - -1) = ⟨-t.d.hi, -t.d.lo⟩ := ext_eq ⟨p8, i8, by dsimp only; omega⟩ ⟨p7, i7, by dsimp only; omega⟩ fun v hv => by unfold inR inB at *; dsimp only; omega
  rw [x, y, s, d]
theorem tight_neg {t : Reg} (h : TightR t) : TightR (negR t) := by
  obtain ⟨p1, i1, e1⟩ := h.xlo
  obtain ⟨p2, i2, e2⟩ := h.xhi
  obtain ⟨p3, i3, e3⟩ := h.ylo
  obtain ⟨p4, i4, e4⟩ := h.yhi
  obtain ⟨p5, i5, e5⟩ := h.slo
  obtain ⟨p6, i6, e6⟩ := h.shi
  obtain ⟨p7, i7, e7⟩ := h.dlo
  obtain ⟨p8, i8, e8⟩ := h.dhi
  have f : ∀ p : Pnt, inR p t → inR ⟨-p.x, -p.y⟩ (negR t) := fun p hp => by unfold inR inB negR negB at *; dsimp only; omega
  exact ⟨⟨_, f _ i2, by show -p2.x = -t.x.hi; omega⟩, ⟨_, f _ i1, by show -p1.x = -t.x.lo; omega⟩, ⟨_, f _ i4, by show -p4.y = -t.y.hi; omega⟩, ⟨_, f _ i3, by show -p3.y = -t.y.lo; omega⟩,
    ⟨_, f _ i6, by show -p6.x + -p6.y = -t.s.hi; omega⟩, ⟨_, f _ i5, by show -p5.x + -p5.y = -t.s.lo; omega⟩, ⟨_, f _ i8, by show -p8.x - -p8.y = -t.d.hi; omega⟩, ⟨_, f _ i7, by show -p7.x - -p7.y = -t.d.lo; omega⟩⟩
/-! Where the nodes are in the plane. -/
def placeR (ship : Pnt) (h : Hdg) (r : Reg) : Reg × Int := if inPlane (turnedS r h) = true then moveR (turnedS r h) ship else (noReg, 7)
def whereE (ship : Pnt) (h : Hdg) (L : List Reg) : Nat → Int
  | 0 => 0
  | k + 1 => if whereE ship h L k = 0 then (placeR ship h (L.getD k noReg)).2 else whereE ship h L k
def whereTo (ship : Pnt) (h : Hdg) (L : List Reg) (k : Nat) : List Reg := (List.range k).map fun i => (placeR ship h (L.getD i noReg)).1
def whereN (ship : Pnt) (h : Hdg) (L : List Reg) : List Reg × Int := if whereE ship h L L.length = 0 then (whereTo ship h L L.length, 0) else ([], whereE ship h L L.length)
def whereR (s : Strm) (bs : List Bnd) (ship : Pnt) (h : Hdg) : List Reg × Int :=
  if errB s bs = 0 then (if okPnt ship = true then (if okHdg h = true then whereN ship h (nodesL s bs) else ([], 35)) else ([], 10)) else ([], errB s bs)
theorem whereTo_succ (ship : Pnt) (h : Hdg) (L : List Reg) (k : Nat) : whereTo ship h L (k + 1) = whereTo ship h L k ++ [(placeR ship h (L.getD k noReg)).1] := by
  unfold whereTo; rw [List.range_succ, List.map_append]; rfl
theorem whereTo_len (ship : Pnt) (h : Hdg) (L : List Reg) (k : Nat) : (whereTo ship h L k).length = k := by simp [whereTo]
theorem whereE_zero {ship : Pnt} {h : Hdg} {L : List Reg} : ∀ n, whereE ship h L n = 0 ↔ ∀ k, k < n → (placeR ship h (L.getD k noReg)).2 = 0
  | 0 => by simp [whereE]
  | n + 1 => by
    have ih := whereE_zero (ship := ship) (h := h) (L := L) n
    rw [whereE]
    constructor
    · intro e k hk
      by_cases e0 : whereE ship h L n = 0
      · rw [if_pos e0] at e
        by_cases hkn : k < n
        · exact ih.1 e0 k hkn
        · obtain rfl : k = n := by omega
          exact e
      · rw [if_neg e0] at e; exact absurd e e0
    · intro H
      rw [if_pos (ih.2 fun k hk => H k (by omega))]
      exact H n (by omega)
theorem whereE_stop {ship : Pnt} {h : Hdg} {L : List Reg} {k : Nat} (h0 : whereE ship h L k = 0) (h1 : (placeR ship h (L.getD k noReg)).2 ≠ 0) : ∀ n, k < n → whereE ship h L n = (placeR ship h (L.getD k noReg)).2
  | 0, hn => absurd hn (Nat.not_lt_zero _)
  | n + 1, hn => by
    by_cases e : k = n
    · subst e; rw [whereE, if_pos h0]
    · have ih := whereE_stop h0 h1 n (by omega)
      rw [whereE, if_neg (by rw [ih]; exact h1), ih]
theorem moveR_tight {r : Reg} {b : Pnt} (h : TightR r) (ho : okReg r = true) (hb : okPnt b = true) : moveR r b = insideR (zipR plusB r (ofP b)) := by
  have := of_decide_eq_true hb
  rw [moveR, if_pos ho, if_pos (by omega), tight_self h]
theorem node_tight {s : Strm} {bs : List Bnd} (hs : okStrm s = true) (hb : okOffs s bs = true) {i : Nat} (hi : i < bs.length) : TightR (nodeR s bs i) ∧ okReg (nodeR s bs i) = true ∧ (-8000 ≤ (nodeR s bs i).x.lo ∧ (nodeR s bs i).x.hi ≤ 0 ∧ -16384 ≤ (nodeR s bs i).y.lo ∧ (nodeR s bs i).y.hi ≤ 16384) := by
  have hlen : bs.length = s.secs.length := okOffs_len hb
  have hn8 : s.secs.length ≤ 8 := by have := ok_head hs; unfold headOk at this; omega
  have hfar := farS_bd hs (i + 1)
  have hnear := nearS_bd hs (okOffs_all hb) (i + 1)
  have hnf : nearS s bs (i + 1) ≤ farS s (i + 1) := by
    have : ∀ k, nearS s bs k ≤ farS s k := fun k => by
      induction k with
      | zero => exact Int.le_refl _
      | succ k ih =>
        have hl := sec_len hs k
        have hm := bend_hi (s := s) (ok_head hs) (okOffs_all hb) k
        have h1 : min (((bendL s bs).getD k ⟨0, 0⟩).hi) (s.sec k).len * min (((bendL s bs).getD k ⟨0, 0⟩).hi) (s.sec k).len ≤ (s.sec k).len * (s.sec k).len := sq_mono (by omega) (by omega)
        have h0 : 0 ≤ min (((bendL s bs).getD k ⟨0, 0⟩).hi) (s.sec k).len * min (((bendL s bs).getD k ⟨0, 0⟩).hi) (s.sec k).len := Int.mul_nonneg (by omega) (by omega)
        have hr := rootS_bd (show 0 ≤ (s.sec k).len * (s.sec k).len - min (((bendL s bs).getD k ⟨0, 0⟩).hi) (s.sec k).len * min (((bendL s bs).getD k ⟨0, 0⟩).hi) (s.sec k).len by omega)
        have := lt_of_sq (a := shortS (s.sec k).len ((bendL s bs).getD k ⟨0, 0⟩).hi) (b := (s.sec k).len + 1) (by omega) (by
          have : ((s.sec k).len + 1) * ((s.sec k).len + 1) = (s.sec k).len * (s.sec k).len + 2 * (s.sec k).len + 1 := by simp only [Int.add_mul, Int.mul_add]; omega
          unfold shortS
          omega)
        show nearS s bs k + shortS _ _ ≤ farS s k + _
        omega
    exact this _
  have hbb := List.all_eq_true.1 (okOffs_all hb) _ (List.mem_of_getElem? (getD_get (⟨0, 0⟩ : Bnd) (l := bs) (i := i) hi))
  have hok : okReg { allReg with x := ⟨-farS s (i + 1), -nearS s bs (i + 1)⟩, y := bs.getD i ⟨0, 0⟩ } = true := okReg_all (by omega) hnf (by omega) hbb
  obtain ⟨b1, b2, b3⟩ := of_decide_eq_true hbb
  have hin : inR ⟨-farS s (i + 1), (bs.getD i ⟨0, 0⟩).lo⟩ { allReg with x := ⟨-farS s (i + 1), -nearS s bs (i + 1)⟩, y := bs.getD i ⟨0, 0⟩ } := by
    unfold inR inB allReg
    dsimp only
    omega
  obtain ⟨t, e, ht⟩ := tight_has hin
  unfold nodeR
  rw [tightR, if_pos hok, e]
  show TightR t ∧ okReg t = true ∧ _
  have T := tight_tight e
  refine ⟨T, tight_ok hok e, ?_⟩
  show -8000 ≤ t.x.lo ∧ t.x.hi ≤ 0 ∧ -16384 ≤ t.y.lo ∧ t.y.hi ≤ 16384
  obtain ⟨p1, i1, e1⟩ := T.xlo
  obtain ⟨p2, i2, e2⟩ := T.xhi
  obtain ⟨p3, i3, e3⟩ := T.ylo
  obtain ⟨p4, i4, e4⟩ := T.yhi
  replace i1 := tight_of e i1
  replace i2 := tight_of e i2
  replace i3 := tight_of e i3
  replace i4 := tight_of e i4
  unfold inR inB at i1 i2 i3 i4
  dsimp only at i1 i2 i3 i4
  omega
theorem node_none {s : Strm} {bs : List Bnd} (hs : okStrm s = true) (hb : okOffs s bs = true) {ship : Pnt} {i : Nat} (hi : i < bs.length) : placeR ship ⟨1, 0, 1⟩ (nodeR s bs i) = moveR (nodeR s bs i) ship := by
  obtain ⟨h1, h2, h3⟩ := node_tight hs hb hi
  unfold placeR
  rw [turned_none h1, if_pos]
  rw [okReg_iff] at h2
  unfold inPlane okBnd
  simp only [Bool.and_eq_true, decide_eq_true_eq]
  omega
theorem negR_ok {r : Reg} (h : okReg r = true) : okReg (negR r) = true := by
  rw [okReg_iff] at *
  unfold negR negB
  dsimp only
  omega
/-- By half a turn the nodes lie on the other side of the ship; or they are beyond the plane. -/
theorem node_half {s : Strm} {bs : List Bnd} (hs : okStrm s = true) (hb : okOffs s bs = true) {ship : Pnt} (hp : okPnt ship = true) {i : Nat} (hi : i < bs.length) :
    placeR ship ⟨-1, 0, 1⟩ (nodeR s bs i) = insideR (zipR plusB (negR (nodeR s bs i)) (ofP ship)) ∧ moveR (nodeR s bs i) ship = insideR (zipR plusB (nodeR s bs i) (ofP ship)) := by
  obtain ⟨h1, h2, h3⟩ := node_tight hs hb hi
  refine ⟨?_, moveR_tight h1 h2 hp⟩
  unfold placeR
  rw [turned_half h1, moveR_tight (tight_neg h1) (negR_ok h2) hp, if_pos]
  have := okReg_iff.1 (negR_ok h2)
  unfold inPlane okBnd
  simp only [Bool.and_eq_true, decide_eq_true_eq]
  omega
theorem insideR_vals (f : Reg) : insideR f = (f, 0) ∨ insideR f = (noReg, 7) := by
  unfold insideR; split
  · exact .inl rfl
  · exact .inr rfl
/-- What the law TowAhead says of the two lists. -/
theorem ahead {s : Strm} {bs : List Bnd} {ship : Pnt} (he : errB s bs = 0) (hp : okPnt ship = true) (h1 : whereE ship ⟨1, 0, 1⟩ (nodesL s bs) bs.length = 0) {i : Nat} (hi : i < bs.length) :
    (moveR (nodeR s bs i) ship).2 = 0 ∧ (placeR ship ⟨1, 0, 1⟩ (nodeR s bs i)).1 = (moveR (nodeR s bs i) ship).1
    ∧ ((placeR ship ⟨-1, 0, 1⟩ (nodeR s bs i)).2 = 0 → (moveR (nodeR s bs i) ship).1.x.lo - ship.x = ship.x - (placeR ship ⟨-1, 0, 1⟩ (nodeR s bs i)).1.x.hi ∧ (moveR (nodeR s bs i) ship).1.y.hi - ship.y = ship.y - (placeR ship ⟨-1, 0, 1⟩ (nodeR s bs i)).1.y.lo) := by
  obtain ⟨hs, hb⟩ := errB_zero he
  have hg : (nodesL s bs).getD i noReg = nodeR s bs i := getD_of _ (nodesL_at s bs hi)
  have h2 := (whereE_zero bs.length).1 h1 i hi
  rw [hg] at h2
  have e1 := node_none hs hb (ship := ship) hi
  obtain ⟨e2, e3⟩ := node_half hs hb hp hi
  rw [e1] at h2
  refine ⟨h2, by rw [e1], fun h => ?_⟩
  rw [e2] at h ⊢
  rw [e3] at h2 ⊢
  rcases insideR_vals (zipR plusB (negR (nodeR s bs i)) (ofP ship)) with q | q
  · rcases insideR_vals (zipR plusB (nodeR s bs i) (ofP ship)) with z | z
    · rw [q, z]
      unfold zipR plusB negR negB ofP still
      dsimp only
      omega
    · rw [z] at h2; simp at h2
  · rw [q] at h; simp at h
theorem okHdg_iff {h : Hdg} : okHdg h = true ↔ 1 ≤ h.c ∧ h.c ≤ 1000 ∧ -h.c ≤ h.p ∧ h.p ≤ h.c ∧ -h.c ≤ h.q ∧ h.q ≤ h.c ∧ h.p * h.p + h.q * h.q = h.c * h.c := by unfold okHdg; rw [decide_eq_true_eq]
/-- What a bound that is turned says of a place. -/
theorem turnB_has {r : Reg} {c p q : Int} (hc : 1 ≤ c) {v : Pnt} (hv : inR v r) : c * (turnB r c p q).lo ≤ p * v.x + q * v.y ∧ p * v.x + q * v.y ≤ c * (turnB r c p q).hi := by
  have E := (ext_spec p q ⟨v, hv⟩).has _ hv
  unfold inB at E
  unfold turnB floorS ceilS
  dsimp only
  generalize p * v.x + q * v.y = n at *
  generalize (extB r p q).lo = lo at *
  generalize (extB r p q).hi = hi at *
  have h1 := Int.mul_ediv_self_le (x := lo) (k := c) (by omega)
  have h2 := Int.mul_ediv_self_le (x := -hi) (k := c) (by omega)
  rw [Int.mul_neg]
  omega
theorem mul_lt_of {c a b : Int} (hc : 1 ≤ c) (h : c * a < c * b) : a < b := by
  rcases Int.lt_or_le a b with h1 | h1
  · exact h1
  · have := Int.mul_le_mul_of_nonneg_left h1 (show 0 ≤ c by omega); omega
/-- The bounds are the outermost whole numbers: each is met within one. -/
theorem turnB_met {r : Reg} {c p q : Int} (hc : 1 ≤ c) (hr : ∃ v, inR v r) : (∃ v, inR v r ∧ p * v.x + q * v.y < c * ((turnB r c p q).lo + 1)) ∧ (∃ v, inR v r ∧ c * ((turnB r c p q).hi - 1) < p * v.x + q * v.y) := by
  have E := ext_spec p q hr
  obtain ⟨v1, i1, e1⟩ := E.lo
  obtain ⟨v2, i2, e2⟩ := E.hi
  refine ⟨⟨v1, i1, ?_⟩, ⟨v2, i2, ?_⟩⟩
  · rw [e1]
    unfold turnB floorS
    dsimp only
    have := Int.lt_mul_ediv_self_add (x := (extB r p q).lo) (k := c) (by omega)
    rw [Int.mul_add]; omega
  · rw [e2]
    unfold turnB ceilS
    dsimp only
    have := Int.lt_mul_ediv_self_add (x := -(extB r p q).hi) (k := c) (by omega)
    rw [Int.mul_sub, Int.mul_neg]; omega
/-- No place is turned to the middle between four. -/
theorem no_middle {p q c x y m X Y : Int} (h : p * p + q * q = c * c) (h1 : p * x - q * y = c * X + m) (h2 : q * x + p * y = c * Y + m) (h3 : c = 2 * m) (hm : m ≠ 0) : False := by
  have e : 2 * (m * m) * (2 * (x * x + y * y) - 2 * (X * X + Y * Y) - 2 * (X + Y) - 1) = 0 := by grind
  rcases Int.mul_eq_zero.1 e with e | e
  · rcases Int.mul_eq_zero.1 e with e | e
    · omega
    · rcases Int.mul_eq_zero.1 e with e | e <;> exact hm e
  · generalize x * x + y * y = a at e
    generalize X * X + Y * Y = b at e
    omega
/-- On a side of each place that is turned there is a place of the turned region, nearer than one. -/
theorem turned_near {r : Reg} {h : Hdg} (hh : okHdg h = true) {v : Pnt} (hv : inR v r) :
    ∃ u : Pnt, inR u (turnedS r h) ∧ (∃ a b : Int, h.c * u.x = h.p * v.x - h.q * v.y + a ∧ h.c * u.y = h.q * v.x + h.p * v.y + b ∧ a.natAbs + b.natAbs < h.c) := by
  obtain ⟨c1, c2, p1, p2, q1, q2, hn⟩ := okHdg_iff.1 hh
  have B1 := turnB_has (p := h.p) (q := -h.q) c1 hv
  have B2 := turnB_has (p := h.q) (q := h.p) c1 hv
  have B3 := turnB_has (p := h.p + h.q) (q := h.p - h.q) c1 hv
  have B4 := turnB_has (p := h.p - h.q) (q := -h.q - h.p) c1 hv
  unfold inR turnedS
  dsimp only
  generalize turnB r h.c h.p (-h.q) = X at *
  generalize turnB r h.c h.q h.p = Y at *
  generalize turnB r h.c (h.p + h.q) (h.p - h.q) = S at *
  generalize turnB r h.c (h.p - h.q) (-h.q - h.p) = D at *
  have e1 : h.p * v.x + -h.q * v.y = h.p * v.x - h.q * v.y := by grind
  have e3 : (h.p + h.q) * v.x + (h.p - h.q) * v.y = (h.p * v.x - h.q * v.y) + (h.q * v.x + h.p * v.y) := by grind
  have e4 : (h.p - h.q) * v.x + (-h.q - h.p) * v.y = (h.p * v.x - h.q * v.y) - (h.q * v.x + h.p * v.y) := by grind
  rw [e1] at B1
  rw [e3] at B3
  rw [e4] at B4
  have hmid := fun m X Y => no_middle (x := v.x) (y := v.y) (m := m) (X := X) (Y := Y) hn
  generalize h.p * v.x - h.q * v.y = m at *
  generalize h.q * v.x + h.p * v.y = n at *
  generalize h.c = c at *
  have d1 := Int.mul_ediv_add_emod m c
  have d2 := Int.mul_ediv_add_emod n c
  have r1 := Int.emod_nonneg m (show c ≠ 0 by omega)
  have r2 := Int.emod_nonneg n (show c ≠ 0 by omega)
  have r3 := Int.emod_lt_of_pos m (show 0 < c by omega)
  have r4 := Int.emod_lt_of_pos n (show 0 < c by omega)
  have hm2 := hmid (m % c) (m / c) (n / c)
  generalize m / c = X0 at *
  generalize n / c = Y0 at *
  generalize m % c = rx at *
  generalize n % c = ry at *
  have lo : ∀ {l k t : Int}, c * l ≤ t → t < c * (k + 1) → l ≤ k := fun h1 h2 => by have := mul_lt_of c1 (Int.lt_of_le_of_lt h1 h2); omega
  have hi : ∀ {l k t : Int}, t ≤ c * l → c * (k - 1) < t → k ≤ l := fun h1 h2 => by have := mul_lt_of c1 (Int.lt_of_lt_of_le h2 h1); omega
  obtain ⟨x1, x2⟩ := B1
  obtain ⟨y1, y2⟩ := B2
  obtain ⟨s1, s2⟩ := B3
  obtain ⟨t1, t2⟩ := B4
  have E : ∀ a b : Int, c * (a + b) = c * a + c * b := fun a b => Int.mul_add _ _ _
  have E1 : c * 1 = c := Int.mul_one c
  have F : ∀ a b : Int, c * (a - b) = c * a - c * b := fun a b => Int.mul_sub _ _ _
  have fin : ∀ P Q A B : Int, c * P = m + A → c * Q = n + B → A.natAbs + B.natAbs < c →
      ∃ u : Pnt, (inB u.x X ∧ inB u.y Y ∧ inB (u.x + u.y) S ∧ inB (u.x - u.y) D) ∧ ∃ a b : Int, c * u.x = m + a ∧ c * u.y = n + b ∧ a.natAbs + b.natAbs < c := by
    intro P Q A B hP hQ hAB
    refine ⟨⟨P, Q⟩, ⟨⟨lo x1 ?_, hi x2 ?_⟩, ⟨lo y1 ?_, hi y2 ?_⟩, ⟨lo s1 ?_, hi s2 ?_⟩, ⟨lo t1 ?_, hi t2 ?_⟩⟩, A, B, hP, hQ, hAB⟩
    all_goals (simp only [E, F, E1]; omega)
  by_cases k1 : rx + ry < c
  · exact fin X0 Y0 (-rx) (-ry) (by omega) (by omega) (by omega)
  · by_cases k2 : ry < rx
    · exact fin (X0 + 1) Y0 (c - rx) (-ry) (by rw [E, E1]; omega) (by omega) (by omega)
    · by_cases k3 : rx < ry
      · exact fin X0 (Y0 + 1) (-rx) (c - ry) (by omega) (by rw [E, E1]; omega) (by omega)
      · obtain rfl : rx = ry := by omega
        by_cases k4 : c = 2 * rx
        · exact (hm2 d1.symm d2.symm k4 (by omega)).elim
        · exact fin (X0 + 1) (Y0 + 1) (c - rx) (c - rx) (by rw [E, E1]; omega) (by rw [E, E1]; omega) (by omega)
/-- The place that two numbers choose. -/
def chosenP (t : Reg) (a b : Int) : Pnt :=
  let x := t.x.lo + restS a (t.x.hi - t.x.lo + 1)
  ⟨x, (rowB t x).fr + restS b ((rowB t x).to - (rowB t x).fr + 1)⟩
/-- The turned region is a region with places. -/
theorem turned_ok {r : Reg} {h : Hdg} (hh : okHdg h = true) (hr : ∃ v, inR v r) (hp : inPlane (turnedS r h) = true) : okReg (turnedS r h) = true := by
  obtain ⟨c1, c2, p1, p2, q1, q2, hn⟩ := okHdg_iff.1 hh
  obtain ⟨v0, h0⟩ := hr
  obtain ⟨u, hu, -⟩ := turned_near hh h0
  obtain ⟨⟨v3, i3, e3⟩, ⟨v4, i4, e4⟩⟩ := turnB_met (r := r) (p := h.p + h.q) (q := h.p - h.q) c1 ⟨v0, h0⟩
  obtain ⟨⟨v5, i5, e5⟩, ⟨v6, i6, e6⟩⟩ := turnB_met (r := r) (p := h.p - h.q) (q := -h.q - h.p) c1 ⟨v0, h0⟩
  have A3 := turnB_has (p := h.p) (q := -h.q) c1 i3
  have B3 := turnB_has (p := h.q) (q := h.p) c1 i3
  have A4 := turnB_has (p := h.p) (q := -h.q) c1 i4
  have B4 := turnB_has (p := h.q) (q := h.p) c1 i4
  have A5 := turnB_has (p := h.p) (q := -h.q) c1 i5
  have B5 := turnB_has (p := h.q) (q := h.p) c1 i5
  have A6 := turnB_has (p := h.p) (q := -h.q) c1 i6
  have B6 := turnB_has (p := h.q) (q := h.p) c1 i6
  unfold inPlane okBnd at hp
  simp only [Bool.and_eq_true, decide_eq_true_eq] at hp
  rw [okReg_iff]
  unfold inR inB at hu
  unfold turnedS at *
  dsimp only at *
  have sE : ∀ v : Pnt, (h.p + h.q) * v.x + (h.p - h.q) * v.y = (h.p * v.x + -h.q * v.y) + (h.q * v.x + h.p * v.y) := fun v => by grind
  have dE : ∀ v : Pnt, (h.p - h.q) * v.x + (-h.q - h.p) * v.y = (h.p * v.x + -h.q * v.y) - (h.q * v.x + h.p * v.y) := fun v => by grind
  rw [sE] at e3 e4
  rw [dE] at e5 e6
  generalize turnB r h.c h.p (-h.q) = X at *
  generalize turnB r h.c h.q h.p = Y at *
  generalize turnB r h.c (h.p + h.q) (h.p - h.q) = S at *
  generalize turnB r h.c (h.p - h.q) (-h.q - h.p) = D at *
  have l3 : X.lo + Y.lo < S.lo + 1 := mul_lt_of c1 (by rw [Int.mul_add]; omega)
  have l4 : S.hi - 1 < X.hi + Y.hi := mul_lt_of c1 (by rw [Int.mul_add]; omega)
  have l5 : X.lo - Y.hi < D.lo + 1 := mul_lt_of c1 (by rw [Int.mul_sub]; omega)
  have l6 : D.hi - 1 < X.hi - Y.lo := mul_lt_of c1 (by rw [Int.mul_sub h.c X.hi Y.lo]; omega)
  omega
/-! A quarter turn. -/
def quarR (t : Reg) : Reg := ⟨negB t.y, t.x, t.d, negB t.s⟩
theorem turned_quarter {t : Reg} (h : TightR t) : turnedS t ⟨0, 1, 1⟩ = quarR t := by
  unfold turnedS
  dsimp only
  rw [turnB_one, turnB_one, turnB_one, turnB_one]
  obtain ⟨p1, i1, e1⟩ := h.xlo
  obtain ⟨p2, i2, e2⟩ := h.xhi
  obtain ⟨p3, i3, e3⟩ := h.ylo
  obtain ⟨p4, i4, e4⟩ := h.yhi
  obtain ⟨p5, i5, e5⟩ := h.slo
  obtain ⟨p6, i6, e6⟩ := h.shi
  obtain ⟨p7, i7, e7⟩ := h.dlo
  obtain ⟨p8, i8, e8⟩ := h.dhi
  unfold quarR negB
  have x : extB t 0 (-1) = ⟨-t.y.hi, -t.y.lo⟩ := ext_eq ⟨p4, i4, by dsimp only; omega⟩ ⟨p3, i3, by dsimp only; omega⟩ fun v hv => by unfold inR inB at *; dsimp only; omega
  have y : extB t 1 0 = t.x := ext_eq ⟨p1, i1, by omega⟩ ⟨p2, i2, by omega⟩ fun v hv => by unfold inR inB at *; omega
  have s : extB t (0 + 1) (0 - 1) = t.d := ext_eq ⟨p7, i7, by omega⟩ ⟨p8, i8, by omega⟩ fun v hv => by unfold inR inB at *; omega
  have d : extB t (0 - 1) (-1 - 0) = ⟨-t.s.hi, -t.s.lo⟩ := ext_eq ⟨p6, i6, by dsimp only; omega⟩ ⟨p5, i5, by dsimp only; omega⟩ fun v hv => by unfold inR inB at *; dsimp only; omega
  rw [x, y, s, d]
theorem tight_quar {t : Reg} (h : TightR t) : TightR (quarR t) := by
  obtain ⟨p1, i1, e1⟩ := h.xlo
  obtain ⟨p2, i2, e2⟩ := h.xhi
  obtain ⟨p3, i3, e3⟩ := h.ylo
  obtain ⟨p4, i4, e4⟩ := h.yhi
  obtain ⟨p5, i5, e5⟩ := h.slo
  obtain ⟨p6, i6, e6⟩ := h.shi
  obtain ⟨p7, i7, e7⟩ := h.dlo
  obtain ⟨p8, i8, e8⟩ := h.dhi
  have f : ∀ p : Pnt, inR p t → inR ⟨-p.y, p.x⟩ (quarR t) := fun p hp => by unfold inR inB quarR negB at *; dsimp only; omega
  exact ⟨⟨_, f _ i4, by show -p4.y = -t.y.hi; omega⟩, ⟨_, f _ i3, by show -p3.y = -t.y.lo; omega⟩, ⟨_, f _ i1, e1⟩, ⟨_, f _ i2, e2⟩,
    ⟨_, f _ i7, by show -p7.y + p7.x = t.d.lo; omega⟩, ⟨_, f _ i8, by show -p8.y + p8.x = t.d.hi; omega⟩, ⟨_, f _ i6, by show -p6.y - p6.x = -t.s.hi; omega⟩, ⟨_, f _ i5, by show -p5.y - p5.x = -t.s.lo; omega⟩⟩
theorem quar_ok {r : Reg} (h : okReg r = true) : okReg (quarR r) = true := by
  rw [okReg_iff] at *
  unfold quarR negB
  dsimp only
  omega
theorem ok_plane {r : Reg} (h : okReg r = true) : inPlane r = true := by
  rw [okReg_iff] at h
  unfold inPlane okBnd
  simp only [Bool.and_eq_true, decide_eq_true_eq]
  omega
/-! Places within a distance. -/
def intoL (m n : Int) : Int := max (-m) (min n m)
def wideB (m n : Int) (b : Bnd) : Bnd := ⟨intoL m (b.lo - n), intoL m (b.hi + n)⟩
def wideR (n m : Int) (r : Reg) : Reg := ⟨wideB 32768 n r.x, wideB 32768 n r.y, wideB 65536 m r.s, wideB 65536 m r.d⟩
end Go.Proofs.YtfengddpfeneiaaGreat
namespace Go.Proofs.YtfengddpfeneiaaGreat
open Go.RowKit Go.Shelf
set_option linter.unusedSimpArgs false
set_option linter.unusedVariables false

set_option maxHeartbeats 400000 in
theorem into_any (m n : Int) (w : World) (h0 : 0 ≤ m) (h1 : m ≤ 1000000) :
    Calls Tryz.prog 63 #[.int .i64 m, .int .i64 n] w fun e w' => e = .returned (.int .i64 (intoL m n)) ∧ w = w' := by
  have hmax := max2_int
  have hmin := min2_int
  have t := IntWalk.i64_in (-m) (by omega)
  go_enter Tryz.func63, Tryz.ntmps63
  go_wp2
  go_ret
  exact ⟨rfl, rfl⟩
theorem into_in {m n : Int} (h : -m ≤ n ∧ n ≤ m) : intoL m n = n := by unfold intoL; omega
theorem into_out {m n : Int} (h0 : 0 ≤ m) (h : ¬ (-m ≤ n ∧ n ≤ m)) : ¬ intoL m n = n := by unfold intoL; omega
def inPl (n : Int) : Prop := -32768 ≤ n ∧ n ≤ 32768
set_option maxRecDepth 100000 in
set_option maxHeartbeats 1000000 in
theorem CheckPoint_any (p : Pnt) (w : World) :
    Calls Tryz.prog 23 #[.agg #[.int .i64 p.x, .int .i64 p.y]] w fun e w' => e = .returned (.int .i64 (chkPnt p)) ∧ Below w.heap.size w w' := by
  have i0 : ∀ (a b : Value) w, (Instr.index 64 (.agg #[a, b]) (.int .i64 0)).run Tryz.prog w = .ok a w := fun _ _ _ => by kernel_rfl
  have i1 : ∀ (a b : Value) w, (Instr.index 64 (.agg #[a, b]) (.int .i64 1)).run Tryz.prog w = .ok b w := fun _ _ _ => by kernel_rfl
  have hI := fun n W => into_any 32768 n W (by omega) (by omega)
  have hv1 : Hid (¬ inPl p.x → chkPnt p = 10) := by show _ → _; intro h; unfold inPl at h; unfold chkPnt okPnt; rw [if_neg]; simp; omega
  have hv2 : Hid (¬ inPl p.y → chkPnt p = 10) := by show _ → _; intro h; unfold inPl at h; unfold chkPnt okPnt; rw [if_neg]; simp; omega
  have hv0 : Hid (inPl p.x → inPl p.y → chkPnt p = 0) := by show _ → _ → _; intro h h'; unfold inPl at h h'; unfold chkPnt okPnt; rw [if_pos]; simp; omega
  obtain ⟨er, her⟩ : ∃ er, er = chkPnt p := ⟨_, rfl⟩
  rw [← her] at hv1 hv2 hv0 ⊢
  clear her
  have hb0 := (Below.refl w.heap.size w).alloc (Nat.le_refl _) (.cells #[.int .i64 p.x, .int .i64 p.y] 23)
  go_enter Tryz.func23, Tryz.ntmps23
  go_wp2_with fail
  generalize w.alloc (.cells #[.int .i64 p.x, .int .i64 p.y] 23) = W at *
  go_loopw [10] (fun j wr => ∃ k : Nat, j = jv k ∧ k ≤ 2 ∧ (1 ≤ k → inPl p.x) ∧ (2 ≤ k → inPl p.y) ∧ wr = W) (fun j wr => 2 - (intOf j).toNat)
  case atStart => exact ⟨0, rfl, by omega, fun h => by omega, fun h => by omega, (by trivial)⟩
  case round =>
    obtain ⟨k, rfl, hk, hx, hy, rfl⟩ := hrel
    replace hx := Lib.hid hx
    replace hy := Lib.hid hy
    match k, hk with
    | 0, _ =>
      rw [show jv 0 = .int .i64 0 from rfl]
      by_cases hq : inPl p.x
      · have e1 := into_in (m := 32768) (n := p.x) hq
        have hI1 := hI p.x
        simp only [e1] at hI1
        clear e1
        go_wp2_with fail
        refine (hI1 _).mono ?_
        rintro e w' ⟨rfl, rfl⟩
        go_wp2_with fail
        go_roundw
        case rel => exact ⟨1, rfl, by omega, fun _ => hq, fun h => by omega, (by trivial)⟩
        case measure => simp [intOf]
      · have e1 := into_out (m := 32768) (n := p.x) (by omega) hq
        have hI1 := hI p.x
        generalize intoL 32768 p.x = z at *
        have e2 : (z != p.x) = true := by rw [bne_iff_ne]; exact e1
        have hz := hv1.out hq
        go_wp2_with fail
        refine (hI1 _).mono ?_
        rintro e w' ⟨rfl, rfl⟩
        clear hI1
        replace hz := Lib.hid hz
        go_wp2
        go_ret
        exact ⟨ret_int hz.out.symm, hb0⟩
    | 1, _ =>
      rw [show jv 1 = .int .i64 1 from rfl]
      by_cases hq : inPl p.y
      · have e1 := into_in (m := 32768) (n := p.y) hq
        have hI1 := hI p.y
        simp only [e1] at hI1
        clear e1
        go_wp2_with fail
        refine (hI1 _).mono ?_
        rintro e w' ⟨rfl, rfl⟩
        go_wp2_with fail
        go_roundw
        case rel => exact ⟨2, rfl, by omega, fun _ => hx.out (by omega), fun _ => hq, (by trivial)⟩
        case measure => simp [intOf]
      · have e1 := into_out (m := 32768) (n := p.y) (by omega) hq
        have hI1 := hI p.y
        generalize intoL 32768 p.y = z at *
        have e2 : (z != p.y) = true := by rw [bne_iff_ne]; exact e1
        have hz := hv2.out hq
        go_wp2_with fail
        refine (hI1 _).mono ?_
        rintro e w' ⟨rfl, rfl⟩
        clear hI1
        replace hz := Lib.hid hz
        go_wp2
        go_ret
        exact ⟨ret_int hz.out.symm, hb0⟩
    | 2, _ =>
      rw [show jv 2 = .int .i64 2 from rfl]
      have hz := Lib.hid (hv0.out (hx.out (by omega)) (hy.out (by omega)))
      go_wp2
      go_ret
      exact ⟨ret_int hz.out.symm, hb0⟩
/-! The first error of several. -/
def firstE : List Int → Int
  | [] => 0
  | e :: l => if e = 0 then firstE l else e
def allZ (l : List Int) (k : Nat) : Prop := ∀ i, i < k → l.getD i 0 = 0
set_option maxRecDepth 100000 in
set_option maxHeartbeats 1000000 in
theorem rinside_any (f : Reg) (w : World) :
    Calls Tryz.prog 125 #[.agg (regA f)] w fun e w' => e = .returned (.tuple #[.agg (regA (insideR f).1), .int .i64 (insideR f).2]) ∧ Below w.heap.size w w' := by
  have hfx := fun W => fits_any 32768 f.x W (by omega) (by omega)
  have hfy := fun W => fits_any 32768 f.y W (by omega) (by omega)
  have hrg := fun W => region_any f W
  obtain ⟨w1, hw1⟩ : ∃ w1, w1 = (w.alloc (.cells #[.int .i64 f.x.lo, .int .i64 f.x.hi, .int .i64 f.y.lo, .int .i64 f.y.hi, .int .i64 f.s.lo, .int .i64 f.s.hi, .int .i64 f.d.lo, .int .i64 f.d.hi] 117)).alloc (.cells #[.int .i64 0, .int .i64 0, .int .i64 0, .int .i64 0, .int .i64 0, .int .i64 0, .int .i64 0, .int .i64 0] 42) := ⟨_, rfl⟩
  have k1 : Blk w1 w.heap.size 117 #[.int .i64 f.x.lo, .int .i64 f.x.hi, .int .i64 f.y.lo, .int .i64 f.y.hi, .int .i64 f.s.lo, .int .i64 f.s.hi, .int .i64 f.d.lo, .int .i64 f.d.hi] := by rw [hw1]; exact (Blk.new _ _ _).alloc _
  have k2 : Blk w1 (w.heap.size + 1) 42 #[.int .i64 0, .int .i64 0, .int .i64 0, .int .i64 0, .int .i64 0, .int .i64 0, .int .i64 0, .int .i64 0] := by rw [hw1]; exact Blk.newAt (by simp)
  have hb : Below w.heap.size w w1 := by rw [hw1]; exact ((Below.refl _ _).alloc (Nat.le_refl _) _).alloc (by simp) _
  cases hx : okBnd 32768 f.x
  · have hv : insideR f = (noReg, 7) := by simp [insideR, hx]
    rw [hv]
    simp only [hx] at hfx
    simp only [regA, noReg]
    clear hv hx hfy hrg
    go_enter Tryz.func125, Tryz.ntmps125
    go_wp2_with fail
    rw [← hw1]
    clear hw1
    refine (hfx _).mono ?_
    rintro e w2 ⟨rfl, hb1⟩
    replace k1 := k1.below hb1
    replace k2 := k2.below hb1
    replace hb := hb.trans (hb1.mono hb.size)
    clear hb1
    have kz := k2.set8 (.int .i64 0) (.int .i64 0) (.int .i64 0) (.int .i64 0) (.int .i64 0) (.int .i64 0) (.int .i64 0) (.int .i64 0)
    have bz := below_set8 (g := w.heap.size + 1) hb (by omega) (.int .i64 0) (.int .i64 0) (.int .i64 0) (.int .i64 0) (.int .i64 0) (.int .i64 0) (.int .i64 0) (.int .i64 0)
    obtain ⟨wz, hwz⟩ : ∃ x, x = set8 w2 (w.heap.size + 1) (.int .i64 0) (.int .i64 0) (.int .i64 0) (.int .i64 0) (.int .i64 0) (.int .i64 0) (.int .i64 0) (.int .i64 0) := ⟨_, rfl⟩
    rw [← hwz] at kz bz
    simp only [set8] at hwz
    obtain ⟨c2, f2, l2⟩ := k2.rules
    clear k2 hb
    go_wp2
    rw [← hwz]
    clear hwz c2 f2 l2
    obtain ⟨c2, f2, l2⟩ := kz.rules
    exact bodyPost_ret (v := .tuple #[.agg #[.int .i64 0, .int .i64 0, .int .i64 0, .int .i64 0, .int .i64 0, .int .i64 0, .int .i64 0, .int .i64 0], .int .i64 7]) (by simp [results, Tryz.results125, go_sem, c2]) rfl ⟨rfl, bz⟩
  · cases hy : okBnd 32768 f.y
    · have hv : insideR f = (noReg, 7) := by simp [insideR, hx, hy]
      rw [hv]
      simp only [hx] at hfx
      simp only [hy] at hfy
      simp only [regA, noReg]
      clear hv hx hy hrg
      go_enter Tryz.func125, Tryz.ntmps125
      go_wp2_with fail
      rw [← hw1]
      clear hw1
      refine (hfx _).mono ?_
      rintro e w2 ⟨rfl, hb1⟩
      replace k1 := k1.below hb1
      replace k2 := k2.below hb1
      replace hb := hb.trans (hb1.mono hb.size)
      clear hb1
      obtain ⟨c1, f1, l1⟩ := k1.rules
      go_wp2_with fail
      clear c1 f1 l1
      refine (hfy _).mono ?_
      rintro e w3 ⟨rfl, hb1⟩
      replace k1 := k1.below hb1
      replace k2 := k2.below hb1
      replace hb := hb.trans (hb1.mono hb.size)
      clear hb1
      have kz := k2.set8 (.int .i64 0) (.int .i64 0) (.int .i64 0) (.int .i64 0) (.int .i64 0) (.int .i64 0) (.int .i64 0) (.int .i64 0)
      have bz := below_set8 (g := w.heap.size + 1) hb (by omega) (.int .i64 0) (.int .i64 0) (.int .i64 0) (.int .i64 0) (.int .i64 0) (.int .i64 0) (.int .i64 0) (.int .i64 0)
      obtain ⟨wz, hwz⟩ : ∃ x, x = set8 w3 (w.heap.size + 1) (.int .i64 0) (.int .i64 0) (.int .i64 0) (.int .i64 0) (.int .i64 0) (.int .i64 0) (.int .i64 0) (.int .i64 0) := ⟨_, rfl⟩
      rw [← hwz] at kz bz
      simp only [set8] at hwz
      obtain ⟨c2, f2, l2⟩ := k2.rules
      clear k2 hb
      go_wp2
      rw [← hwz]
      clear hwz c2 f2 l2
      obtain ⟨c2, f2, l2⟩ := kz.rules
      exact bodyPost_ret (v := .tuple #[.agg #[.int .i64 0, .int .i64 0, .int .i64 0, .int .i64 0, .int .i64 0, .int .i64 0, .int .i64 0, .int .i64 0], .int .i64 7]) (by simp [results, Tryz.results125, go_sem, c2]) rfl ⟨rfl, bz⟩
    · have hv : insideR f = (f, 0) := by simp [insideR, hx, hy]
      rw [hv]
      simp only [hx] at hfx
      simp only [hy] at hfy
      simp only [regA]
      clear hv hx hy
      go_enter Tryz.func125, Tryz.ntmps125
      go_wp2_with fail
      rw [← hw1]
      clear hw1
      refine (hfx _).mono ?_
      rintro e w2 ⟨rfl, hb1⟩
      replace k1 := k1.below hb1
      replace k2 := k2.below hb1
      replace hb := hb.trans (hb1.mono hb.size)
      clear hb1
      obtain ⟨c1, f1, l1⟩ := k1.rules
      go_wp2_with fail
      clear c1 f1 l1
      refine (hfy _).mono ?_
      rintro e w3 ⟨rfl, hb1⟩
      replace k1 := k1.below hb1
      replace k2 := k2.below hb1
      replace hb := hb.trans (hb1.mono hb.size)
      clear hb1
      obtain ⟨c1, f1, l1⟩ := k1.rules
      go_wp2_with fail
      clear c1 f1 l1
      refine (hrg _).mono ?_
      rintro e w4 ⟨rfl, hb1⟩
      replace k1 := k1.below hb1
      replace k2 := k2.below hb1
      replace hb := hb.trans (hb1.mono hb.size)
      clear hb1
      have kz := k2.set8 (.int .i64 f.x.lo) (.int .i64 f.x.hi) (.int .i64 f.y.lo) (.int .i64 f.y.hi) (.int .i64 f.s.lo) (.int .i64 f.s.hi) (.int .i64 f.d.lo) (.int .i64 f.d.hi)
      have bz := below_set8 (g := w.heap.size + 1) hb (by omega) (.int .i64 f.x.lo) (.int .i64 f.x.hi) (.int .i64 f.y.lo) (.int .i64 f.y.hi) (.int .i64 f.s.lo) (.int .i64 f.s.hi) (.int .i64 f.d.lo) (.int .i64 f.d.hi)
      obtain ⟨wz, hwz⟩ : ∃ x, x = set8 w4 (w.heap.size + 1) (.int .i64 f.x.lo) (.int .i64 f.x.hi) (.int .i64 f.y.lo) (.int .i64 f.y.hi) (.int .i64 f.s.lo) (.int .i64 f.s.hi) (.int .i64 f.d.lo) (.int .i64 f.d.hi) := ⟨_, rfl⟩
      rw [← hwz] at kz bz
      simp only [set8] at hwz
      obtain ⟨c2, f2, l2⟩ := k2.rules
      clear k2 hb
      go_wp2
      rw [← hwz]
      clear hwz c2 f2 l2
      obtain ⟨c2, f2, l2⟩ := kz.rules
      exact bodyPost_ret (v := .tuple #[.agg #[.int .i64 f.x.lo, .int .i64 f.x.hi, .int .i64 f.y.lo, .int .i64 f.y.hi, .int .i64 f.s.lo, .int .i64 f.s.hi, .int .i64 f.d.lo, .int .i64 f.d.hi], .int .i64 0]) (by simp [results, Tryz.results125, go_sem, c2]) rfl ⟨rfl, bz⟩
theorem okPnt_mid {p : Pnt} (h : okPnt p = true) : -1000000 ≤ p.x ∧ p.x ≤ 1000000 ∧ -1000000 ≤ p.y ∧ p.y ≤ 1000000 := by
  have := of_decide_eq_true h; omega
theorem ofP_mid {p : Pnt} (h : okPnt p = true) : midR (ofP p) := by
  have := of_decide_eq_true h
  unfold midR midB ofP still
  dsimp only
  omega
set_option maxRecDepth 100000 in
set_option maxHeartbeats 2000000 in
theorem Move_any (r t : Reg) (p : Pnt) (w : World) (hr : okReg r = true) (hp : okPnt p = true) (ht : tightO r = some t) :
    Calls Tryz.prog 74 #[.agg (regA r), .agg #[.int .i64 p.x, .int .i64 p.y]] w fun e w' => e = .returned (.tuple #[.agg (regA (insideR (zipR plusB t (ofP p))).1), .int .i64 (insideR (zipR plusB t (ofP p))).2]) ∧ Below w.heap.size w w' := by
  have hchk := fun W => rCheck_any r W
  have hk : chkReg r = 0 := by simp [chkReg, hr]
  simp only [hk] at hchk
  have hbo := fun W => rbounds_any r W
  have hti := fun W => tight_any r W hr
  simp only [ht, doneR] at hti
  have hof := fun W => of_any p W (okPnt_mid hp)
  have hmt := okReg_mid (tight_ok hr ht)
  have hco := fun W => combined_any t (ofP p) plusB 126 W eg_plusB hmt (ofP_mid hp) op_plusB
  obtain ⟨f, hf⟩ : ∃ f, zipR plusB t (ofP p) = f := ⟨_, rfl⟩
  simp only [hf] at hco ⊢
  have hins := fun W => rinside_any f W
  obtain ⟨⟨R, er⟩, hR⟩ : ∃ R, insideR f = R := ⟨_, rfl⟩
  simp only [hR] at hins ⊢
  have hpx := of_decide_eq_true hp
  have hix := fun W => into_any 65536 p.x W (by omega) (by omega)
  have hiy := fun W => into_any 65536 p.y W (by omega) (by omega)
  simp only [into_in (m := 65536) (n := p.x) (by omega)] at hix
  simp only [into_in (m := 65536) (n := p.y) (by omega)] at hiy
  simp only [regA] at hchk hbo hti hco hins ⊢
  clear hk hf hR hmt hpx
  replace hr := Lib.hid hr
  replace hp := Lib.hid hp
  replace ht := Lib.hid ht
  obtain ⟨w1, hw1⟩ : ∃ w1, w1 = ((w.alloc (.cells #[.int .i64 r.x.lo, .int .i64 r.x.hi, .int .i64 r.y.lo, .int .i64 r.y.hi, .int .i64 r.s.lo, .int .i64 r.s.hi, .int .i64 r.d.lo, .int .i64 r.d.hi] 42)).alloc (.cells #[.int .i64 p.x, .int .i64 p.y] 23)).alloc (.cells #[.int .i64 0, .int .i64 0, .int .i64 0, .int .i64 0, .int .i64 0, .int .i64 0, .int .i64 0, .int .i64 0] 42) := ⟨_, rfl⟩
  have k1 : Blk w1 w.heap.size 42 #[.int .i64 r.x.lo, .int .i64 r.x.hi, .int .i64 r.y.lo, .int .i64 r.y.hi, .int .i64 r.s.lo, .int .i64 r.s.hi, .int .i64 r.d.lo, .int .i64 r.d.hi] := by rw [hw1]; exact ((Blk.new _ _ _).alloc _).alloc _
  have k2 : Blk w1 (w.heap.size + 1) 23 #[.int .i64 p.x, .int .i64 p.y] := by rw [hw1]; exact (Blk.newAt (by simp)).alloc _
  have k4 : Blk w1 (w.heap.size + 1 + 1) 42 #[.int .i64 0, .int .i64 0, .int .i64 0, .int .i64 0, .int .i64 0, .int .i64 0, .int .i64 0, .int .i64 0] := by rw [hw1]; exact Blk.newAt (by simp)
  have hb : Below w.heap.size w w1 := by rw [hw1]; exact (((Below.refl _ _).alloc (Nat.le_refl _) _).alloc (by simp) _).alloc (by simp; omega) _
  go_enter Tryz.func74, Tryz.ntmps74
  go_wp2_with fail
  rw [← hw1]
  clear hw1
  refine (hchk _).mono ?_
  rintro e W ⟨rfl, hbel⟩
  replace k1 := k1.below hbel
  replace k2 := k2.below hbel
  replace hb := hb.trans (hbel.mono hb.size)
  replace k4 := k4.below hbel
  clear hbel
  obtain ⟨c2, f2, l2⟩ := k2.rules
  go_wp2_with fail
  go_quiet ((first | (go_at_call 63; with_reducible exact Calls.quiet_of_same (flip_w (hix _))) | (go_at_call 63; with_reducible exact Calls.quiet_of_same (flip_w (hiy _)))))
  clear c2 f2 l2
  replace k1 := k1.drewN nq
  replace k2 := k2.drewN nq
  replace k4 := k4.drewN nq
  replace hb := below_drewN hb nq
  generalize W.drewN nq = W at *
  obtain ⟨c1, f1, l1⟩ := k1.rules
  go_wp2_with fail
  clear c1 f1 l1
  refine (hbo _).mono ?_
  rintro e W3 ⟨rfl, hbel⟩
  replace k1 := k1.below hbel
  replace k2 := k2.below hbel
  replace hb := hb.trans (hbel.mono hb.size)
  replace k4 := k4.below hbel
  clear hbel
  go_wp2_with fail
  refine (hti _).mono ?_
  rintro e W3 ⟨rfl, hbel⟩
  replace k1 := k1.below hbel
  replace k2 := k2.below hbel
  replace hb := hb.trans (hbel.mono hb.size)
  replace k4 := k4.below hbel
  clear hbel
  go_wp2_with fail
  have k7 := Blk.new W3 117 #[.int .i64 t.x.lo, .int .i64 t.x.hi, .int .i64 t.y.lo, .int .i64 t.y.hi, .int .i64 t.s.lo, .int .i64 t.s.hi, .int .i64 t.d.lo, .int .i64 t.d.hi]
  have hbel := (Below.refl W3.heap.size W3).alloc (Nat.le_refl _) (.cells #[.int .i64 t.x.lo, .int .i64 t.x.hi, .int .i64 t.y.lo, .int .i64 t.y.hi, .int .i64 t.s.lo, .int .i64 t.s.hi, .int .i64 t.d.lo, .int .i64 t.d.hi] 117)
  have hg7 : w.heap.size + 1 + 1 < W3.heap.size := k4.lt
  replace k1 := k1.below hbel
  replace k2 := k2.below hbel
  replace hb := hb.trans (hbel.mono hb.size)
  replace k4 := k4.below hbel
  clear hbel
  generalize W3.alloc (.cells #[.int .i64 t.x.lo, .int .i64 t.x.hi, .int .i64 t.y.lo, .int .i64 t.y.hi, .int .i64 t.s.lo, .int .i64 t.s.hi, .int .i64 t.d.lo, .int .i64 t.d.hi] 117) = W4 at *
  generalize W3.heap.size = g7 at *
  refine wp_held_np (fun w' : World => (∀ j, w'.cell? ⟨g7, j, none⟩ = #[Value.int .i64 t.x.lo, .int .i64 t.x.hi, .int .i64 t.y.lo, .int .i64 t.y.hi, .int .i64 t.s.lo, .int .i64 t.s.hi, .int .i64 t.d.lo, .int .i64 t.d.hi][j]?) ∧ (∀ j, w'.cell? ⟨w.heap.size + 1, j, none⟩ = #[Value.int .i64 p.x, .int .i64 p.y][j]?)) (by kernel_rfl) ?_
  replace k1 := k1.drew
  replace k2 := k2.drew
  replace k4 := k4.drew
  replace k7 := k7.drew
  replace hb := hb.drew
  generalize W4.drew = W at *
  have hS : (fun w' : World => (∀ j, w'.cell? ⟨g7, j, none⟩ = #[Value.int .i64 t.x.lo, .int .i64 t.x.hi, .int .i64 t.y.lo, .int .i64 t.y.hi, .int .i64 t.s.lo, .int .i64 t.s.hi, .int .i64 t.d.lo, .int .i64 t.d.hi][j]?) ∧ (∀ j, w'.cell? ⟨w.heap.size + 1, j, none⟩ = #[Value.int .i64 p.x, .int .i64 p.y][j]?)) W := ⟨k7.cell, k2.cell⟩
  refine held_take (i := 0) (v := ?_) 40 rfl rfl (by kernel_rfl) (by kernel_rfl) (by kernel_rfl) (fun _ _ _ h => h) (Or.inl ⟨by rfl, ?_⟩) hS ?_
  rotate_left 1
  · intro w' hSw
    try dsimp only at hSw
    obtain ⟨q1, q2⟩ := hSw
    go_simp
    all_goals with_reducible rfl
  try simp only [Act.put, List.setIfInBounds_toArray, List.set_cons_zero, List.set_cons_succ]
  refine held_take (i := 1) (v := ?_) 41 rfl rfl (by kernel_rfl) (by kernel_rfl) (by kernel_rfl) (fun _ _ _ h => h) (Or.inl ⟨by rfl, ?_⟩) hS ?_
  rotate_left 1
  · intro w' hSw
    try dsimp only at hSw
    obtain ⟨q1, q2⟩ := hSw
    go_simp
    all_goals with_reducible rfl
  try simp only [Act.put, List.setIfInBounds_toArray, List.set_cons_zero, List.set_cons_succ]
  refine held_one (i := 2) (by kernel_rfl) rfl rfl (fun K hK => ?_)
  go_simp
  refine (hof _).mono ?_
  rintro e W1 ⟨rfl, hbel⟩
  clear hS
  replace k1 := k1.below hbel
  replace k2 := k2.below hbel
  replace hb := hb.trans (hbel.mono hb.size)
  replace k7 := k7.below hbel
  replace k4 := k4.below hbel
  clear hbel
  have hS : (fun w' : World => (∀ j, w'.cell? ⟨g7, j, none⟩ = #[Value.int .i64 t.x.lo, .int .i64 t.x.hi, .int .i64 t.y.lo, .int .i64 t.y.hi, .int .i64 t.s.lo, .int .i64 t.s.hi, .int .i64 t.d.lo, .int .i64 t.d.hi][j]?) ∧ (∀ j, w'.cell? ⟨w.heap.size + 1, j, none⟩ = #[Value.int .i64 p.x, .int .i64 p.y][j]?)) W1 := ⟨k7.cell, k2.cell⟩
  refine hK _ _ hS ?_
  clear hK K
  try simp only [Act.put, List.setIfInBounds_toArray, List.set_cons_zero, List.set_cons_succ]
  refine held_one (i := 3) (by kernel_rfl) rfl rfl (fun K hK => ?_)
  go_simp
  refine (hco _).mono ?_
  rintro e W1 ⟨rfl, hbel⟩
  clear hS
  replace k1 := k1.below hbel
  replace k2 := k2.below hbel
  replace hb := hb.trans (hbel.mono hb.size)
  replace k7 := k7.below hbel
  replace k4 := k4.below hbel
  clear hbel
  have hS : (fun w' : World => (∀ j, w'.cell? ⟨g7, j, none⟩ = #[Value.int .i64 t.x.lo, .int .i64 t.x.hi, .int .i64 t.y.lo, .int .i64 t.y.hi, .int .i64 t.s.lo, .int .i64 t.s.hi, .int .i64 t.d.lo, .int .i64 t.d.hi][j]?) ∧ (∀ j, w'.cell? ⟨w.heap.size + 1, j, none⟩ = #[Value.int .i64 p.x, .int .i64 p.y][j]?)) W1 := ⟨k7.cell, k2.cell⟩
  refine hK _ _ hS ?_
  clear hK K
  try simp only [Act.put, List.setIfInBounds_toArray, List.set_cons_zero, List.set_cons_succ]
  refine held_one (i := 4) (by kernel_rfl) rfl rfl (fun K hK => ?_)
  go_simp
  refine (hins _).mono ?_
  rintro e W1 ⟨rfl, hbel⟩
  clear hS
  replace k1 := k1.below hbel
  replace k2 := k2.below hbel
  replace hb := hb.trans (hbel.mono hb.size)
  replace k7 := k7.below hbel
  replace k4 := k4.below hbel
  clear hbel
  have hS : (fun w' : World => (∀ j, w'.cell? ⟨g7, j, none⟩ = #[Value.int .i64 t.x.lo, .int .i64 t.x.hi, .int .i64 t.y.lo, .int .i64 t.y.hi, .int .i64 t.s.lo, .int .i64 t.s.hi, .int .i64 t.d.lo, .int .i64 t.d.hi][j]?) ∧ (∀ j, w'.cell? ⟨w.heap.size + 1, j, none⟩ = #[Value.int .i64 p.x, .int .i64 p.y][j]?)) W1 := ⟨k7.cell, k2.cell⟩
  refine hK _ _ hS ?_
  clear hK K
  try simp only [Act.put, List.setIfInBounds_toArray, List.set_cons_zero, List.set_cons_succ]
  refine held_take (i := 5) (v := ?_) 45 rfl rfl (by kernel_rfl) (by kernel_rfl) (by kernel_rfl) (fun _ _ _ h => h) (Or.inl ⟨by rfl, ?_⟩) hS ?_
  rotate_left 1
  · intro w' hSw
    try dsimp only at hSw
    obtain ⟨q1, q2⟩ := hSw
    go_simp
    all_goals with_reducible rfl
  try simp only [Act.put, List.setIfInBounds_toArray, List.set_cons_zero, List.set_cons_succ]
  refine held_take (i := 6) (v := ?_) 46 rfl rfl (by kernel_rfl) (by kernel_rfl) (by kernel_rfl) (fun _ _ _ h => h) (Or.inl ⟨by rfl, ?_⟩) hS ?_
  rotate_left 1
  · intro w' hSw
    try dsimp only at hSw
    obtain ⟨q1, q2⟩ := hSw
    go_simp
    all_goals with_reducible rfl
  try simp only [Act.put, List.setIfInBounds_toArray, List.set_cons_zero, List.set_cons_succ]
  have kz := k4.set8 (.int .i64 R.x.lo) (.int .i64 R.x.hi) (.int .i64 R.y.lo) (.int .i64 R.y.hi) (.int .i64 R.s.lo) (.int .i64 R.s.hi) (.int .i64 R.d.lo) (.int .i64 R.d.hi)
  have bz := below_set8 (g := w.heap.size + 1 + 1) hb (by omega) (.int .i64 R.x.lo) (.int .i64 R.x.hi) (.int .i64 R.y.lo) (.int .i64 R.y.hi) (.int .i64 R.s.lo) (.int .i64 R.s.hi) (.int .i64 R.d.lo) (.int .i64 R.d.hi)
  have k7z := far_set8 k7 (show g7 ≠ w.heap.size + 1 + 1 by omega) (.int .i64 R.x.lo) (.int .i64 R.x.hi) (.int .i64 R.y.lo) (.int .i64 R.y.hi) (.int .i64 R.s.lo) (.int .i64 R.s.hi) (.int .i64 R.d.lo) (.int .i64 R.d.hi)
  have k2z := far_set8 k2 (show w.heap.size + 1 ≠ w.heap.size + 1 + 1 by omega) (.int .i64 R.x.lo) (.int .i64 R.x.hi) (.int .i64 R.y.lo) (.int .i64 R.y.hi) (.int .i64 R.s.lo) (.int .i64 R.s.hi) (.int .i64 R.d.lo) (.int .i64 R.d.hi)
  obtain ⟨wz, hwz⟩ : ∃ x, x = set8 W1 (w.heap.size + 1 + 1) (.int .i64 R.x.lo) (.int .i64 R.x.hi) (.int .i64 R.y.lo) (.int .i64 R.y.hi) (.int .i64 R.s.lo) (.int .i64 R.s.hi) (.int .i64 R.d.lo) (.int .i64 R.d.hi) := ⟨_, rfl⟩
  rw [← hwz] at kz bz k7z k2z
  simp only [set8] at hwz
  obtain ⟨c4, f4, l4⟩ := k4.rules
  refine held_one (i := 7) (by kernel_rfl) rfl rfl (fun K hK => ?_)
  go_simp
  rw [← hwz]
  clear hwz c4 f4 l4 hS k4 hb
  have hS : (fun w' : World => (∀ j, w'.cell? ⟨g7, j, none⟩ = #[Value.int .i64 t.x.lo, .int .i64 t.x.hi, .int .i64 t.y.lo, .int .i64 t.y.hi, .int .i64 t.s.lo, .int .i64 t.s.hi, .int .i64 t.d.lo, .int .i64 t.d.hi][j]?) ∧ (∀ j, w'.cell? ⟨w.heap.size + 1, j, none⟩ = #[Value.int .i64 p.x, .int .i64 p.y][j]?)) wz := ⟨k7z.cell, k2z.cell⟩
  refine hK _ _ hS ?_
  clear hK K
  try simp only [Act.put, List.setIfInBounds_toArray, List.set_cons_zero, List.set_cons_succ]
  refine held_take (i := 8) (v := ?_) 5 rfl rfl (by kernel_rfl) (by kernel_rfl) (by kernel_rfl) (fun _ _ _ h => h) (Or.inl ⟨by rfl, ?_⟩) hS ?_
  rotate_left 1
  · intro w' hSw
    try dsimp only at hSw
    obtain ⟨q1, q2⟩ := hSw
    go_simp
    all_goals with_reducible rfl
  try simp only [Act.put, List.setIfInBounds_toArray, List.set_cons_zero, List.set_cons_succ]
  refine wpAnyH_done (by kernel_rfl) (noPanic_normal ?_) _
  clear hS
  go_wp2
  obtain ⟨c4, f4, l4⟩ := kz.rules
  exact bodyPost_ret (v := .tuple #[.agg #[.int .i64 R.x.lo, .int .i64 R.x.hi, .int .i64 R.y.lo, .int .i64 R.y.hi, .int .i64 R.s.lo, .int .i64 R.s.hi, .int .i64 R.d.lo, .int .i64 R.d.hi], .int .i64 er]) (by simp [results, Tryz.results74, go_sem, c4]) rfl ⟨rfl, bz⟩
end Go.Proofs.YtfengddpfeneiaaGreat
namespace Go.Proofs.YtfengddpfeneiaaGreat
open Go.RowKit Go.Shelf
set_option linter.unusedSimpArgs false
set_option linter.unusedVariables false

theorem place_eq {ship : Pnt} {h : Hdg} {r : Reg} (hh : okHdg h = true) (hp : okPnt ship = true) (hr : ∃ v, inR v r) (hi : inPlane (turnedS r h) = true) :
    okReg (turnedS r h) = true ∧ ∃ t, tightO (turnedS r h) = some t ∧ placeR ship h r = insideR (zipR plusB t (ofP ship)) := by
  have ho := turned_ok hh hr hi
  obtain ⟨v, hv⟩ := hr
  obtain ⟨u, hu, -⟩ := turned_near hh hv
  obtain ⟨t, ht, -⟩ := tight_has hu
  refine ⟨ho, t, ht, ?_⟩
  have := of_decide_eq_true hp
  rw [placeR, if_pos hi, moveR, if_pos ho, if_pos (by omega), ht]
theorem regcells_one (R : Reg) : ∀ u ∈ Reg.cells R, u.oneCell' = true := by
  intro u hu; simp [Reg.cells] at hu; rcases hu with rfl | rfl | rfl | rfl | rfl | rfl | rfl | rfl <;> rfl
set_option maxRecDepth 100000 in
set_option maxHeartbeats 4000000 in
theorem Where_any (s : Strm) (A O : Option Addr) (n c no co : Nat) (bs : List Bnd) (p : Pnt) (h : Hdg) (w : World) (hs : SlAt w 0 5 Sec.cells A n c s.secs) (hl : SlAt w 0 2 Bnd.cells O no co bs) :
    Calls Tryz.prog 21 #[.agg #[.int .i64 s.head, .slice A n c, .int .i64 s.lane.lo, .int .i64 s.lane.hi, .int .i64 s.bend], .slice O no co, .agg #[.int .i64 p.x, .int .i64 p.y], .agg #[.int .i64 h.p, .int .i64 h.q, .int .i64 h.c]] w (RetSl 8 Reg.cells (whereR s bs p h) w) := by
  obtain ⟨w1, hw1⟩ : ∃ w1, w1 = ((w.alloc (.cells #[.int .i64 s.head, .slice A n c, .int .i64 s.lane.lo, .int .i64 s.lane.hi, .int .i64 s.bend] 63)).alloc (.cells #[.int .i64 p.x, .int .i64 p.y] 23)).alloc (.cells #[.int .i64 h.p, .int .i64 h.q, .int .i64 h.c] 25) := ⟨_, rfl⟩
  have k4 : Blk w1 w.heap.size 63 #[.int .i64 s.head, .slice A n c, .int .i64 s.lane.lo, .int .i64 s.lane.hi, .int .i64 s.bend] := by rw [hw1]; exact ((Blk.new _ _ _).alloc _).alloc _
  have k6 : Blk w1 (w.heap.size + 1) 23 #[.int .i64 p.x, .int .i64 p.y] := by rw [hw1]; exact (Blk.newAt (by simp)).alloc _
  have k7 : Blk w1 (w.heap.size + 1 + 1) 25 #[.int .i64 h.p, .int .i64 h.q, .int .i64 h.c] := by rw [hw1]; exact Blk.newAt (by simp)
  have b : Below w.heap.size w w1 := by rw [hw1]; exact (((Below.refl _ _).alloc (Nat.le_refl _) _).alloc (by simp) _).alloc (by simp; omega) _
  replace hs : SlAt w1 0 5 Sec.cells A n c s.secs := by rw [hw1]; exact ((hs.alloc _).alloc _).alloc _
  replace hl : SlAt w1 0 2 Bnd.cells O no co bs := by rw [hw1]; exact ((hl.alloc _).alloc _).alloc _
  have hcp := fun W => CheckPoint_any p W
  have hch := fun W => CheckHeading_any h W
  by_cases h1 : errB s bs = 0
  · obtain ⟨e1, e2⟩ := errB_zero h1
    have hno : n = no := by have := okOffs_len e2; have := hs.len; have := hl.len; omega
    subst hno
    have hn8 : n ≤ 8 := by have := ok_head e1; unfold headOk at this; have := hs.len; omega
    have hbl := Lib.hid hl.len
    cases h2 : okPnt p
    · have hv : whereR s bs p h = ([], 10) := by simp [whereR, h1, h2]
      have hk : chkPnt p = 10 := by simp [chkPnt, h2]
      rw [hv]
      simp only [hk] at hcp
      replace h1 := Lib.hid h1
      clear hv hk h2 hch e1 e2
      go_enter Tryz.func21, Tryz.ntmps21
      go_wp2_with fail
      rw [← hw1]
      clear hw1
      refine (checked_any s A O n c n co 0 0 bs _ hs hl).mono ?_
      rintro e W ⟨r1, -, hb1⟩
      obtain rfl := r1 h1.out
      clear r1
      replace hb1 := hb1
      have hbel := hb1
      replace k4 := k4.below hbel
      replace k6 := k6.below hbel
      replace k7 := k7.below hbel
      replace b := b.trans (hbel.mono b.size)
      replace hs := hs.below hbel
      replace hl := hl.below hbel
      clear hbel hb1
      obtain ⟨c6, f6, l6⟩ := k6.rules
      go_wp2_with fail
      clear c6 f6 l6
      have hbel := (Below.refl W.heap.size W).alloc (Nat.le_refl _) (.cells #[.int .i64 s.head, .slice A n c, .int .i64 s.lane.lo, .int .i64 s.lane.hi, .int .i64 s.bend] 137)
      have k10 := Blk.new W 137 #[.int .i64 s.head, .slice A n c, .int .i64 s.lane.lo, .int .i64 s.lane.hi, .int .i64 s.bend]
      replace k4 := k4.below hbel
      replace k6 := k6.below hbel
      replace k7 := k7.below hbel
      replace b := b.trans (hbel.mono b.size)
      replace hs := hs.below hbel
      replace hl := hl.below hbel
      clear hbel
      generalize W.alloc (.cells #[.int .i64 s.head, .slice A n c, .int .i64 s.lane.lo, .int .i64 s.lane.hi, .int .i64 s.bend] 137) = W1 at *
      generalize W.heap.size = g10 at *
      refine (hcp _).mono ?_
      rintro e W ⟨rfl, hbel⟩
      replace k10 := k10.below hbel
      replace k4 := k4.below hbel
      replace k6 := k6.below hbel
      replace k7 := k7.below hbel
      replace b := b.trans (hbel.mono b.size)
      replace hs := hs.below hbel
      replace hl := hl.below hbel
      clear hbel hcp
      go_wp2
      go_ret2
      exact RetSl.none_ b
    · have hk : chkPnt p = 0 := by simp [chkPnt, h2]
      simp only [hk] at hcp
      cases h3 : okHdg h
      · have hv : whereR s bs p h = ([], 35) := by simp [whereR, h1, h2, h3]
        have hk3 : chkHdg h = 35 := by simp [chkHdg, h3]
        rw [hv]
        simp only [hk3] at hch
        replace h1 := Lib.hid h1
        clear hv hk hk3 h2 h3 e1 e2
        go_enter Tryz.func21, Tryz.ntmps21
        go_wp2_with fail
        rw [← hw1]
        clear hw1
        refine (checked_any s A O n c n co 0 0 bs _ hs hl).mono ?_
        rintro e W ⟨r1, -, hb1⟩
        obtain rfl := r1 h1.out
        clear r1
        replace hb1 := hb1
        have hbel := hb1
        replace k4 := k4.below hbel
        replace k6 := k6.below hbel
        replace k7 := k7.below hbel
        replace b := b.trans (hbel.mono b.size)
        replace hs := hs.below hbel
        replace hl := hl.below hbel
        clear hbel hb1
        obtain ⟨c6, f6, l6⟩ := k6.rules
        go_wp2_with fail
        clear c6 f6 l6
        have hbel := (Below.refl W.heap.size W).alloc (Nat.le_refl _) (.cells #[.int .i64 s.head, .slice A n c, .int .i64 s.lane.lo, .int .i64 s.lane.hi, .int .i64 s.bend] 137)
        have k10 := Blk.new W 137 #[.int .i64 s.head, .slice A n c, .int .i64 s.lane.lo, .int .i64 s.lane.hi, .int .i64 s.bend]
        replace k4 := k4.below hbel
        replace k6 := k6.below hbel
        replace k7 := k7.below hbel
        replace b := b.trans (hbel.mono b.size)
        replace hs := hs.below hbel
        replace hl := hl.below hbel
        clear hbel
        generalize W.alloc (.cells #[.int .i64 s.head, .slice A n c, .int .i64 s.lane.lo, .int .i64 s.lane.hi, .int .i64 s.bend] 137) = W1 at *
        generalize W.heap.size = g10 at *
        refine (hcp _).mono ?_
        rintro e W ⟨rfl, hbel⟩
        replace k10 := k10.below hbel
        replace k4 := k4.below hbel
        replace k6 := k6.below hbel
        replace k7 := k7.below hbel
        replace b := b.trans (hbel.mono b.size)
        replace hs := hs.below hbel
        replace hl := hl.below hbel
        clear hbel hcp
        obtain ⟨c7, f7, l7⟩ := k7.rules
        go_wp2_with fail
        clear c7 f7 l7
        refine (hch _).mono ?_
        rintro e W ⟨rfl, hbel⟩
        replace k10 := k10.below hbel
        replace k4 := k4.below hbel
        replace k6 := k6.below hbel
        replace k7 := k7.below hbel
        replace b := b.trans (hbel.mono b.size)
        replace hs := hs.below hbel
        replace hl := hl.below hbel
        clear hbel hch
        go_wp2
        go_ret2
        exact RetSl.none_ b
      · have hv : whereR s bs p h = whereN p h (nodesL s bs) := by simp [whereR, h1, h2, h3]
        have hk3 : chkHdg h = 0 := by simp [chkHdg, h3]
        rw [hv]
        simp only [hk3] at hch
        have hnt := fun i (hi : i < bs.length) => node_tight e1 e2 hi
        have hLl : (nodesL s bs).length = n := by rw [nodesL, List.length_map, List.length_range, hbl.out]
        have hLat := fun i (hi : i < bs.length) => nodesL_at s bs hi
        have hnd := fun W hs hl => nodes_any s A O n c co 0 0 bs W e1 e2 hs hl
        replace h1 := Lib.hid h1
        generalize nodesL s bs = L at *
        have hpl := fun i (hi : i < bs.length) (hq : inPlane (turnedS (nodeR s bs i) h) = true) => place_eq h3 h2 (let ⟨v, hv, _⟩ := (hnt i hi).1.xlo; ⟨v, hv⟩) hq
        replace hnt := Lib.hid hnt
        replace hLat := Lib.hid hLat
        replace hLl := Lib.hid hLl
        replace hpl := Lib.hid hpl
        replace h2 := Lib.hid h2
        replace h3 := Lib.hid h3
        clear hv hk hk3 e1 e2
        go_enter Tryz.func21, Tryz.ntmps21
        go_wp2_with fail
        rw [← hw1]
        clear hw1
        refine (checked_any s A O n c n co 0 0 bs _ hs hl).mono ?_
        rintro e W ⟨r1, -, hb1⟩
        obtain rfl := r1 h1.out
        clear r1
        replace hb1 := hb1
        have hbel := hb1
        replace k4 := k4.below hbel
        replace k6 := k6.below hbel
        replace k7 := k7.below hbel
        replace b := b.trans (hbel.mono b.size)
        replace hs := hs.below hbel
        replace hl := hl.below hbel
        clear hbel hb1
        obtain ⟨c6, f6, l6⟩ := k6.rules
        go_wp2_with fail
        clear c6 f6 l6
        have hbel := (Below.refl W.heap.size W).alloc (Nat.le_refl _) (.cells #[.int .i64 s.head, .slice A n c, .int .i64 s.lane.lo, .int .i64 s.lane.hi, .int .i64 s.bend] 137)
        have k10 := Blk.new W 137 #[.int .i64 s.head, .slice A n c, .int .i64 s.lane.lo, .int .i64 s.lane.hi, .int .i64 s.bend]
        replace k4 := k4.below hbel
        replace k6 := k6.below hbel
        replace k7 := k7.below hbel
        replace b := b.trans (hbel.mono b.size)
        replace hs := hs.below hbel
        replace hl := hl.below hbel
        clear hbel
        generalize W.alloc (.cells #[.int .i64 s.head, .slice A n c, .int .i64 s.lane.lo, .int .i64 s.lane.hi, .int .i64 s.bend] 137) = W1 at *
        generalize W.heap.size = g10 at *
        refine (hcp _).mono ?_
        rintro e W ⟨rfl, hbel⟩
        replace k10 := k10.below hbel
        replace k4 := k4.below hbel
        replace k6 := k6.below hbel
        replace k7 := k7.below hbel
        replace b := b.trans (hbel.mono b.size)
        replace hs := hs.below hbel
        replace hl := hl.below hbel
        clear hbel hcp
        obtain ⟨c7, f7, l7⟩ := k7.rules
        go_wp2_with fail
        clear c7 f7 l7
        refine (hch _).mono ?_
        rintro e W ⟨rfl, hbel⟩
        replace k10 := k10.below hbel
        replace k4 := k4.below hbel
        replace k6 := k6.below hbel
        replace k7 := k7.below hbel
        replace b := b.trans (hbel.mono b.size)
        replace hs := hs.below hbel
        replace hl := hl.below hbel
        clear hbel hch
        obtain ⟨c10, f10, l10⟩ := k10.rules
        go_wp2_with fail
        clear c10 f10 l10
        refine (hnd _ hs hl).mono ?_
        rintro e W ⟨PN, cn, rfl, hr, hbel⟩
        clear hnd k10
        replace k4 := k4.below hbel
        replace k6 := k6.below hbel
        replace k7 := k7.below hbel
        replace b := b.trans (hbel.mono b.size)
        replace hs := hs.below hbel
        replace hl := hl.below hbel
        clear hbel k4 hs hl
        replace hr := hr.mono (Nat.zero_le _)
        go_wp2_with fail
        go_loopw [14, 44] (fun v j wr => ∃ k : Nat, j = .int .i64 k ∧ k ≤ n ∧ whereE p h L k = 0 ∧ wr.ownsRow W.heap.size 42 8 v k ((whereTo p h L k).flatMap Reg.cells) ∧ Below W.heap.size W wr) (fun v j wr => n - (intOf j).toNat)
        case atStart => exact ⟨0, rfl, Nat.zero_le _, rfl, ⟨rfl, .inl ⟨rfl, rfl⟩⟩, Below.refl _ _⟩
        case round =>
          obtain ⟨k, rfl, hk, hE, hown, hb⟩ := hrel
          have hE9 := Lib.hid hE
          clear hE
          by_cases hlt : k < n
          · have hLk := hLat.out k (by rw [hbl.out]; exact hlt)
            obtain ⟨-, hok, -⟩ := hnt.out k (by rw [hbl.out]; exact hlt)
            have hplk := hpl.out k (by rw [hbl.out]; exact hlt)
            have hLg : L.getD k noReg = nodeR s bs k := getD_of _ hLk
            have hstop : (placeR p h (nodeR s bs k)).2 ≠ 0 → whereN p h L = ([], (placeR p h (nodeR s bs k)).2) := fun hne => by
              have e := whereE_stop hE9.out (by rw [hLg]; exact hne) L.length (by rw [hLl.out]; exact hlt)
              rw [hLg] at e
              rw [whereN, e, if_neg hne]
            have hstep : (placeR p h (nodeR s bs k)).2 = 0 → whereE p h L (k + 1) = 0 ∧ (whereTo p h L (k + 1)).flatMap Reg.cells = (whereTo p h L k).flatMap Reg.cells ++ Reg.cells (placeR p h (nodeR s bs k)).1 := fun he => by
              refine ⟨by rw [whereE, if_pos hE9.out, hLg, he], ?_⟩
              rw [whereTo_succ, List.flatMap_append, hLg]; simp
            have k6w := k6.below hb
            have k7w := k7.below hb
            obtain ⟨bN, oN, hA, -, hbN, z0, z1, z2, z3, z4, z5, z6, z7⟩ := (hr.below hb).reg hLk
            subst hA
            generalize nodeR s bs k = r at *
            have htu := fun W => turned_any r h W hok h3.out
            simp only [regA] at htu
            have hk0 : (0 : Int) ≤ (k : Int) := by omega
            have hk1 : (k : Int) < (n : Int) := by omega
            replace hLk := Lib.hid hLk
            replace hLg := Lib.hid hLg
            replace hok := Lib.hid hok
            replace hstop := Lib.hid hstop
            replace hstep := Lib.hid hstep
            obtain ⟨c7, f7, l7⟩ := k7w.rules
            go_wp2_with fail
            clear c7 f7 l7 z0 z1 z2 z3 z4 z5 z6 z7
            have hbel := (Below.refl wr.heap.size wr).alloc (Nat.le_refl _) (.cells #[.int .i64 r.x.lo, .int .i64 r.x.hi, .int .i64 r.y.lo, .int .i64 r.y.hi, .int .i64 r.s.lo, .int .i64 r.s.hi, .int .i64 r.d.lo, .int .i64 r.d.hi] 42)
            replace k6w := k6w.below hbel
            replace k7w := k7w.below hbel
            replace hb := hb.trans (hbel.mono hb.size)
            replace hown := ownsRow_below hown hbel
            clear hbel
            generalize wr.alloc (.cells #[.int .i64 r.x.lo, .int .i64 r.x.hi, .int .i64 r.y.lo, .int .i64 r.y.hi, .int .i64 r.s.lo, .int .i64 r.s.hi, .int .i64 r.d.lo, .int .i64 r.d.hi] 42) = Wa at *
            refine (htu _).mono ?_
            rintro e Wb ⟨rfl, hbel⟩
            clear htu
            replace k6w := k6w.below hbel
            replace k7w := k7w.below hbel
            replace hb := hb.trans (hbel.mono hb.size)
            replace hown := ownsRow_below hown hbel
            clear hbel
            cases hip : inPlane (turnedS r h) with
            | false =>
              have hpe : placeR p h r = (noReg, 7) := by rw [placeR, if_neg (by rw [hip]; simp)]
              have hv2 := hstop.out (by rw [hpe]; simp)
              rw [hpe] at hv2
              clear hpe
              replace hip := Lib.hid hip
              generalize turnedS r h = T at *
              have hbz := b.trans (hb.mono b.size)
              replace hv2 := Lib.hid hv2
              go_wp2
              go_ret2
              exact ⟨none, 0, 0, by rw [hv2.out]; rfl, by rw [hv2.out]; exact SlAt.nil _ _ _ _, Below.alloc hbz hbz.size _⟩
            | true =>
              obtain ⟨ho2, t, ht, hpe⟩ := hplk hip
              have hmv := fun W => Move_any (turnedS r h) t p W ho2 h2.out ht
              simp only [← hpe] at hmv
              obtain ⟨⟨R, er⟩, hR⟩ : ∃ R, placeR p h r = R := ⟨_, rfl⟩
              simp only [hR] at hmv
              replace hR := Lib.hid hR
              replace hpe := Lib.hid hpe
              replace ht := Lib.hid ht
              replace ho2 := Lib.hid ho2
              replace hip := Lib.hid hip
              simp only [regA] at hmv
              clear hplk
              obtain ⟨T, hT⟩ : ∃ T, turnedS r h = T := ⟨_, rfl⟩
              simp only [hT] at hmv ⊢
              replace hT := Lib.hid hT
              obtain ⟨c6, f6, l6⟩ := k6w.rules
              go_wp2_with fail
              clear c6 f6 l6
              have hbel := (Below.refl Wb.heap.size Wb).alloc (Nat.le_refl _) (.cells #[.int .i64 T.x.lo, .int .i64 T.x.hi, .int .i64 T.y.lo, .int .i64 T.y.hi, .int .i64 T.s.lo, .int .i64 T.s.hi, .int .i64 T.d.lo, .int .i64 T.d.hi] 42)
              replace k6w := k6w.below hbel
              replace k7w := k7w.below hbel
              replace hb := hb.trans (hbel.mono hb.size)
              replace hown := ownsRow_below hown hbel
              clear hbel
              generalize Wb.alloc (.cells #[.int .i64 T.x.lo, .int .i64 T.x.hi, .int .i64 T.y.lo, .int .i64 T.y.hi, .int .i64 T.s.lo, .int .i64 T.s.hi, .int .i64 T.d.lo, .int .i64 T.d.hi] 42) = Wc at *
              refine (hmv _).mono ?_
              rintro e Wd ⟨rfl, hbel⟩
              clear hmv
              replace k6w := k6w.below hbel
              replace k7w := k7w.below hbel
              replace hb := hb.trans (hbel.mono hb.size)
              replace hown := ownsRow_below hown hbel
              clear hbel
              by_cases her : er = 0
              · subst her
                obtain ⟨hE2, hnx⟩ := hstep.out (by rw [hR.out])
                rw [hR.out] at hnx
                replace hE2 := Lib.hid hE2
                replace hnx := Lib.hid hnx
                have hown0 := hown
                have hownf := (hown.alloc (.cells #[.int .i64 R.x.lo, .int .i64 R.x.hi, .int .i64 R.y.lo, .int .i64 R.y.hi, .int .i64 R.s.lo, .int .i64 R.s.hi, .int .i64 R.d.lo, .int .i64 R.d.hi] 42)).alloc (.cells #[.int .i64 R.x.lo, .int .i64 R.x.hi, .int .i64 R.y.lo, .int .i64 R.y.hi, .int .i64 R.s.lo, .int .i64 R.s.hi, .int .i64 R.d.lo, .int .i64 R.d.hi] 42)
                have hbf := Below.alloc (hb.alloc hb.size (.cells #[.int .i64 R.x.lo, .int .i64 R.x.hi, .int .i64 R.y.lo, .int .i64 R.y.hi, .int .i64 R.s.lo, .int .i64 R.s.hi, .int .i64 R.d.lo, .int .i64 R.d.hi] 42)) (by rw [World.size_alloc]; have := hb.size; omega) (.cells #[.int .i64 R.x.lo, .int .i64 R.x.hi, .int .i64 R.y.lo, .int .i64 R.y.hi, .int .i64 R.s.lo, .int .i64 R.s.hi, .int .i64 R.d.lo, .int .i64 R.d.hi] 42)
                have hnews : ∀ (j : Nat) (u : Value), (Reg.cells R)[j]? = some u → ((Wd.alloc (.cells #[.int .i64 R.x.lo, .int .i64 R.x.hi, .int .i64 R.y.lo, .int .i64 R.y.hi, .int .i64 R.s.lo, .int .i64 R.s.hi, .int .i64 R.d.lo, .int .i64 R.d.hi] 42)).alloc (.cells #[.int .i64 R.x.lo, .int .i64 R.x.hi, .int .i64 R.y.lo, .int .i64 R.y.hi, .int .i64 R.s.lo, .int .i64 R.s.hi, .int .i64 R.d.lo, .int .i64 R.d.hi] 42)).cell? ((⟨Wd.heap.size + 1, 0, none⟩ : Addr).add j) = some u :=
                  World.news_of_block (cs := #[.int .i64 R.x.lo, .int .i64 R.x.hi, .int .i64 R.y.lo, .int .i64 R.y.hi, .int .i64 R.s.lo, .int .i64 R.s.hi, .int .i64 R.d.lo, .int .i64 R.d.hi]) (t := 42) (fr := (0, 0)) (by have := World.alloc_heap_new (Wd.alloc (.cells #[.int .i64 R.x.lo, .int .i64 R.x.hi, .int .i64 R.y.lo, .int .i64 R.y.hi, .int .i64 R.s.lo, .int .i64 R.s.hi, .int .i64 R.d.lo, .int .i64 R.d.hi] 42)) (.cells #[.int .i64 R.x.lo, .int .i64 R.x.hi, .int .i64 R.y.lo, .int .i64 R.y.hi, .int .i64 R.s.lo, .int .i64 R.s.hi, .int .i64 R.d.lo, .int .i64 R.d.hi] 42); rw [World.size_alloc] at this; exact this)
                obtain ⟨i0, hi0, hz0, hz1, hz2⟩ := info_parts Tryz.infoReg
                have hbig1 : Hid (k + 1 ≤ maxLen) := by show k + 1 ≤ maxLen; unfold maxLen; omega
                have hbig2 : Hid ((k + 1) * 64 ≤ 140737488355328) := by show (k + 1) * 64 ≤ 140737488355328; omega
                have hone := Lib.hid (regcells_one R)
                go_wp2_with (at_builtin; refine wpList_append_lies _ rfl (.tmp 65) (.tmp 67) 28 rfl W.heap.size 42 i0 (.agg #[.int .i64 0, .int .i64 0, .int .i64 0, .int .i64 0, .int .i64 0, .int .i64 0, .int .i64 0, .int .i64 0]) 8 64 Tryz.underlying28 hi0 hz0 hz1 hz2 rfl (by decide) u14 k ((whereTo p h L k).flatMap Reg.cells) rfl hownf ⟨Wd.heap.size + 1, 0, none⟩ 1 1 (Reg.cells R) rfl rfl hnews hone.out (by decide) hbig1.out hbig2.out hbf.size (Wd.heap.size + 1 + 1) (by simp) ?_; intro g cap w7 hown7 hgrow hlies hlt7)
                have hbg : Below W.heap.size _ w7 := ⟨hgrow.os, hgrow.tape, hgrow.output, hgrow.size, fun b hb => hgrow.block b (Nat.lt_of_lt_of_le hb hbf.size) (fun e => by have := (hown0.lt _ e.symm).1; omega)⟩
                have hbh := hbf.trans hbg
                go_roundw
                case rel =>
                  refine ⟨k + 1, by go_num, by omega, hE2.out, ?_, hbh⟩
                  rw [hnx.out]
                  exact hown7
                case measure => simp [intOf]; omega
              · have her2 : (er != 0) = true := by rw [bne_iff_ne]; exact her
                have hv2 := hstop.out (by rw [hR.out]; exact her)
                rw [hR.out] at hv2
                replace her := Lib.hid her
                have hbz := b.trans (hb.mono b.size)
                replace hv2 := Lib.hid hv2
                go_wp2
                go_ret2
                exact ⟨none, 0, 0, by rw [hv2.out]; rfl, by rw [hv2.out]; exact SlAt.nil _ _ _ _, Below.alloc hbz hbz.size _⟩
          · obtain rfl : k = n := by omega
            have hv2 : whereN p h L = (whereTo p h L k, 0) := by rw [whereN, hLl.out, if_pos hE9.out]
            obtain ⟨P, pc, e5, h5⟩ := SlAt.of_own (enc := Reg.cells) hown (by omega) (whereTo p h L k) rfl (fun _ => rfl) (whereTo_len _ _ _ _)
            subst e5
            replace hv2 := Lib.hid hv2
            clear hown
            go_wp2
            go_ret2
            exact ⟨P, k, pc, by rw [hv2.out]; rfl, by rw [hv2.out]; exact h5.mono b.size, b.trans (hb.mono b.size)⟩
  · have hv : whereR s bs p h = ([], errB s bs) := by simp [whereR, h1]
    rw [hv]
    have h1' : (errB s bs != 0) = true := by rw [bne_iff_ne]; exact h1
    clear hv hcp hch
    go_enter Tryz.func21, Tryz.ntmps21
    go_wp2_with fail
    rw [← hw1]
    clear hw1
    refine (checked_any s A O n c no co 0 0 bs _ hs hl).mono ?_
    rintro e W ⟨-, r2, hb1⟩
    obtain rfl := r2 h1
    clear r2
    have b1 := b.trans (hb1.mono b.size)
    go_wp2
    go_ret2
    exact RetSl.none_ (Below.alloc b1 b1.size _)
end Go.Proofs.YtfengddpfeneiaaGreat
