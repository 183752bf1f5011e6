/-
  Own texts for one claim, joined: N1 N3.
-/
import Derived.Deep.QuietTactic
import Derived.LoopN
import Derived.Deep.RegionWith
import Derived.BigQuiet
import Derived.Shelf.Abstract
import Derived.Test.YtjiaepphnddpoaaGreatChecked
import Derived.Shelf.Abstract
import Derived.Deep.QuietTactic
import Derived.BigQuiet
import Derived.Deep.RegionHeld3
import Derived.StillTailTactics
import Derived.Deep.AppendLies
import Derived.WalkMore
import Derived.WalkKit
import Derived.WalkSpells
import Derived.WalkLawsBesides
import Derived.Lib.Hide
import Derived.OrdersHeld
import Derived.StillTail
import Derived.StillTailTactics
import Derived.RangeFuncNested
import Derived.RangeFuncBound
import Derived.RangeFuncCalls
import Derived.RangeFuncLeaves
import Derived.Shelf.Abstract
import Derived.Shelf.RegionOpen
import Derived.OwnWalkIn
import Derived.TacticsInMore
import Derived.LoopNIn
import Derived.LoopIn
import Derived.OrdersIn
import Derived.Deep.Quiet
import Derived.Deep.QuietTactic
import Derived.BigQuiet
import Derived.Test.YtjiaepphnddpoaaGreatV01
import Derived.Test.YtjiaepphnddpoaaGreatV02
import Derived.Test.YtjiaepphnddpoaaGreatV06
import Derived.Test.YtjiaepphnddpoaaGreatV07
namespace Go.Proofs.YtjiaepphnddpoaaGreat
open Go.RowKit Go.Shelf
set_option maxHeartbeats 1000000 in
theorem shortest_any (len m : Int) (w : World) (h1 : 0 ≤ len) (h2 : len ≤ 1000) (h3 : 0 ≤ m) (h4 : m ≤ 100000) :
    Calls Tryz.prog 126 #[.int .i64 len, .int .i64 m] w fun e w' => e = .returned (.int .i64 (shortS len m)) ∧ w = w' := by
  have hmin := min2_int
  have m1 : min m len * min m len ≤ len * len := sq_le (by omega) (by omega)
  have m2 : len * len ≤ 1000 * 1000 := sq_le h1 h2
  have m3 : 0 ≤ min m len * min m len := Int.mul_nonneg (by omega) (by omega)
  have hv : Hid (shortS len m = rootS (len * len - min m len * min m len)) := rfl
  have t1 := IntWalk.i64_in (len * len) (by omega)
  have t2 := IntWalk.i64_in (min m len * min m len) (by omega)
  have t3 := IntWalk.i64_in (len * len - min m len * min m len) (by omega)
  have hroot := fun W => Root_any (len * len - min m len * min m len) W (by omega) (by omega)
  replace m1 := Lib.hid m1
  replace m2 := Lib.hid m2
  replace m3 := Lib.hid m3
  go_enter Tryz.func126, Tryz.ntmps126
  go_wp2_with (go_at_call 90; refine (hroot _).mono ?_; rintro e w' ⟨rfl, rfl⟩)
  go_ret
  exact ⟨ret_int hv.out.symm, rfl⟩
set_option maxHeartbeats 1000000 in
theorem floor_any (a b : Int) (w : World) (h1 : -1000000000000 ≤ a) (h2 : a ≤ 1000000000000) (h3 : 1 ≤ b) (h4 : b ≤ 1000000) :
    Calls Tryz.prog 112 #[.int .i64 a, .int .i64 b] w fun e w' => e = .returned (.int .i64 (floorS a b)) ∧ w = w' := by
  obtain ⟨s1, s2, s3, s4, s5⟩ := tdiv_spec a b (by omega)
  have hq : a.tdiv b ≤ 2000000000000 ∧ -2000000000000 ≤ a.tdiv b := by
    rcases Int.le_total 0 (a.tdiv b) with h | h
    · have := Int.mul_le_mul_of_nonneg_right h3 h
      omega
    · have := Int.mul_le_mul_of_nonpos_right h3 h
      omega
  obtain ⟨q1, q2⟩ := hq
  by_cases hn : a.tmod b < 0
  · have e : Hid (floorS a b = a.tdiv b - 1) := ediv_of a b (a.tdiv b - 1) (a.tmod b + b) (by omega) (by rw [Int.mul_sub]; omega) (by omega) (by omega)
    have t1 := IntWalk.i64_in (a.tdiv b - 1) (by omega)
    clear s1 s2 s3 s4 s5
    go_enter Tryz.func112, Tryz.ntmps112
    go_wp2
    go_ret
    exact ⟨ret_int e.out.symm, rfl⟩
  · have e : Hid (floorS a b = a.tdiv b) := ediv_of a b (a.tdiv b) (a.tmod b) (by omega) (by omega) (by omega) (by omega)
    clear s1 s2 s3 s4 s5
    go_enter Tryz.func112, Tryz.ntmps112
    go_wp2
    go_ret
    exact ⟨ret_int e.out.symm, rfl⟩
set_option maxHeartbeats 400000 in
theorem ceil_any (a b : Int) (w : World) (h1 : -1000000000000 ≤ a) (h2 : a ≤ 1000000000000) (h3 : 1 ≤ b) (h4 : b ≤ 1000000) :
    Calls Tryz.prog 113 #[.int .i64 a, .int .i64 b] w fun e w' => e = .returned (.int .i64 (ceilS a b)) ∧ w = w' := by
  have hfl := fun W => floor_any (-a) b W (by omega) (by omega) h3 h4
  have e : Hid (ceilS a b = -floorS (-a) b) := rfl
  have hb : -2000000000000 ≤ floorS (-a) b ∧ floorS (-a) b ≤ 2000000000000 := by
    unfold floorS
    have e1 := Int.mul_ediv_add_emod (-a) b
    have e2 := Int.emod_nonneg (-a) (b := b) (by omega)
    have e3 := Int.emod_lt_of_pos (-a) (b := b) (by omega)
    rcases Int.le_total 0 ((-a) / b) with h | h
    · have := Int.mul_le_mul_of_nonneg_right h3 h
      omega
    · have := Int.mul_le_mul_of_nonpos_right h3 h
      omega
  go_enter Tryz.func113, Tryz.ntmps113
  go_wp2_with (go_at_call 112; refine (hfl _).mono ?_; rintro e w' ⟨rfl, rfl⟩)
  go_ret
  exact ⟨ret_int (by rw [‹Hid (ceilS a b = _)›.out]), rfl⟩
set_option maxRecDepth 100000 in
set_option maxHeartbeats 1000000 in
theorem CheckHeading_any (h : Hdg) (w : World) :
    Calls Tryz.prog 20 #[.agg #[.int .i64 h.p, .int .i64 h.q, .int .i64 h.c]] w fun e w' => e = .returned (.int .i64 (chkHdg h)) ∧ Below w.heap.size w w' := by
  have hw1 := fun W => within_any h.c 1 1000 W
  have hw2 := fun W => within_any h.p (-h.c) h.c W
  have hw3 := fun W => within_any h.q (-h.c) h.c W
  have hv : Hid (chkHdg h = if okHdg h = true then 0 else 35) := rfl
  have hu : Hid (okHdg h = decide (1 ≤ h.c ∧ h.c ≤ 1000 ∧ -h.c ≤ h.p ∧ h.p ≤ h.c ∧ -h.c ≤ h.q ∧ h.q ≤ h.c ∧ h.p * h.p + h.q * h.q = h.c * h.c)) := rfl
  by_cases c1 : 1 ≤ h.c ∧ h.c ≤ 1000
  · simp only [decide_eq_true c1] at hw1
    by_cases c2 : -h.c ≤ h.p ∧ h.p ≤ h.c
    · simp only [decide_eq_true c2] at hw2
      by_cases c3 : -h.c ≤ h.q ∧ h.q ≤ h.c
      · simp only [decide_eq_true c3] at hw3
        have p1 : h.p * h.p ≤ 1000 * 1000 := by
          rcases Int.le_total 0 h.p with g | g
          · exact sq_le g (by omega)
          · have := sq_le (show 0 ≤ -h.p by omega) (show -h.p ≤ 1000 by omega); rwa [Int.neg_mul_neg] at this
        have p2 : h.q * h.q ≤ 1000 * 1000 := by
          rcases Int.le_total 0 h.q with g | g
          · exact sq_le g (by omega)
          · have := sq_le (show 0 ≤ -h.q by omega) (show -h.q ≤ 1000 by omega); rwa [Int.neg_mul_neg] at this
        have p3 : h.c * h.c ≤ 1000 * 1000 := sq_le (by omega) (by omega)
        have p4 : 0 ≤ h.p * h.p := by rcases Int.le_total 0 h.p with g | g; exact Int.mul_nonneg g g; exact Int.mul_nonneg_of_nonpos_of_nonpos g g
        have p5 : 0 ≤ h.q * h.q := by rcases Int.le_total 0 h.q with g | g; exact Int.mul_nonneg g g; exact Int.mul_nonneg_of_nonpos_of_nonpos g g
        have p6 : 0 ≤ h.c * h.c := Int.mul_nonneg (by omega) (by omega)
        have t1 := IntWalk.i64_in (h.p * h.p) (by omega)
        have t2 := IntWalk.i64_in (h.q * h.q) (by omega)
        have t3 := IntWalk.i64_in (h.c * h.c) (by omega)
        have t4 := IntWalk.i64_in (h.p * h.p + h.q * h.q) (by omega)
        have t5 := IntWalk.i64_in (-h.c) (by omega)
        by_cases c4 : h.p * h.p + h.q * h.q = h.c * h.c
        · replace c1 := Lib.hid c1
          replace c2 := Lib.hid c2
          replace c3 := Lib.hid c3
          have c4' : (h.p * h.p + h.q * h.q != h.c * h.c) = false := by simp [c4]
          replace c4 := Lib.hid c4
          go_enter Tryz.func20, Tryz.ntmps20
          go_wp2_with fail
          refine (hw1 _).mono ?_
          rintro e w' ⟨rfl, rfl⟩
          go_wp2_with fail
          refine (hw2 _).mono ?_
          rintro e w' ⟨rfl, rfl⟩
          go_wp2_with fail
          refine (hw3 _).mono ?_
          rintro e w' ⟨rfl, rfl⟩
          go_wp2
          go_ret
          exact ⟨ret_int (by rw [hv.out, hu.out, if_pos (by have := c1.out; have := c2.out; have := c3.out; have := c4.out; simp; omega)]), (Below.refl _ _).alloc (Nat.le_refl _) _⟩
        · replace c1 := Lib.hid c1
          replace c2 := Lib.hid c2
          replace c3 := Lib.hid c3
          have c4' : (h.p * h.p + h.q * h.q != h.c * h.c) = true := by simp [c4]
          replace c4 := Lib.hid c4
          go_enter Tryz.func20, Tryz.ntmps20
          go_wp2_with fail
          refine (hw1 _).mono ?_
          rintro e w' ⟨rfl, rfl⟩
          go_wp2_with fail
          refine (hw2 _).mono ?_
          rintro e w' ⟨rfl, rfl⟩
          go_wp2_with fail
          refine (hw3 _).mono ?_
          rintro e w' ⟨rfl, rfl⟩
          go_wp2
          go_ret
          exact ⟨ret_int (by rw [hv.out, hu.out, if_neg (by have := c4.out; simp; omega)]), (Below.refl _ _).alloc (Nat.le_refl _) _⟩
      · simp only [decide_eq_false c3] at hw3
        have t5 := IntWalk.i64_in (-h.c) (by omega)
        replace c1 := Lib.hid c1
        replace c2 := Lib.hid c2
        replace c3 := Lib.hid c3
        go_enter Tryz.func20, Tryz.ntmps20
        go_wp2_with fail
        refine (hw1 _).mono ?_
        rintro e w' ⟨rfl, rfl⟩
        go_wp2_with fail
        refine (hw2 _).mono ?_
        rintro e w' ⟨rfl, rfl⟩
        go_wp2_with fail
        refine (hw3 _).mono ?_
        rintro e w' ⟨rfl, rfl⟩
        go_wp2
        go_ret
        exact ⟨ret_int (by rw [hv.out, hu.out, if_neg (by have := c3.out; simp; omega)]), (Below.refl _ _).alloc (Nat.le_refl _) _⟩
    · simp only [decide_eq_false c2] at hw2
      have t5 := IntWalk.i64_in (-h.c) (by omega)
      replace c1 := Lib.hid c1
      replace c2 := Lib.hid c2
      go_enter Tryz.func20, Tryz.ntmps20
      go_wp2_with fail
      refine (hw1 _).mono ?_
      rintro e w' ⟨rfl, rfl⟩
      go_wp2_with fail
      refine (hw2 _).mono ?_
      rintro e w' ⟨rfl, rfl⟩
      go_wp2
      go_ret
      exact ⟨ret_int (by rw [hv.out, hu.out, if_neg (by have := c2.out; simp; omega)]), (Below.refl _ _).alloc (Nat.le_refl _) _⟩
  · simp only [decide_eq_false c1] at hw1
    replace c1 := Lib.hid c1
    go_enter Tryz.func20, Tryz.ntmps20
    go_wp2_with fail
    refine (hw1 _).mono ?_
    rintro e w' ⟨rfl, rfl⟩
    go_wp2
    go_ret
    exact ⟨ret_int (by rw [hv.out, hu.out, if_neg (by have := c1.out; simp; omega)]), (Below.refl _ _).alloc (Nat.le_refl _) _⟩
end Go.Proofs.YtjiaepphnddpoaaGreat
namespace Go.Proofs.YtjiaepphnddpoaaGreat
open Go.RowKit Go.Shelf
theorem smul_bd {a b A B : Int} (h1 : -A ≤ a) (h2 : a ≤ A) (h3 : -B ≤ b) (h4 : b ≤ B) : -(A * B) ≤ a * b ∧ a * b ≤ A * B := by
  have hA : 0 ≤ A := by omega
  have hB : 0 ≤ B := by omega
  rcases Int.le_total 0 a with ha | ha <;> rcases Int.le_total 0 b with hb | hb
  · have := Int.mul_le_mul h2 h4 hb hA
    have := Int.mul_nonneg ha hb
    have := Int.mul_nonneg hA hB
    omega
  · have h := Int.mul_le_mul h2 (show -b ≤ B by omega) (by omega) hA
    have h0 := Int.mul_nonneg ha (show 0 ≤ -b by omega)
    have := Int.mul_nonneg hA hB
    rw [Int.mul_neg] at h h0
    omega
  · have h := Int.mul_le_mul (show -a ≤ A by omega) h4 hb hA
    have h0 := Int.mul_nonneg (show 0 ≤ -a by omega) hb
    have := Int.mul_nonneg hA hB
    rw [Int.neg_mul] at h h0
    omega
  · have h := Int.mul_le_mul (show -a ≤ A by omega) (show -b ≤ B by omega) (by omega) hA
    have h0 := Int.mul_nonneg (show 0 ≤ -a by omega) (show 0 ≤ -b by omega)
    have := Int.mul_nonneg hA hB
    rw [Int.neg_mul_neg] at h h0
    omega
def optB (o : Option Bnd) : Bnd := o.getD ⟨0, 0⟩
theorem extO_app (l : List RRow) (w : RRow) (p q : Int) : extO (l ++ [w]) p q = addE (extO l p q) (p * w.x + q * w.fr, p * w.x + q * w.to) := by
  unfold extO
  rw [List.foldl_append]
  rfl
set_option maxRecDepth 100000 in
set_option maxHeartbeats 2000000 in
theorem extremes_any (r : Reg) (p q : Int) (w : World) (hr : okReg r = true) (hp : -2000 ≤ p ∧ p ≤ 2000) (hq : -2000 ≤ q ∧ q ≤ 2000) :
    Calls Tryz.prog 111 #[.agg (regA r), .int .i64 p, .int .i64 q] w fun e w' => e = .returned (.agg #[.int .i64 (extB r p q).lo, .int .i64 (extB r p q).hi]) ∧ Below w.heap.size w w' := by
  have hmax := max3_int
  have hmin := min3_int
  simp only [okReg, Bool.and_eq_true, okBnd, decide_eq_true_eq] at hr
  obtain ⟨⟨⟨⟨x1, x2, x3⟩, ⟨y1, y2, y3⟩⟩, ⟨s1, s2, s3⟩⟩, ⟨d1, d2, d3⟩⟩ := hr
  obtain ⟨p1, p2⟩ := hp
  obtain ⟨q1, q2⟩ := hq
  simp only [regA]
  go_enter Tryz.func111, Tryz.ntmps111
  go_wp2_with fail
  go_loopw [8, 9] (fun s x wr => ∃ j : Nat, x = .int .i64 (r.x.lo + j) ∧ j ≤ nX r ∧ s = .bool (extO (rowsTo r j) p q).isSome ∧ Blk wr w.heap.size 45 (regA r) ∧ Blk wr (w.heap.size + 1) 24 #[.int .i64 0, .int .i64 0] ∧ Blk wr (w.heap.size + 1 + 1) 24 #[.int .i64 (optB (extO (rowsTo r j) p q)).lo, .int .i64 (optB (extO (rowsTo r j) p q)).hi] ∧ Below w.heap.size w wr) (fun s x wr => (r.x.hi + 1 - intOf x).toNat)
  case atStart =>
    exact ⟨0, by simp, Nat.zero_le _, rfl, ((Blk.newAt rfl).alloc _).alloc _, (Blk.newAt (by simp)).alloc _, Blk.newAt (by simp), (((Below.refl w.heap.size w).alloc (Nat.le_refl _) _).alloc (by simp) _).alloc (by simp; omega) _⟩
  case round =>
    obtain ⟨j, rfl, hj, rfl, k3, k6, k7, hb⟩ := hrel
    have hjx : j < nX r ↔ r.x.lo + j ≤ r.x.hi := by unfold nX; omega
    by_cases hlt : r.x.lo + j ≤ r.x.hi
    · have hj1 := Lib.hid (hjx.2 hlt)
      replace hj := Lib.hid hj
      have hstep := Lib.hid (rowsTo_succ r j)
      have e1 : Hid ((rowB r (r.x.lo + j)).fr = max r.y.lo (max (r.s.lo - (r.x.lo + j)) (r.x.lo + j - r.d.hi))) := rfl
      have e2 : Hid ((rowB r (r.x.lo + j)).to = min r.y.hi (min (r.s.hi - (r.x.lo + j)) (r.x.lo + j - r.d.lo))) := rfl
      have e3 : Hid ((rowB r (r.x.lo + j)).x = r.x.lo + j) := rfl
      clear hjx
      generalize rowB r (r.x.lo + j) = v at *
      generalize hx : r.x.lo + (j : Int) = x at *
      have hxb : -32768 ≤ x ∧ x ≤ 32768 := by omega
      have e1r := e1.out.symm
      have e2r := e2.out.symm
      have t1 := IntWalk.i64_in (r.s.lo - x) (by omega)
      have t2 := IntWalk.i64_in (x - r.d.hi) (by omega)
      have t3 := IntWalk.i64_in (r.s.hi - x) (by omega)
      have t4 := IntWalk.i64_in (x - r.d.lo) (by omega)
      have t5 := IntWalk.i64_in (x + 1) (by omega)
      have hfr : -32768 ≤ v.fr ∧ v.to ≤ 32768 := by omega
      replace hx := Lib.hid hx
      simp only [regA] at k3
      obtain ⟨c3, f3, l3⟩ := k3.rules
      obtain ⟨o, ho⟩ : ∃ o, extO (rowsTo r j) p q = o := ⟨_, rfl⟩
      rw [ho] at k7 ⊢
      replace ho := Lib.hid ho
      go_wp2_with fail
      go_quiet (fail)
      clear c3 f3 l3
      have k3d := k3.drewN nq
      have k6d := k6.drewN nq
      have k7d := k7.drewN nq
      have hbd := below_drewN hb nq
      clear k3 k6 k7 hb
      generalize wr.drewN nq = W at *
      by_cases hv : v.fr ≤ v.to
      · rw [if_pos hv] at hstep
        have ha := smul_bd p1 p2 hxb.1 hxb.2
        have hb1 := smul_bd q1 q2 (show -32768 ≤ v.fr by omega) (show v.fr ≤ 32768 by omega)
        have hb2 := smul_bd q1 q2 (show -32768 ≤ v.to by omega) (show v.to ≤ 32768 by omega)
        have u1 := IntWalk.i64_in (p * x) (by omega)
        have u2 := IntWalk.i64_in (q * v.fr) (by omega)
        have u3 := IntWalk.i64_in (q * v.to) (by omega)
        have u4 := IntWalk.i64_in (p * x + q * v.fr) (by omega)
        have u5 := IntWalk.i64_in (p * x + q * v.to) (by omega)
        have hext : Hid (extO (rowsTo r (j + 1)) p q = addE o (p * x + q * v.fr, p * x + q * v.to)) := by
          show _ = _
          rw [hstep.out, extO_app, ho.out, e3.out]
        have hv' : ¬ v.to < v.fr := by omega
        clear ha hb1 hb2
        obtain ⟨a, hA⟩ : ∃ a, p * x + q * v.fr = a := ⟨_, rfl⟩
        obtain ⟨b, hB⟩ : ∃ b, p * x + q * v.to = b := ⟨_, rfl⟩
        replace u4 : IntKind.i64.wrap (p * x + q * v.fr) = a := u4.trans hA
        replace u5 : IntKind.i64.wrap (p * x + q * v.to) = b := u5.trans hB
        rw [hA, hB] at hext
        clear hA hB
        cases o with
        | none =>
          have hm1 : Hid (min (a) (min (a) (b)) = min (a) (b)) := by show _ = _; omega
          have hm2 : Hid (max (a) (max (a) (b)) = max (a) (b)) := by show _ = _; omega
          simp only [optB, Option.getD_none, Option.isSome_none] at k7d ⊢
          obtain ⟨c7, f7, l7⟩ := k7d.rules
          go_wp2_with fail
          clear c7 f7 l7
          go_roundw
          case rel =>
            refine ⟨j + 1, by rw [← hx.out]; congr 1; push_cast; omega, hj1.out, by rw [hext.out]; rfl, (((k3d.far (by dsimp only; omega) _).far (by dsimp only; omega) _).far (by dsimp only; omega) _).far (by dsimp only; omega) _, (((k6d.far (by dsimp only; omega) _).far (by dsimp only; omega) _).far (by dsimp only; omega) _).far (by dsimp only; omega) _, ?_, ((((hbd.setCell (p := ⟨w.heap.size + 1 + 1, 0, none⟩) (by dsimp only; omega) _).setCell (p := ⟨w.heap.size + 1 + 1, 1, none⟩) (by dsimp only; omega) _).setCell (p := ⟨w.heap.size + 1 + 1, 0, none⟩) (by dsimp only; omega) _).setCell (p := ⟨w.heap.size + 1 + 1, 1, none⟩) (by dsimp only; omega) _)⟩
            rw [hext.out]
            simp only [addE]
            rw [hm1.out, hm2.out]
            exact (((k7d.set_ 0 _).set_ 1 _).set_ 0 _).set_ 1 _
          case measure => simp [intOf]; omega
        | some B =>
          simp only [optB, Option.getD_some, Option.isSome_some] at k7d ⊢
          obtain ⟨c7, f7, l7⟩ := k7d.rules
          go_wp2_with fail
          clear c7 f7 l7
          go_roundw
          case rel =>
            refine ⟨j + 1, by rw [← hx.out]; congr 1; push_cast; omega, hj1.out, by rw [hext.out]; rfl, (k3d.far (by dsimp only; omega) _).far (by dsimp only; omega) _, (k6d.far (by dsimp only; omega) _).far (by dsimp only; omega) _, ?_, ((hbd.setCell (p := ⟨w.heap.size + 1 + 1, 0, none⟩) (by dsimp only; omega) _).setCell (p := ⟨w.heap.size + 1 + 1, 1, none⟩) (by dsimp only; omega) _)⟩
            rw [hext.out]
            exact (k7d.set_ 0 _).set_ 1 _
          case measure => simp [intOf]; omega
      · rw [if_neg hv, List.append_nil] at hstep
        have hv' : v.to < v.fr := by omega
        go_wp2_with fail
        go_roundw
        case rel =>
          refine ⟨j + 1, by rw [← hx.out]; congr 1; push_cast; omega, hj1.out, ?_, k3d, k6d, ?_, hbd⟩
          · rw [hstep.out, ho.out]
          · rw [hstep.out, ho.out]; exact k7d
        case measure => simp [intOf]; omega
    · obtain rfl : j = nX r := by have : ¬ j < nX r := fun h => hlt (hjx.1 h); omega
      have hv : Hid (optB (extO (rowsTo r (nX r)) p q) = extB r p q) := rfl
      rw [hv.out] at k7
      clear hjx hj
      simp only [regA] at k3
      obtain ⟨c3, f3, l3⟩ := k3.rules
      obtain ⟨c7, f7, l7⟩ := k7.rules
      have kz := (k6.set_ 0 (.int .i64 (extB r p q).lo)).set_ 1 (.int .i64 (extB r p q).hi)
      have bz := (hb.setCell (p := ⟨w.heap.size + 1, 0, none⟩) (by dsimp only; omega) (.int .i64 (extB r p q).lo)).setCell (p := ⟨w.heap.size + 1, 1, none⟩) (by dsimp only; omega) (.int .i64 (extB r p q).hi)
      obtain ⟨wz, hwz⟩ : ∃ x, x = (wr.setCell ⟨w.heap.size + 1, 0, none⟩ (.int .i64 (extB r p q).lo)).setCell ⟨w.heap.size + 1, 1, none⟩ (.int .i64 (extB r p q).hi) := ⟨_, rfl⟩
      rw [← hwz] at kz bz
      obtain ⟨c6, f6, l6⟩ := k6.rules
      go_wp2
      rw [← hwz]
      clear hwz c3 f3 l3 c6 f6 l6 c7 f7 l7
      obtain ⟨c6, f6, l6⟩ := kz.rules
      exact bodyPost_ret (v := .agg #[.int .i64 (extB r p q).lo, .int .i64 (extB r p q).hi]) (by simp [results, Tryz.results111, go_sem, c6]) rfl ⟨rfl, bz⟩
end Go.Proofs.YtjiaepphnddpoaaGreat
namespace Go.Proofs.YtjiaepphnddpoaaGreat
set_option linter.unusedSimpArgs false
set_option linter.unusedVariables false
open Go.RowKit Go.Shelf
def bigB (b : Bnd) : Prop := -1000000000 ≤ b.lo ∧ b.lo ≤ 1000000000 ∧ -1000000000 ≤ b.hi ∧ b.hi ≤ 1000000000
theorem extO_big {p q : Int} : ∀ (l : List RRow) (o : Option Bnd), (∀ w ∈ l, -1000000000 ≤ p * w.x + q * w.fr ∧ p * w.x + q * w.fr ≤ 1000000000 ∧ -1000000000 ≤ p * w.x + q * w.to ∧ p * w.x + q * w.to ≤ 1000000000) → (∀ b, o = some b → bigB b) →
    ∀ b, l.foldl (fun o w => addE o (p * w.x + q * w.fr, p * w.x + q * w.to)) o = some b → bigB b
  | [], o, _, ho, b, e => ho b e
  | w :: l, o, hl, ho, b, e => by
    refine extO_big l _ (fun v hv => hl v (List.mem_cons_of_mem _ hv)) (fun b' e' => ?_) b e
    have hw := hl w (List.mem_cons_self ..)
    cases o with
    | none =>
      simp only [addE, Option.some.injEq] at e'
      subst e'
      unfold bigB
      simp only
      omega
    | some g =>
      have hg := ho g rfl
      unfold bigB at hg
      simp only [addE, Option.some.injEq] at e'
      subst e'
      unfold bigB
      simp only
      omega
theorem extB_big {r : Reg} {p q : Int} (hr : okReg r = true) (hp : -2000 ≤ p ∧ p ≤ 2000) (hq : -2000 ≤ q ∧ q ≤ 2000) : bigB (extB r p q) := by
  unfold extB
  cases h : extO (rowsL r) p q with
  | none => simp [bigB]
  | some b =>
    refine extO_big (rowsL r) none (fun w hw => ?_) (fun _ e => by cases e) b h
    obtain ⟨j, hj, rfl, hle⟩ := rowsTo_mem hw
    simp only [okReg, Bool.and_eq_true, okBnd, decide_eq_true_eq] at hr
    obtain ⟨⟨⟨⟨x1, x2, x3⟩, ⟨y1, y2, y3⟩⟩, _⟩, _⟩ := hr
    have hx : j < (r.x.hi + 1 - r.x.lo).toNat := hj
    have e1 : (rowB r (r.x.lo + j)).fr = max r.y.lo (max (r.s.lo - (r.x.lo + j)) (r.x.lo + j - r.d.hi)) := rfl
    have e2 : (rowB r (r.x.lo + j)).to = min r.y.hi (min (r.s.hi - (r.x.lo + j)) (r.x.lo + j - r.d.lo)) := rfl
    have e3 : (rowB r (r.x.lo + j)).x = r.x.lo + j := rfl
    generalize rowB r (r.x.lo + j) = v at *
    have ha := smul_bd hp.1 hp.2 (show -32768 ≤ v.x by omega) (show v.x ≤ 32768 by omega)
    have hb1 := smul_bd hq.1 hq.2 (show -32768 ≤ v.fr by omega) (show v.fr ≤ 32768 by omega)
    have hb2 := smul_bd hq.1 hq.2 (show -32768 ≤ v.to by omega) (show v.to ≤ 32768 by omega)
    omega
def turnK (r : Reg) (h : Hdg) : Nat → Reg
  | 0 => noReg
  | 1 => { noReg with x := turnB r h.c h.p (-h.q) }
  | 2 => { noReg with x := turnB r h.c h.p (-h.q), y := turnB r h.c h.q h.p }
  | 3 => { noReg with x := turnB r h.c h.p (-h.q), y := turnB r h.c h.q h.p, s := turnB r h.c (h.p + h.q) (h.p - h.q) }
  | _ => turnedS r h
set_option maxRecDepth 100000 in
set_option maxHeartbeats 4000000 in
theorem turned_any (r : Reg) (h : Hdg) (w : World) (hr : okReg r = true) (hh : okHdg h = true) :
    Calls Tryz.prog 64 #[.agg (regA r), .agg #[.int .i64 h.p, .int .i64 h.q, .int .i64 h.c]] w fun e w' => e = .returned (.tuple #[.agg (regA (turnedS r h)), .bool (inPlane (turnedS r h))]) ∧ Below w.heap.size w w' := by
  obtain ⟨h1, h2, h3, h4, h5, h6, -⟩ := of_decide_eq_true hh
  have i0 : ∀ (a b c d a' b' c' d' : Value) w, (Instr.index 176 (.agg #[a, a', b, b', c, c', d, d']) (.int .i64 0)).run Tryz.prog w = .ok (.agg #[a, a']) w := fun _ _ _ _ _ _ _ _ _ => by kernel_rfl
  have i1 : ∀ (a b c d a' b' c' d' : Value) w, (Instr.index 176 (.agg #[a, a', b, b', c, c', d, d']) (.int .i64 1)).run Tryz.prog w = .ok (.agg #[b, b']) w := fun _ _ _ _ _ _ _ _ _ => by kernel_rfl
  have i2 : ∀ (a b c d a' b' c' d' : Value) w, (Instr.index 176 (.agg #[a, a', b, b', c, c', d, d']) (.int .i64 2)).run Tryz.prog w = .ok (.agg #[c, c']) w := fun _ _ _ _ _ _ _ _ _ => by kernel_rfl
  have i3 : ∀ (a b c d a' b' c' d' : Value) w, (Instr.index 176 (.agg #[a, a', b, b', c, c', d, d']) (.int .i64 3)).run Tryz.prog w = .ok (.agg #[d, d']) w := fun _ _ _ _ _ _ _ _ _ => by kernel_rfl
  have t1 := IntWalk.i64_in (-h.q) (by omega)
  have t2 := IntWalk.i64_in (h.p + h.q) (by omega)
  have t3 := IntWalk.i64_in (h.p - h.q) (by omega)
  have t4 := IntWalk.i64_in (-h.q - h.p) (by omega)
  replace hr := Lib.hid hr
  clear hh
  simp only [regA]
  go_enter Tryz.func64, Tryz.ntmps64
  go_wp2_with fail
  go_loopw [45] (fun j wr => ∃ k : Nat, j = jv k ∧ k ≤ 4 ∧ Blk wr w.heap.size 45 (regA r) ∧ Blk wr (w.heap.size + 1) 47 #[.int .i64 h.p, .int .i64 h.q, .int .i64 h.c] ∧ Blk wr (w.heap.size + 1 + 1) 45 (regA noReg) ∧ Blk wr (w.heap.size + 1 + 1 + 1) 170 (regA (turnK r h k)) ∧ Below w.heap.size w wr) (fun j wr => 4 - (intOf j).toNat)
  case atStart =>
    exact ⟨0, rfl, by omega, (((Blk.newAt rfl).alloc _).alloc _).alloc _, ((Blk.newAt (by simp)).alloc _).alloc _, (Blk.newAt (by simp)).alloc _, Blk.newAt (by simp), ((((Below.refl w.heap.size w).alloc (Nat.le_refl _) _).alloc (by simp) _).alloc (by simp; omega) _).alloc (by simp; omega) _⟩
  case round =>
    obtain ⟨k, rfl, hk, k2, k3, k4, k6, hb⟩ := hrel
    match k, hk with
    | 0, _ =>
      rw [show jv 0 = .int .i64 0 from rfl]
      have hext := fun W => extremes_any r h.p (-h.q) W hr.out (by omega) (by omega)
      have hbig := extB_big (r := r) (p := h.p) (q := (-h.q)) hr.out (by omega) (by omega)
      obtain ⟨B, hB⟩ : ∃ B, extB r h.p (-h.q) = B := ⟨_, rfl⟩
      simp only [hB] at hext hbig
      have hT : Hid (turnB r h.c h.p (-h.q) = ⟨floorS B.lo h.c, ceilS B.hi h.c⟩) := by show _ = _; unfold turnB; rw [hB]
      replace hB := Lib.hid hB
      unfold bigB at hbig
      have hf := fun W => floor_any B.lo h.c W (by omega) (by omega) (by omega) (by omega)
      have hg := fun W => ceil_any B.hi h.c W (by omega) (by omega) (by omega) (by omega)
      clear hbig
      simp only [regA] at hext
      simp only [turnK, regA, noReg] at k6
      have k2' := k2
      simp only [regA] at k2
      obtain ⟨c2, f2, l2⟩ := k2.rules
      obtain ⟨c3, f3, l3⟩ := k3.rules
      go_wp2_with fail
      refine (hext _).mono ?_
      rintro e w1 ⟨rfl, hb1⟩
      clear hext c2 f2 l2 c3 f3 l3 k2
      have ba := (Below.refl wr.heap.size wr).alloc (Nat.le_refl _) (.cells #[.int .i64 h.p, .int .i64 (-h.q)] 69)
      replace hb1 := ba.trans (hb1.mono ba.size)
      replace k2 := k2'.below hb1
      replace k3 := k3.below hb1
      replace k4 := k4.below hb1
      replace k6 := k6.below hb1
      replace hb := hb.trans (hb1.mono hb.size)
      clear hb1 ba k2'
      go_wp2_with fail
      have n6 := k6.lt
      have k9 := Blk.new w1 24 #[.int .i64 B.lo, .int .i64 B.hi]
      replace k2 := k2.alloc (.cells #[.int .i64 B.lo, .int .i64 B.hi] 24)
      replace k3 := k3.alloc (.cells #[.int .i64 B.lo, .int .i64 B.hi] 24)
      replace k4 := k4.alloc (.cells #[.int .i64 B.lo, .int .i64 B.hi] 24)
      replace k6 := k6.alloc (.cells #[.int .i64 B.lo, .int .i64 B.hi] 24)
      replace hb := hb.alloc hb.size (.cells #[.int .i64 B.lo, .int .i64 B.hi] 24)
      generalize hW : w1.alloc (.cells #[.int .i64 B.lo, .int .i64 B.hi] 24) = W at *
      refine wp_held_np (fun w' => (∀ j, w'.cell? ⟨w1.heap.size, j, none⟩ = #[Value.int .i64 B.lo, .int .i64 B.hi][j]?) ∧ (∀ j, w'.cell? ⟨w.heap.size + 1, j, none⟩ = #[Value.int .i64 h.p, .int .i64 h.q, .int .i64 h.c][j]?)) (by kernel_rfl) ?_
      have hS : (fun w' : World => (∀ j, w'.cell? ⟨w1.heap.size, j, none⟩ = #[Value.int .i64 B.lo, .int .i64 B.hi][j]?) ∧ (∀ j, w'.cell? ⟨w.heap.size + 1, j, none⟩ = #[Value.int .i64 h.p, .int .i64 h.q, .int .i64 h.c][j]?)) W.drew := ⟨k9.cell, k3.cell⟩
      replace k2 := k2.drew
      replace k3 := k3.drew
      replace k4 := k4.drew
      replace k6 := k6.drew
      replace k9 := k9.drew
      replace hb := hb.drew
      clear hW
      generalize W.drew = V at *
      refine held_take (i := 0) (v := ?_) 55 rfl rfl (by kernel_rfl) (by kernel_rfl) (by kernel_rfl) (fun _ _ _ h => h) (Or.inl ⟨by rfl, ?_⟩) hS ?_
      rotate_left 1
      · intro w' hSw
        try dsimp only at hSw
        obtain ⟨q1, q2⟩ := hSw
        go_simp
        all_goals with_reducible rfl
      try simp only [Act.put, List.setIfInBounds_toArray, List.set_cons_zero, List.set_cons_succ]
      refine held_take (i := 1) (v := ?_) 56 rfl rfl (by kernel_rfl) (by kernel_rfl) (by kernel_rfl) (fun _ _ _ h => h) (Or.inl ⟨by rfl, ?_⟩) hS ?_
      rotate_left 1
      · intro w' hSw
        try dsimp only at hSw
        obtain ⟨q1, q2⟩ := hSw
        go_simp
        all_goals with_reducible rfl
      try simp only [Act.put, List.setIfInBounds_toArray, List.set_cons_zero, List.set_cons_succ]
      refine held_take (i := 2) (v := ?_) 57 rfl rfl (by kernel_rfl) (by kernel_rfl) (by kernel_rfl) (fun _ _ _ h => h) (Or.inl ⟨by rfl, ?_⟩) hS ?_
      rotate_left 1
      · intro w' hSw
        try dsimp only at hSw
        obtain ⟨q1, q2⟩ := hSw
        go_simp
        all_goals with_reducible rfl
      try simp only [Act.put, List.setIfInBounds_toArray, List.set_cons_zero, List.set_cons_succ]
      refine held_take (i := 3) (v := ?_) 58 rfl rfl (by kernel_rfl) (by kernel_rfl) (by kernel_rfl) (fun _ _ _ h => h) (Or.inl ⟨by rfl, ?_⟩) hS ?_
      rotate_left 1
      · intro w' hSw
        try dsimp only at hSw
        obtain ⟨q1, q2⟩ := hSw
        go_simp
        all_goals with_reducible rfl
      try simp only [Act.put, List.setIfInBounds_toArray, List.set_cons_zero, List.set_cons_succ]
      refine held_take (i := 4) (v := ?_) 59 rfl rfl (by kernel_rfl) (by kernel_rfl) (by kernel_rfl) (fun _ _ _ h => h) (Or.inl ⟨by rfl, ?_⟩) hS ?_
      rotate_left 1
      · intro w' hSw
        try dsimp only at hSw
        obtain ⟨q1, q2⟩ := hSw
        go_simp
        all_goals with_reducible rfl
      try simp only [Act.put, List.setIfInBounds_toArray, List.set_cons_zero, List.set_cons_succ]
      refine held_take (i := 6) (v := ?_) 61 rfl rfl (by kernel_rfl) (by kernel_rfl) (by kernel_rfl) (fun _ _ _ h => h) (Or.inl ⟨by rfl, ?_⟩) hS ?_
      rotate_left 1
      · intro w' hSw
        try dsimp only at hSw
        obtain ⟨q1, q2⟩ := hSw
        go_simp
        all_goals with_reducible rfl
      try simp only [Act.put, List.setIfInBounds_toArray, List.set_cons_zero, List.set_cons_succ]
      refine held_take (i := 7) (v := ?_) 62 rfl rfl (by kernel_rfl) (by kernel_rfl) (by kernel_rfl) (fun _ _ _ h => h) (Or.inl ⟨by rfl, ?_⟩) hS ?_
      rotate_left 1
      · intro w' hSw
        try dsimp only at hSw
        obtain ⟨q1, q2⟩ := hSw
        go_simp
        all_goals with_reducible rfl
      try simp only [Act.put, List.setIfInBounds_toArray, List.set_cons_zero, List.set_cons_succ]
      refine held_take (i := 8) (v := ?_) 63 rfl rfl (by kernel_rfl) (by kernel_rfl) (by kernel_rfl) (fun _ _ _ h => h) (Or.inl ⟨by rfl, ?_⟩) hS ?_
      rotate_left 1
      · intro w' hSw
        try dsimp only at hSw
        obtain ⟨q1, q2⟩ := hSw
        go_simp
        all_goals with_reducible rfl
      try simp only [Act.put, List.setIfInBounds_toArray, List.set_cons_zero, List.set_cons_succ]
      refine held_take (i := 9) (v := ?_) 64 rfl rfl (by kernel_rfl) (by kernel_rfl) (by kernel_rfl) (fun _ _ _ h => h) (Or.inl ⟨by rfl, ?_⟩) hS ?_
      rotate_left 1
      · intro w' hSw
        try dsimp only at hSw
        obtain ⟨q1, q2⟩ := hSw
        go_simp
        all_goals with_reducible rfl
      try simp only [Act.put, List.setIfInBounds_toArray, List.set_cons_zero, List.set_cons_succ]
      refine held_one (i := 5) (by kernel_rfl) rfl rfl (fun K hK => ?_)
      go_simp
      refine (hf _).mono ?_
      rintro e w' ⟨rfl, rfl⟩
      refine hK _ _ hS ?_
      clear hK K
      try simp only [Act.put, List.setIfInBounds_toArray, List.set_cons_zero, List.set_cons_succ]
      refine held_one (i := 10) (by kernel_rfl) rfl rfl (fun K hK => ?_)
      go_simp
      refine (hg _).mono ?_
      rintro e w' ⟨rfl, rfl⟩
      refine hK _ _ hS ?_
      clear hK K
      try simp only [Act.put, List.setIfInBounds_toArray, List.set_cons_zero, List.set_cons_succ]
      refine held_take (i := 11) (v := ?_) 66 rfl rfl (by kernel_rfl) (by kernel_rfl) (by kernel_rfl) (fun _ _ _ h => h) (Or.inl ⟨by rfl, ?_⟩) hS ?_
      rotate_left 1
      · intro w' hSw
        try dsimp only at hSw
        obtain ⟨q1, q2⟩ := hSw
        go_simp
        all_goals with_reducible rfl
      try simp only [Act.put, List.setIfInBounds_toArray, List.set_cons_zero, List.set_cons_succ]
      refine held_take (i := 12) (v := ?_) 67 rfl rfl (by kernel_rfl) (by kernel_rfl) (by kernel_rfl) (fun _ _ _ h => h) (Or.inl ⟨by rfl, ?_⟩) hS ?_
      rotate_left 1
      · intro w' hSw
        try dsimp only at hSw
        obtain ⟨q1, q2⟩ := hSw
        go_simp
        all_goals with_reducible rfl
      try simp only [Act.put, List.setIfInBounds_toArray, List.set_cons_zero, List.set_cons_succ]
      refine held_one (i := 13) (by kernel_rfl) rfl rfl (fun K hK => ?_)
      obtain ⟨c6, f6, l6⟩ := k6.rules
      go_simp
      have k9z := (k9.far (p := ⟨w.heap.size + 1 + 1 + 1, 0, none⟩) (by dsimp only; omega) (.int .i64 (floorS B.lo h.c))).far (p := ⟨w.heap.size + 1 + 1 + 1, 1, none⟩) (by dsimp only; omega) (.int .i64 (ceilS B.hi h.c))
      have k3z := (k3.far (p := ⟨w.heap.size + 1 + 1 + 1, 0, none⟩) (by dsimp only; omega) (.int .i64 (floorS B.lo h.c))).far (p := ⟨w.heap.size + 1 + 1 + 1, 1, none⟩) (by dsimp only; omega) (.int .i64 (ceilS B.hi h.c))
      refine hK _ _ ⟨k9z.cell, k3z.cell⟩ ?_
      clear hK K c6 f6 l6
      refine wpAnyH_done (by kernel_rfl) (noPanic_normal ?_) _
      go_wp2_with fail
      go_roundw
      case rel =>
        refine ⟨0 + 1, rfl, by omega, (k2.far (by dsimp only; omega) _).far (by dsimp only; omega) _, k3z, (k4.far (by dsimp only; omega) _).far (by dsimp only; omega) _, ?_, (hb.setCell (p := ⟨w.heap.size + 1 + 1 + 1, 0, none⟩) (by dsimp only; omega) _).setCell (p := ⟨w.heap.size + 1 + 1 + 1, 1, none⟩) (by dsimp only; omega) _⟩
        have k6z := (k6.set_ 0 (.int .i64 (floorS B.lo h.c))).set_ 1 (.int .i64 (ceilS B.hi h.c))
        simp only [turnK, turnedS, regA, hT.out, noReg]
        exact k6z
      case measure => simp [intOf]
    | 1, _ =>
      rw [show jv 1 = .int .i64 1 from rfl]
      have hext := fun W => extremes_any r h.q h.p W hr.out (by omega) (by omega)
      have hbig := extB_big (r := r) (p := h.q) (q := h.p) hr.out (by omega) (by omega)
      obtain ⟨B, hB⟩ : ∃ B, extB r h.q h.p = B := ⟨_, rfl⟩
      simp only [hB] at hext hbig
      have hT : Hid (turnB r h.c h.q h.p = ⟨floorS B.lo h.c, ceilS B.hi h.c⟩) := by show _ = _; unfold turnB; rw [hB]
      replace hB := Lib.hid hB
      unfold bigB at hbig
      have hf := fun W => floor_any B.lo h.c W (by omega) (by omega) (by omega) (by omega)
      have hg := fun W => ceil_any B.hi h.c W (by omega) (by omega) (by omega) (by omega)
      clear hbig
      simp only [regA] at hext
      simp only [turnK, regA, noReg] at k6
      have k2' := k2
      simp only [regA] at k2
      obtain ⟨c2, f2, l2⟩ := k2.rules
      obtain ⟨c3, f3, l3⟩ := k3.rules
      go_wp2_with fail
      refine (hext _).mono ?_
      rintro e w1 ⟨rfl, hb1⟩
      clear hext c2 f2 l2 c3 f3 l3 k2
      have ba := (Below.refl wr.heap.size wr).alloc (Nat.le_refl _) (.cells #[.int .i64 h.q, .int .i64 h.p] 69)
      replace hb1 := ba.trans (hb1.mono ba.size)
      replace k2 := k2'.below hb1
      replace k3 := k3.below hb1
      replace k4 := k4.below hb1
      replace k6 := k6.below hb1
      replace hb := hb.trans (hb1.mono hb.size)
      clear hb1 ba k2'
      go_wp2_with fail
      have n6 := k6.lt
      have k9 := Blk.new w1 24 #[.int .i64 B.lo, .int .i64 B.hi]
      replace k2 := k2.alloc (.cells #[.int .i64 B.lo, .int .i64 B.hi] 24)
      replace k3 := k3.alloc (.cells #[.int .i64 B.lo, .int .i64 B.hi] 24)
      replace k4 := k4.alloc (.cells #[.int .i64 B.lo, .int .i64 B.hi] 24)
      replace k6 := k6.alloc (.cells #[.int .i64 B.lo, .int .i64 B.hi] 24)
      replace hb := hb.alloc hb.size (.cells #[.int .i64 B.lo, .int .i64 B.hi] 24)
      generalize hW : w1.alloc (.cells #[.int .i64 B.lo, .int .i64 B.hi] 24) = W at *
      refine wp_held_np (fun w' => (∀ j, w'.cell? ⟨w1.heap.size, j, none⟩ = #[Value.int .i64 B.lo, .int .i64 B.hi][j]?) ∧ (∀ j, w'.cell? ⟨w.heap.size + 1, j, none⟩ = #[Value.int .i64 h.p, .int .i64 h.q, .int .i64 h.c][j]?)) (by kernel_rfl) ?_
      have hS : (fun w' : World => (∀ j, w'.cell? ⟨w1.heap.size, j, none⟩ = #[Value.int .i64 B.lo, .int .i64 B.hi][j]?) ∧ (∀ j, w'.cell? ⟨w.heap.size + 1, j, none⟩ = #[Value.int .i64 h.p, .int .i64 h.q, .int .i64 h.c][j]?)) W.drew := ⟨k9.cell, k3.cell⟩
      replace k2 := k2.drew
      replace k3 := k3.drew
      replace k4 := k4.drew
      replace k6 := k6.drew
      replace k9 := k9.drew
      replace hb := hb.drew
      clear hW
      generalize W.drew = V at *
      refine held_take (i := 0) (v := ?_) 55 rfl rfl (by kernel_rfl) (by kernel_rfl) (by kernel_rfl) (fun _ _ _ h => h) (Or.inl ⟨by rfl, ?_⟩) hS ?_
      rotate_left 1
      · intro w' hSw
        try dsimp only at hSw
        obtain ⟨q1, q2⟩ := hSw
        go_simp
        all_goals with_reducible rfl
      try simp only [Act.put, List.setIfInBounds_toArray, List.set_cons_zero, List.set_cons_succ]
      refine held_take (i := 1) (v := ?_) 56 rfl rfl (by kernel_rfl) (by kernel_rfl) (by kernel_rfl) (fun _ _ _ h => h) (Or.inl ⟨by rfl, ?_⟩) hS ?_
      rotate_left 1
      · intro w' hSw
        try dsimp only at hSw
        obtain ⟨q1, q2⟩ := hSw
        go_simp
        all_goals with_reducible rfl
      try simp only [Act.put, List.setIfInBounds_toArray, List.set_cons_zero, List.set_cons_succ]
      refine held_take (i := 2) (v := ?_) 57 rfl rfl (by kernel_rfl) (by kernel_rfl) (by kernel_rfl) (fun _ _ _ h => h) (Or.inl ⟨by rfl, ?_⟩) hS ?_
      rotate_left 1
      · intro w' hSw
        try dsimp only at hSw
        obtain ⟨q1, q2⟩ := hSw
        go_simp
        all_goals with_reducible rfl
      try simp only [Act.put, List.setIfInBounds_toArray, List.set_cons_zero, List.set_cons_succ]
      refine held_take (i := 3) (v := ?_) 58 rfl rfl (by kernel_rfl) (by kernel_rfl) (by kernel_rfl) (fun _ _ _ h => h) (Or.inl ⟨by rfl, ?_⟩) hS ?_
      rotate_left 1
      · intro w' hSw
        try dsimp only at hSw
        obtain ⟨q1, q2⟩ := hSw
        go_simp
        all_goals with_reducible rfl
      try simp only [Act.put, List.setIfInBounds_toArray, List.set_cons_zero, List.set_cons_succ]
      refine held_take (i := 4) (v := ?_) 59 rfl rfl (by kernel_rfl) (by kernel_rfl) (by kernel_rfl) (fun _ _ _ h => h) (Or.inl ⟨by rfl, ?_⟩) hS ?_
      rotate_left 1
      · intro w' hSw
        try dsimp only at hSw
        obtain ⟨q1, q2⟩ := hSw
        go_simp
        all_goals with_reducible rfl
      try simp only [Act.put, List.setIfInBounds_toArray, List.set_cons_zero, List.set_cons_succ]
      refine held_take (i := 6) (v := ?_) 61 rfl rfl (by kernel_rfl) (by kernel_rfl) (by kernel_rfl) (fun _ _ _ h => h) (Or.inl ⟨by rfl, ?_⟩) hS ?_
      rotate_left 1
      · intro w' hSw
        try dsimp only at hSw
        obtain ⟨q1, q2⟩ := hSw
        go_simp
        all_goals with_reducible rfl
      try simp only [Act.put, List.setIfInBounds_toArray, List.set_cons_zero, List.set_cons_succ]
      refine held_take (i := 7) (v := ?_) 62 rfl rfl (by kernel_rfl) (by kernel_rfl) (by kernel_rfl) (fun _ _ _ h => h) (Or.inl ⟨by rfl, ?_⟩) hS ?_
      rotate_left 1
      · intro w' hSw
        try dsimp only at hSw
        obtain ⟨q1, q2⟩ := hSw
        go_simp
        all_goals with_reducible rfl
      try simp only [Act.put, List.setIfInBounds_toArray, List.set_cons_zero, List.set_cons_succ]
      refine held_take (i := 8) (v := ?_) 63 rfl rfl (by kernel_rfl) (by kernel_rfl) (by kernel_rfl) (fun _ _ _ h => h) (Or.inl ⟨by rfl, ?_⟩) hS ?_
      rotate_left 1
      · intro w' hSw
        try dsimp only at hSw
        obtain ⟨q1, q2⟩ := hSw
        go_simp
        all_goals with_reducible rfl
      try simp only [Act.put, List.setIfInBounds_toArray, List.set_cons_zero, List.set_cons_succ]
      refine held_take (i := 9) (v := ?_) 64 rfl rfl (by kernel_rfl) (by kernel_rfl) (by kernel_rfl) (fun _ _ _ h => h) (Or.inl ⟨by rfl, ?_⟩) hS ?_
      rotate_left 1
      · intro w' hSw
        try dsimp only at hSw
        obtain ⟨q1, q2⟩ := hSw
        go_simp
        all_goals with_reducible rfl
      try simp only [Act.put, List.setIfInBounds_toArray, List.set_cons_zero, List.set_cons_succ]
      refine held_one (i := 5) (by kernel_rfl) rfl rfl (fun K hK => ?_)
      go_simp
      refine (hf _).mono ?_
      rintro e w' ⟨rfl, rfl⟩
      refine hK _ _ hS ?_
      clear hK K
      try simp only [Act.put, List.setIfInBounds_toArray, List.set_cons_zero, List.set_cons_succ]
      refine held_one (i := 10) (by kernel_rfl) rfl rfl (fun K hK => ?_)
      go_simp
      refine (hg _).mono ?_
      rintro e w' ⟨rfl, rfl⟩
      refine hK _ _ hS ?_
      clear hK K
      try simp only [Act.put, List.setIfInBounds_toArray, List.set_cons_zero, List.set_cons_succ]
      refine held_take (i := 11) (v := ?_) 66 rfl rfl (by kernel_rfl) (by kernel_rfl) (by kernel_rfl) (fun _ _ _ h => h) (Or.inl ⟨by rfl, ?_⟩) hS ?_
      rotate_left 1
      · intro w' hSw
        try dsimp only at hSw
        obtain ⟨q1, q2⟩ := hSw
        go_simp
        all_goals with_reducible rfl
      try simp only [Act.put, List.setIfInBounds_toArray, List.set_cons_zero, List.set_cons_succ]
      refine held_take (i := 12) (v := ?_) 67 rfl rfl (by kernel_rfl) (by kernel_rfl) (by kernel_rfl) (fun _ _ _ h => h) (Or.inl ⟨by rfl, ?_⟩) hS ?_
      rotate_left 1
      · intro w' hSw
        try dsimp only at hSw
        obtain ⟨q1, q2⟩ := hSw
        go_simp
        all_goals with_reducible rfl
      try simp only [Act.put, List.setIfInBounds_toArray, List.set_cons_zero, List.set_cons_succ]
      refine held_one (i := 13) (by kernel_rfl) rfl rfl (fun K hK => ?_)
      obtain ⟨c6, f6, l6⟩ := k6.rules
      go_simp
      have k9z := (k9.far (p := ⟨w.heap.size + 1 + 1 + 1, 2, none⟩) (by dsimp only; omega) (.int .i64 (floorS B.lo h.c))).far (p := ⟨w.heap.size + 1 + 1 + 1, 3, none⟩) (by dsimp only; omega) (.int .i64 (ceilS B.hi h.c))
      have k3z := (k3.far (p := ⟨w.heap.size + 1 + 1 + 1, 2, none⟩) (by dsimp only; omega) (.int .i64 (floorS B.lo h.c))).far (p := ⟨w.heap.size + 1 + 1 + 1, 3, none⟩) (by dsimp only; omega) (.int .i64 (ceilS B.hi h.c))
      refine hK _ _ ⟨k9z.cell, k3z.cell⟩ ?_
      clear hK K c6 f6 l6
      refine wpAnyH_done (by kernel_rfl) (noPanic_normal ?_) _
      go_wp2_with fail
      go_roundw
      case rel =>
        refine ⟨1 + 1, rfl, by omega, (k2.far (by dsimp only; omega) _).far (by dsimp only; omega) _, k3z, (k4.far (by dsimp only; omega) _).far (by dsimp only; omega) _, ?_, (hb.setCell (p := ⟨w.heap.size + 1 + 1 + 1, 2, none⟩) (by dsimp only; omega) _).setCell (p := ⟨w.heap.size + 1 + 1 + 1, 3, none⟩) (by dsimp only; omega) _⟩
        have k6z := (k6.set_ 2 (.int .i64 (floorS B.lo h.c))).set_ 3 (.int .i64 (ceilS B.hi h.c))
        simp only [turnK, turnedS, regA, hT.out, noReg]
        exact k6z
      case measure => simp [intOf]
    | 2, _ =>
      rw [show jv 2 = .int .i64 2 from rfl]
      have hext := fun W => extremes_any r (h.p + h.q) (h.p - h.q) W hr.out (by omega) (by omega)
      have hbig := extB_big (r := r) (p := (h.p + h.q)) (q := (h.p - h.q)) hr.out (by omega) (by omega)
      obtain ⟨B, hB⟩ : ∃ B, extB r (h.p + h.q) (h.p - h.q) = B := ⟨_, rfl⟩
      simp only [hB] at hext hbig
      have hT : Hid (turnB r h.c (h.p + h.q) (h.p - h.q) = ⟨floorS B.lo h.c, ceilS B.hi h.c⟩) := by show _ = _; unfold turnB; rw [hB]
      replace hB := Lib.hid hB
      unfold bigB at hbig
      have hf := fun W => floor_any B.lo h.c W (by omega) (by omega) (by omega) (by omega)
      have hg := fun W => ceil_any B.hi h.c W (by omega) (by omega) (by omega) (by omega)
      clear hbig
      simp only [regA] at hext
      simp only [turnK, regA, noReg] at k6
      have k2' := k2
      simp only [regA] at k2
      obtain ⟨c2, f2, l2⟩ := k2.rules
      obtain ⟨c3, f3, l3⟩ := k3.rules
      go_wp2_with fail
      refine (hext _).mono ?_
      rintro e w1 ⟨rfl, hb1⟩
      clear hext c2 f2 l2 c3 f3 l3 k2
      have ba := (Below.refl wr.heap.size wr).alloc (Nat.le_refl _) (.cells #[.int .i64 (h.p + h.q), .int .i64 (h.p - h.q)] 69)
      replace hb1 := ba.trans (hb1.mono ba.size)
      replace k2 := k2'.below hb1
      replace k3 := k3.below hb1
      replace k4 := k4.below hb1
      replace k6 := k6.below hb1
      replace hb := hb.trans (hb1.mono hb.size)
      clear hb1 ba k2'
      go_wp2_with fail
      have n6 := k6.lt
      have k9 := Blk.new w1 24 #[.int .i64 B.lo, .int .i64 B.hi]
      replace k2 := k2.alloc (.cells #[.int .i64 B.lo, .int .i64 B.hi] 24)
      replace k3 := k3.alloc (.cells #[.int .i64 B.lo, .int .i64 B.hi] 24)
      replace k4 := k4.alloc (.cells #[.int .i64 B.lo, .int .i64 B.hi] 24)
      replace k6 := k6.alloc (.cells #[.int .i64 B.lo, .int .i64 B.hi] 24)
      replace hb := hb.alloc hb.size (.cells #[.int .i64 B.lo, .int .i64 B.hi] 24)
      generalize hW : w1.alloc (.cells #[.int .i64 B.lo, .int .i64 B.hi] 24) = W at *
      refine wp_held_np (fun w' => (∀ j, w'.cell? ⟨w1.heap.size, j, none⟩ = #[Value.int .i64 B.lo, .int .i64 B.hi][j]?) ∧ (∀ j, w'.cell? ⟨w.heap.size + 1, j, none⟩ = #[Value.int .i64 h.p, .int .i64 h.q, .int .i64 h.c][j]?)) (by kernel_rfl) ?_
      have hS : (fun w' : World => (∀ j, w'.cell? ⟨w1.heap.size, j, none⟩ = #[Value.int .i64 B.lo, .int .i64 B.hi][j]?) ∧ (∀ j, w'.cell? ⟨w.heap.size + 1, j, none⟩ = #[Value.int .i64 h.p, .int .i64 h.q, .int .i64 h.c][j]?)) W.drew := ⟨k9.cell, k3.cell⟩
      replace k2 := k2.drew
      replace k3 := k3.drew
      replace k4 := k4.drew
      replace k6 := k6.drew
      replace k9 := k9.drew
      replace hb := hb.drew
      clear hW
      generalize W.drew = V at *
      refine held_take (i := 0) (v := ?_) 55 rfl rfl (by kernel_rfl) (by kernel_rfl) (by kernel_rfl) (fun _ _ _ h => h) (Or.inl ⟨by rfl, ?_⟩) hS ?_
      rotate_left 1
      · intro w' hSw
        try dsimp only at hSw
        obtain ⟨q1, q2⟩ := hSw
        go_simp
        all_goals with_reducible rfl
      try simp only [Act.put, List.setIfInBounds_toArray, List.set_cons_zero, List.set_cons_succ]
      refine held_take (i := 1) (v := ?_) 56 rfl rfl (by kernel_rfl) (by kernel_rfl) (by kernel_rfl) (fun _ _ _ h => h) (Or.inl ⟨by rfl, ?_⟩) hS ?_
      rotate_left 1
      · intro w' hSw
        try dsimp only at hSw
        obtain ⟨q1, q2⟩ := hSw
        go_simp
        all_goals with_reducible rfl
      try simp only [Act.put, List.setIfInBounds_toArray, List.set_cons_zero, List.set_cons_succ]
      refine held_take (i := 2) (v := ?_) 57 rfl rfl (by kernel_rfl) (by kernel_rfl) (by kernel_rfl) (fun _ _ _ h => h) (Or.inl ⟨by rfl, ?_⟩) hS ?_
      rotate_left 1
      · intro w' hSw
        try dsimp only at hSw
        obtain ⟨q1, q2⟩ := hSw
        go_simp
        all_goals with_reducible rfl
      try simp only [Act.put, List.setIfInBounds_toArray, List.set_cons_zero, List.set_cons_succ]
      refine held_take (i := 3) (v := ?_) 58 rfl rfl (by kernel_rfl) (by kernel_rfl) (by kernel_rfl) (fun _ _ _ h => h) (Or.inl ⟨by rfl, ?_⟩) hS ?_
      rotate_left 1
      · intro w' hSw
        try dsimp only at hSw
        obtain ⟨q1, q2⟩ := hSw
        go_simp
        all_goals with_reducible rfl
      try simp only [Act.put, List.setIfInBounds_toArray, List.set_cons_zero, List.set_cons_succ]
      refine held_take (i := 4) (v := ?_) 59 rfl rfl (by kernel_rfl) (by kernel_rfl) (by kernel_rfl) (fun _ _ _ h => h) (Or.inl ⟨by rfl, ?_⟩) hS ?_
      rotate_left 1
      · intro w' hSw
        try dsimp only at hSw
        obtain ⟨q1, q2⟩ := hSw
        go_simp
        all_goals with_reducible rfl
      try simp only [Act.put, List.setIfInBounds_toArray, List.set_cons_zero, List.set_cons_succ]
      refine held_take (i := 6) (v := ?_) 61 rfl rfl (by kernel_rfl) (by kernel_rfl) (by kernel_rfl) (fun _ _ _ h => h) (Or.inl ⟨by rfl, ?_⟩) hS ?_
      rotate_left 1
      · intro w' hSw
        try dsimp only at hSw
        obtain ⟨q1, q2⟩ := hSw
        go_simp
        all_goals with_reducible rfl
      try simp only [Act.put, List.setIfInBounds_toArray, List.set_cons_zero, List.set_cons_succ]
      refine held_take (i := 7) (v := ?_) 62 rfl rfl (by kernel_rfl) (by kernel_rfl) (by kernel_rfl) (fun _ _ _ h => h) (Or.inl ⟨by rfl, ?_⟩) hS ?_
      rotate_left 1
      · intro w' hSw
        try dsimp only at hSw
        obtain ⟨q1, q2⟩ := hSw
        go_simp
        all_goals with_reducible rfl
      try simp only [Act.put, List.setIfInBounds_toArray, List.set_cons_zero, List.set_cons_succ]
      refine held_take (i := 8) (v := ?_) 63 rfl rfl (by kernel_rfl) (by kernel_rfl) (by kernel_rfl) (fun _ _ _ h => h) (Or.inl ⟨by rfl, ?_⟩) hS ?_
      rotate_left 1
      · intro w' hSw
        try dsimp only at hSw
        obtain ⟨q1, q2⟩ := hSw
        go_simp
        all_goals with_reducible rfl
      try simp only [Act.put, List.setIfInBounds_toArray, List.set_cons_zero, List.set_cons_succ]
      refine held_take (i := 9) (v := ?_) 64 rfl rfl (by kernel_rfl) (by kernel_rfl) (by kernel_rfl) (fun _ _ _ h => h) (Or.inl ⟨by rfl, ?_⟩) hS ?_
      rotate_left 1
      · intro w' hSw
        try dsimp only at hSw
        obtain ⟨q1, q2⟩ := hSw
        go_simp
        all_goals with_reducible rfl
      try simp only [Act.put, List.setIfInBounds_toArray, List.set_cons_zero, List.set_cons_succ]
      refine held_one (i := 5) (by kernel_rfl) rfl rfl (fun K hK => ?_)
      go_simp
      refine (hf _).mono ?_
      rintro e w' ⟨rfl, rfl⟩
      refine hK _ _ hS ?_
      clear hK K
      try simp only [Act.put, List.setIfInBounds_toArray, List.set_cons_zero, List.set_cons_succ]
      refine held_one (i := 10) (by kernel_rfl) rfl rfl (fun K hK => ?_)
      go_simp
      refine (hg _).mono ?_
      rintro e w' ⟨rfl, rfl⟩
      refine hK _ _ hS ?_
      clear hK K
      try simp only [Act.put, List.setIfInBounds_toArray, List.set_cons_zero, List.set_cons_succ]
      refine held_take (i := 11) (v := ?_) 66 rfl rfl (by kernel_rfl) (by kernel_rfl) (by kernel_rfl) (fun _ _ _ h => h) (Or.inl ⟨by rfl, ?_⟩) hS ?_
      rotate_left 1
      · intro w' hSw
        try dsimp only at hSw
        obtain ⟨q1, q2⟩ := hSw
        go_simp
        all_goals with_reducible rfl
      try simp only [Act.put, List.setIfInBounds_toArray, List.set_cons_zero, List.set_cons_succ]
      refine held_take (i := 12) (v := ?_) 67 rfl rfl (by kernel_rfl) (by kernel_rfl) (by kernel_rfl) (fun _ _ _ h => h) (Or.inl ⟨by rfl, ?_⟩) hS ?_
      rotate_left 1
      · intro w' hSw
        try dsimp only at hSw
        obtain ⟨q1, q2⟩ := hSw
        go_simp
        all_goals with_reducible rfl
      try simp only [Act.put, List.setIfInBounds_toArray, List.set_cons_zero, List.set_cons_succ]
      refine held_one (i := 13) (by kernel_rfl) rfl rfl (fun K hK => ?_)
      obtain ⟨c6, f6, l6⟩ := k6.rules
      go_simp
      have k9z := (k9.far (p := ⟨w.heap.size + 1 + 1 + 1, 4, none⟩) (by dsimp only; omega) (.int .i64 (floorS B.lo h.c))).far (p := ⟨w.heap.size + 1 + 1 + 1, 5, none⟩) (by dsimp only; omega) (.int .i64 (ceilS B.hi h.c))
      have k3z := (k3.far (p := ⟨w.heap.size + 1 + 1 + 1, 4, none⟩) (by dsimp only; omega) (.int .i64 (floorS B.lo h.c))).far (p := ⟨w.heap.size + 1 + 1 + 1, 5, none⟩) (by dsimp only; omega) (.int .i64 (ceilS B.hi h.c))
      refine hK _ _ ⟨k9z.cell, k3z.cell⟩ ?_
      clear hK K c6 f6 l6
      refine wpAnyH_done (by kernel_rfl) (noPanic_normal ?_) _
      go_wp2_with fail
      go_roundw
      case rel =>
        refine ⟨2 + 1, rfl, by omega, (k2.far (by dsimp only; omega) _).far (by dsimp only; omega) _, k3z, (k4.far (by dsimp only; omega) _).far (by dsimp only; omega) _, ?_, (hb.setCell (p := ⟨w.heap.size + 1 + 1 + 1, 4, none⟩) (by dsimp only; omega) _).setCell (p := ⟨w.heap.size + 1 + 1 + 1, 5, none⟩) (by dsimp only; omega) _⟩
        have k6z := (k6.set_ 4 (.int .i64 (floorS B.lo h.c))).set_ 5 (.int .i64 (ceilS B.hi h.c))
        simp only [turnK, turnedS, regA, hT.out, noReg]
        exact k6z
      case measure => simp [intOf]
    | 3, _ =>
      rw [show jv 3 = .int .i64 3 from rfl]
      have hext := fun W => extremes_any r (h.p - h.q) (-h.q - h.p) W hr.out (by omega) (by omega)
      have hbig := extB_big (r := r) (p := (h.p - h.q)) (q := (-h.q - h.p)) hr.out (by omega) (by omega)
      obtain ⟨B, hB⟩ : ∃ B, extB r (h.p - h.q) (-h.q - h.p) = B := ⟨_, rfl⟩
      simp only [hB] at hext hbig
      have hT : Hid (turnB r h.c (h.p - h.q) (-h.q - h.p) = ⟨floorS B.lo h.c, ceilS B.hi h.c⟩) := by show _ = _; unfold turnB; rw [hB]
      replace hB := Lib.hid hB
      unfold bigB at hbig
      have hf := fun W => floor_any B.lo h.c W (by omega) (by omega) (by omega) (by omega)
      have hg := fun W => ceil_any B.hi h.c W (by omega) (by omega) (by omega) (by omega)
      clear hbig
      simp only [regA] at hext
      simp only [turnK, regA, noReg] at k6
      have k2' := k2
      simp only [regA] at k2
      obtain ⟨c2, f2, l2⟩ := k2.rules
      obtain ⟨c3, f3, l3⟩ := k3.rules
      go_wp2_with fail
      refine (hext _).mono ?_
      rintro e w1 ⟨rfl, hb1⟩
      clear hext c2 f2 l2 c3 f3 l3 k2
      have ba := (Below.refl wr.heap.size wr).alloc (Nat.le_refl _) (.cells #[.int .i64 (h.p - h.q), .int .i64 (-h.q - h.p)] 69)
      replace hb1 := ba.trans (hb1.mono ba.size)
      replace k2 := k2'.below hb1
      replace k3 := k3.below hb1
      replace k4 := k4.below hb1
      replace k6 := k6.below hb1
      replace hb := hb.trans (hb1.mono hb.size)
      clear hb1 ba k2'
      go_wp2_with fail
      have n6 := k6.lt
      have k9 := Blk.new w1 24 #[.int .i64 B.lo, .int .i64 B.hi]
      replace k2 := k2.alloc (.cells #[.int .i64 B.lo, .int .i64 B.hi] 24)
      replace k3 := k3.alloc (.cells #[.int .i64 B.lo, .int .i64 B.hi] 24)
      replace k4 := k4.alloc (.cells #[.int .i64 B.lo, .int .i64 B.hi] 24)
      replace k6 := k6.alloc (.cells #[.int .i64 B.lo, .int .i64 B.hi] 24)
      replace hb := hb.alloc hb.size (.cells #[.int .i64 B.lo, .int .i64 B.hi] 24)
      generalize hW : w1.alloc (.cells #[.int .i64 B.lo, .int .i64 B.hi] 24) = W at *
      refine wp_held_np (fun w' => (∀ j, w'.cell? ⟨w1.heap.size, j, none⟩ = #[Value.int .i64 B.lo, .int .i64 B.hi][j]?) ∧ (∀ j, w'.cell? ⟨w.heap.size + 1, j, none⟩ = #[Value.int .i64 h.p, .int .i64 h.q, .int .i64 h.c][j]?)) (by kernel_rfl) ?_
      have hS : (fun w' : World => (∀ j, w'.cell? ⟨w1.heap.size, j, none⟩ = #[Value.int .i64 B.lo, .int .i64 B.hi][j]?) ∧ (∀ j, w'.cell? ⟨w.heap.size + 1, j, none⟩ = #[Value.int .i64 h.p, .int .i64 h.q, .int .i64 h.c][j]?)) W.drew := ⟨k9.cell, k3.cell⟩
      replace k2 := k2.drew
      replace k3 := k3.drew
      replace k4 := k4.drew
      replace k6 := k6.drew
      replace k9 := k9.drew
      replace hb := hb.drew
      clear hW
      generalize W.drew = V at *
      refine held_take (i := 0) (v := ?_) 55 rfl rfl (by kernel_rfl) (by kernel_rfl) (by kernel_rfl) (fun _ _ _ h => h) (Or.inl ⟨by rfl, ?_⟩) hS ?_
      rotate_left 1
      · intro w' hSw
        try dsimp only at hSw
        obtain ⟨q1, q2⟩ := hSw
        go_simp
        all_goals with_reducible rfl
      try simp only [Act.put, List.setIfInBounds_toArray, List.set_cons_zero, List.set_cons_succ]
      refine held_take (i := 1) (v := ?_) 56 rfl rfl (by kernel_rfl) (by kernel_rfl) (by kernel_rfl) (fun _ _ _ h => h) (Or.inl ⟨by rfl, ?_⟩) hS ?_
      rotate_left 1
      · intro w' hSw
        try dsimp only at hSw
        obtain ⟨q1, q2⟩ := hSw
        go_simp
        all_goals with_reducible rfl
      try simp only [Act.put, List.setIfInBounds_toArray, List.set_cons_zero, List.set_cons_succ]
      refine held_take (i := 2) (v := ?_) 57 rfl rfl (by kernel_rfl) (by kernel_rfl) (by kernel_rfl) (fun _ _ _ h => h) (Or.inl ⟨by rfl, ?_⟩) hS ?_
      rotate_left 1
      · intro w' hSw
        try dsimp only at hSw
        obtain ⟨q1, q2⟩ := hSw
        go_simp
        all_goals with_reducible rfl
      try simp only [Act.put, List.setIfInBounds_toArray, List.set_cons_zero, List.set_cons_succ]
      refine held_take (i := 3) (v := ?_) 58 rfl rfl (by kernel_rfl) (by kernel_rfl) (by kernel_rfl) (fun _ _ _ h => h) (Or.inl ⟨by rfl, ?_⟩) hS ?_
      rotate_left 1
      · intro w' hSw
        try dsimp only at hSw
        obtain ⟨q1, q2⟩ := hSw
        go_simp
        all_goals with_reducible rfl
      try simp only [Act.put, List.setIfInBounds_toArray, List.set_cons_zero, List.set_cons_succ]
      refine held_take (i := 4) (v := ?_) 59 rfl rfl (by kernel_rfl) (by kernel_rfl) (by kernel_rfl) (fun _ _ _ h => h) (Or.inl ⟨by rfl, ?_⟩) hS ?_
      rotate_left 1
      · intro w' hSw
        try dsimp only at hSw
        obtain ⟨q1, q2⟩ := hSw
        go_simp
        all_goals with_reducible rfl
      try simp only [Act.put, List.setIfInBounds_toArray, List.set_cons_zero, List.set_cons_succ]
      refine held_take (i := 6) (v := ?_) 61 rfl rfl (by kernel_rfl) (by kernel_rfl) (by kernel_rfl) (fun _ _ _ h => h) (Or.inl ⟨by rfl, ?_⟩) hS ?_
      rotate_left 1
      · intro w' hSw
        try dsimp only at hSw
        obtain ⟨q1, q2⟩ := hSw
        go_simp
        all_goals with_reducible rfl
      try simp only [Act.put, List.setIfInBounds_toArray, List.set_cons_zero, List.set_cons_succ]
      refine held_take (i := 7) (v := ?_) 62 rfl rfl (by kernel_rfl) (by kernel_rfl) (by kernel_rfl) (fun _ _ _ h => h) (Or.inl ⟨by rfl, ?_⟩) hS ?_
      rotate_left 1
      · intro w' hSw
        try dsimp only at hSw
        obtain ⟨q1, q2⟩ := hSw
        go_simp
        all_goals with_reducible rfl
      try simp only [Act.put, List.setIfInBounds_toArray, List.set_cons_zero, List.set_cons_succ]
      refine held_take (i := 8) (v := ?_) 63 rfl rfl (by kernel_rfl) (by kernel_rfl) (by kernel_rfl) (fun _ _ _ h => h) (Or.inl ⟨by rfl, ?_⟩) hS ?_
      rotate_left 1
      · intro w' hSw
        try dsimp only at hSw
        obtain ⟨q1, q2⟩ := hSw
        go_simp
        all_goals with_reducible rfl
      try simp only [Act.put, List.setIfInBounds_toArray, List.set_cons_zero, List.set_cons_succ]
      refine held_take (i := 9) (v := ?_) 64 rfl rfl (by kernel_rfl) (by kernel_rfl) (by kernel_rfl) (fun _ _ _ h => h) (Or.inl ⟨by rfl, ?_⟩) hS ?_
      rotate_left 1
      · intro w' hSw
        try dsimp only at hSw
        obtain ⟨q1, q2⟩ := hSw
        go_simp
        all_goals with_reducible rfl
      try simp only [Act.put, List.setIfInBounds_toArray, List.set_cons_zero, List.set_cons_succ]
      refine held_one (i := 5) (by kernel_rfl) rfl rfl (fun K hK => ?_)
      go_simp
      refine (hf _).mono ?_
      rintro e w' ⟨rfl, rfl⟩
      refine hK _ _ hS ?_
      clear hK K
      try simp only [Act.put, List.setIfInBounds_toArray, List.set_cons_zero, List.set_cons_succ]
      refine held_one (i := 10) (by kernel_rfl) rfl rfl (fun K hK => ?_)
      go_simp
      refine (hg _).mono ?_
      rintro e w' ⟨rfl, rfl⟩
      refine hK _ _ hS ?_
      clear hK K
      try simp only [Act.put, List.setIfInBounds_toArray, List.set_cons_zero, List.set_cons_succ]
      refine held_take (i := 11) (v := ?_) 66 rfl rfl (by kernel_rfl) (by kernel_rfl) (by kernel_rfl) (fun _ _ _ h => h) (Or.inl ⟨by rfl, ?_⟩) hS ?_
      rotate_left 1
      · intro w' hSw
        try dsimp only at hSw
        obtain ⟨q1, q2⟩ := hSw
        go_simp
        all_goals with_reducible rfl
      try simp only [Act.put, List.setIfInBounds_toArray, List.set_cons_zero, List.set_cons_succ]
      refine held_take (i := 12) (v := ?_) 67 rfl rfl (by kernel_rfl) (by kernel_rfl) (by kernel_rfl) (fun _ _ _ h => h) (Or.inl ⟨by rfl, ?_⟩) hS ?_
      rotate_left 1
      · intro w' hSw
        try dsimp only at hSw
        obtain ⟨q1, q2⟩ := hSw
        go_simp
        all_goals with_reducible rfl
      try simp only [Act.put, List.setIfInBounds_toArray, List.set_cons_zero, List.set_cons_succ]
      refine held_one (i := 13) (by kernel_rfl) rfl rfl (fun K hK => ?_)
      obtain ⟨c6, f6, l6⟩ := k6.rules
      go_simp
      have k9z := (k9.far (p := ⟨w.heap.size + 1 + 1 + 1, 6, none⟩) (by dsimp only; omega) (.int .i64 (floorS B.lo h.c))).far (p := ⟨w.heap.size + 1 + 1 + 1, 7, none⟩) (by dsimp only; omega) (.int .i64 (ceilS B.hi h.c))
      have k3z := (k3.far (p := ⟨w.heap.size + 1 + 1 + 1, 6, none⟩) (by dsimp only; omega) (.int .i64 (floorS B.lo h.c))).far (p := ⟨w.heap.size + 1 + 1 + 1, 7, none⟩) (by dsimp only; omega) (.int .i64 (ceilS B.hi h.c))
      refine hK _ _ ⟨k9z.cell, k3z.cell⟩ ?_
      clear hK K c6 f6 l6
      refine wpAnyH_done (by kernel_rfl) (noPanic_normal ?_) _
      go_wp2_with fail
      go_roundw
      case rel =>
        refine ⟨3 + 1, rfl, by omega, (k2.far (by dsimp only; omega) _).far (by dsimp only; omega) _, k3z, (k4.far (by dsimp only; omega) _).far (by dsimp only; omega) _, ?_, (hb.setCell (p := ⟨w.heap.size + 1 + 1 + 1, 6, none⟩) (by dsimp only; omega) _).setCell (p := ⟨w.heap.size + 1 + 1 + 1, 7, none⟩) (by dsimp only; omega) _⟩
        have k6z := (k6.set_ 6 (.int .i64 (floorS B.lo h.c))).set_ 7 (.int .i64 (ceilS B.hi h.c))
        simp only [turnK, turnedS, regA, hT.out, noReg]
        exact k6z
      case measure => simp [intOf]
    | 4, _ =>
      rw [show jv 4 = .int .i64 4 from rfl]
      rw [show turnK r h 4 = turnedS r h from rfl] at k6
      obtain ⟨T, hT⟩ : ∃ T, turnedS r h = T := ⟨_, rfl⟩
      rw [hT] at k6
      replace hT := Lib.hid hT
      have hbx := fun W => bound_any T.x 32768 W (by omega) (by omega)
      have hby := fun W => bound_any T.y 32768 W (by omega) (by omega)
      have hin : Hid (inPlane T = (okBnd 32768 T.x && okBnd 32768 T.y)) := rfl
      simp only [regA, noReg] at k6 k4
      clear i0 i1 i2 i3 t1 t2 t3 t4 k2 k3
      generalize okBnd 32768 T.x = bx at *
      generalize okBnd 32768 T.y = by_ at *
      go_wp2_with fail
      refine wp_held_np (fun w' => (∀ j, w'.cell? ⟨w.heap.size + 1 + 1 + 1, j, none⟩ = #[Value.int .i64 T.x.lo, .int .i64 T.x.hi, .int .i64 T.y.lo, .int .i64 T.y.hi, .int .i64 T.s.lo, .int .i64 T.s.hi, .int .i64 T.d.lo, .int .i64 T.d.hi][j]?) ∧ True) (by kernel_rfl) ?_
      have hS : (fun w' : World => (∀ j, w'.cell? ⟨w.heap.size + 1 + 1 + 1, j, none⟩ = #[Value.int .i64 T.x.lo, .int .i64 T.x.hi, .int .i64 T.y.lo, .int .i64 T.y.hi, .int .i64 T.s.lo, .int .i64 T.s.hi, .int .i64 T.d.lo, .int .i64 T.d.hi][j]?) ∧ True) wr.drew := ⟨k6.cell, trivial⟩
      replace k4 := k4.drew
      replace k6 := k6.drew
      replace hb := hb.drew
      generalize wr.drew = V at *
      refine held_take (i := 0) (v := ?_) 69 rfl rfl (by kernel_rfl) (by kernel_rfl) (by kernel_rfl) (fun _ _ _ h => h) (Or.inl ⟨by rfl, ?_⟩) hS ?_
      rotate_left 1
      · intro w' hSw
        try dsimp only at hSw
        obtain ⟨q1, q2⟩ := hSw
        go_simp
        all_goals with_reducible rfl
      try simp only [Act.put, List.setIfInBounds_toArray, List.set_cons_zero, List.set_cons_succ]
      refine held_take (i := 1) (v := ?_) 70 rfl rfl (by kernel_rfl) (by kernel_rfl) (by kernel_rfl) (fun _ _ _ h => h) (Or.inl ⟨by rfl, ?_⟩) hS ?_
      rotate_left 1
      · intro w' hSw
        try dsimp only at hSw
        obtain ⟨q1, q2⟩ := hSw
        go_simp
        all_goals with_reducible rfl
      try simp only [Act.put, List.setIfInBounds_toArray, List.set_cons_zero, List.set_cons_succ]
      refine held_take (i := 2) (v := ?_) 71 rfl rfl (by kernel_rfl) (by kernel_rfl) (by kernel_rfl) (fun _ _ _ h => h) (Or.inl ⟨by rfl, ?_⟩) hS ?_
      rotate_left 1
      · intro w' hSw
        try dsimp only at hSw
        obtain ⟨q1, q2⟩ := hSw
        go_simp
        all_goals with_reducible rfl
      try simp only [Act.put, List.setIfInBounds_toArray, List.set_cons_zero, List.set_cons_succ]
      refine held_take (i := 3) (v := ?_) 72 rfl rfl (by kernel_rfl) (by kernel_rfl) (by kernel_rfl) (fun _ _ _ h => h) (Or.inl ⟨by rfl, ?_⟩) hS ?_
      rotate_left 1
      · intro w' hSw
        try dsimp only at hSw
        obtain ⟨q1, q2⟩ := hSw
        go_simp
        all_goals with_reducible rfl
      try simp only [Act.put, List.setIfInBounds_toArray, List.set_cons_zero, List.set_cons_succ]
      refine held_take (i := 4) (v := ?_) 73 rfl rfl (by kernel_rfl) (by kernel_rfl) (by kernel_rfl) (fun _ _ _ h => h) (Or.inl ⟨by rfl, ?_⟩) hS ?_
      rotate_left 1
      · intro w' hSw
        try dsimp only at hSw
        obtain ⟨q1, q2⟩ := hSw
        go_simp
        all_goals with_reducible rfl
      try simp only [Act.put, List.setIfInBounds_toArray, List.set_cons_zero, List.set_cons_succ]
      refine held_take (i := 5) (v := ?_) 74 rfl rfl (by kernel_rfl) (by kernel_rfl) (by kernel_rfl) (fun _ _ _ h => h) (Or.inl ⟨by rfl, ?_⟩) hS ?_
      rotate_left 1
      · intro w' hSw
        try dsimp only at hSw
        obtain ⟨q1, q2⟩ := hSw
        go_simp
        all_goals with_reducible rfl
      try simp only [Act.put, List.setIfInBounds_toArray, List.set_cons_zero, List.set_cons_succ]
      refine held_take (i := 6) (v := ?_) 75 rfl rfl (by kernel_rfl) (by kernel_rfl) (by kernel_rfl) (fun _ _ _ h => h) (Or.inl ⟨by rfl, ?_⟩) hS ?_
      rotate_left 1
      · intro w' hSw
        try dsimp only at hSw
        obtain ⟨q1, q2⟩ := hSw
        go_simp
        all_goals with_reducible rfl
      try simp only [Act.put, List.setIfInBounds_toArray, List.set_cons_zero, List.set_cons_succ]
      refine held_take (i := 7) (v := ?_) 76 rfl rfl (by kernel_rfl) (by kernel_rfl) (by kernel_rfl) (fun _ _ _ h => h) (Or.inl ⟨by rfl, ?_⟩) hS ?_
      rotate_left 1
      · intro w' hSw
        try dsimp only at hSw
        obtain ⟨q1, q2⟩ := hSw
        go_simp
        all_goals with_reducible rfl
      try simp only [Act.put, List.setIfInBounds_toArray, List.set_cons_zero, List.set_cons_succ]
      refine held_take (i := 8) (v := ?_) 77 rfl rfl (by kernel_rfl) (by kernel_rfl) (by kernel_rfl) (fun _ _ _ h => h) (Or.inl ⟨by rfl, ?_⟩) hS ?_
      rotate_left 1
      · intro w' hSw
        try dsimp only at hSw
        obtain ⟨q1, q2⟩ := hSw
        go_simp
        all_goals with_reducible rfl
      try simp only [Act.put, List.setIfInBounds_toArray, List.set_cons_zero, List.set_cons_succ]
      refine held_take (i := 9) (v := ?_) 78 rfl rfl (by kernel_rfl) (by kernel_rfl) (by kernel_rfl) (fun _ _ _ h => h) (Or.inl ⟨by rfl, ?_⟩) hS ?_
      rotate_left 1
      · intro w' hSw
        try dsimp only at hSw
        obtain ⟨q1, q2⟩ := hSw
        go_simp
        all_goals with_reducible rfl
      try simp only [Act.put, List.setIfInBounds_toArray, List.set_cons_zero, List.set_cons_succ]
      refine held_take (i := 10) (v := ?_) 79 rfl rfl (by kernel_rfl) (by kernel_rfl) (by kernel_rfl) (fun _ _ _ h => h) (Or.inl ⟨by rfl, ?_⟩) hS ?_
      rotate_left 1
      · intro w' hSw
        try dsimp only at hSw
        obtain ⟨q1, q2⟩ := hSw
        go_simp
        all_goals with_reducible rfl
      try simp only [Act.put, List.setIfInBounds_toArray, List.set_cons_zero, List.set_cons_succ]
      refine held_one (i := 11) (by kernel_rfl) rfl rfl (fun K hK => ?_)
      go_simp
      refine (hbx _).mono ?_
      rintro e w5 ⟨rfl, hb5⟩
      replace k4 := k4.below hb5
      replace k6 := k6.below hb5
      replace hb := hb.trans (hb5.mono hb.size)
      clear hS hb5 hbx
      have hS : (fun w' : World => (∀ j, w'.cell? ⟨w.heap.size + 1 + 1 + 1, j, none⟩ = #[Value.int .i64 T.x.lo, .int .i64 T.x.hi, .int .i64 T.y.lo, .int .i64 T.y.hi, .int .i64 T.s.lo, .int .i64 T.s.hi, .int .i64 T.d.lo, .int .i64 T.d.hi][j]?) ∧ True) w5 := ⟨k6.cell, trivial⟩
      refine hK _ _ hS ?_
      clear hK K
      try simp only [Act.put, List.setIfInBounds_toArray, List.set_cons_zero, List.set_cons_succ]
      cases bx with
      | true =>
        refine held_take (i := 12) (v := ?_) 81 rfl rfl (by kernel_rfl) (by kernel_rfl) (by kernel_rfl) (fun _ _ _ h => h) (Or.inl ⟨by rfl, ?_⟩) hS ?_
        rotate_left 1
        · intro w' hSw
          try dsimp only at hSw
          obtain ⟨q1, q2⟩ := hSw
          go_simp
          all_goals with_reducible rfl
        try simp only [Act.put, List.setIfInBounds_toArray, List.set_cons_zero, List.set_cons_succ]
        refine held_take (i := 13) (v := ?_) 82 rfl rfl (by kernel_rfl) (by kernel_rfl) (by kernel_rfl) (fun _ _ _ h => h) (Or.inl ⟨by rfl, ?_⟩) hS ?_
        rotate_left 1
        · intro w' hSw
          try dsimp only at hSw
          obtain ⟨q1, q2⟩ := hSw
          go_simp
          all_goals with_reducible rfl
        try simp only [Act.put, List.setIfInBounds_toArray, List.set_cons_zero, List.set_cons_succ]
        refine held_take (i := 14) (v := ?_) 83 rfl rfl (by kernel_rfl) (by kernel_rfl) (by kernel_rfl) (fun _ _ _ h => h) (Or.inl ⟨by rfl, ?_⟩) hS ?_
        rotate_left 1
        · intro w' hSw
          try dsimp only at hSw
          obtain ⟨q1, q2⟩ := hSw
          go_simp
          all_goals with_reducible rfl
        try simp only [Act.put, List.setIfInBounds_toArray, List.set_cons_zero, List.set_cons_succ]
        refine held_one (i := 15) (by kernel_rfl) rfl rfl (fun K hK => ?_)
        go_simp
        refine (hby _).mono ?_
        rintro e w6 ⟨rfl, hb6⟩
        replace k4 := k4.below hb6
        replace k6 := k6.below hb6
        replace hb := hb.trans (hb6.mono hb.size)
        clear hS hb6 hby
        have hS : (fun w' : World => (∀ j, w'.cell? ⟨w.heap.size + 1 + 1 + 1, j, none⟩ = #[Value.int .i64 T.x.lo, .int .i64 T.x.hi, .int .i64 T.y.lo, .int .i64 T.y.hi, .int .i64 T.s.lo, .int .i64 T.s.hi, .int .i64 T.d.lo, .int .i64 T.d.hi][j]?) ∧ True) w6 := ⟨k6.cell, trivial⟩
        refine hK _ _ hS ?_
        clear hK K
        try simp only [Act.put, List.setIfInBounds_toArray, List.set_cons_zero, List.set_cons_succ]
        cases by_ with
        | true =>
          refine held_take (i := 16) (v := ?_) 85 rfl rfl (by kernel_rfl) (by kernel_rfl) (by kernel_rfl) (fun _ _ _ h => h) (Or.inl ⟨by rfl, ?_⟩) hS ?_
          rotate_left 1
          · intro w' hSw
            try dsimp only at hSw
            obtain ⟨q1, q2⟩ := hSw
            go_simp
            all_goals with_reducible rfl
          try simp only [Act.put, List.setIfInBounds_toArray, List.set_cons_zero, List.set_cons_succ]
          have kz := k4.set8 (.int .i64 T.x.lo) (.int .i64 T.x.hi) (.int .i64 T.y.lo) (.int .i64 T.y.hi) (.int .i64 T.s.lo) (.int .i64 T.s.hi) (.int .i64 T.d.lo) (.int .i64 T.d.hi)
          have k6z := far_set8 k6 (g := w.heap.size + 1 + 1) (by omega) (.int .i64 T.x.lo) (.int .i64 T.x.hi) (.int .i64 T.y.lo) (.int .i64 T.y.hi) (.int .i64 T.s.lo) (.int .i64 T.s.hi) (.int .i64 T.d.lo) (.int .i64 T.d.hi)
          have bz := below_set8 (g := w.heap.size + 1 + 1) hb (by omega) (.int .i64 T.x.lo) (.int .i64 T.x.hi) (.int .i64 T.y.lo) (.int .i64 T.y.hi) (.int .i64 T.s.lo) (.int .i64 T.s.hi) (.int .i64 T.d.lo) (.int .i64 T.d.hi)
          obtain ⟨wz, hwz⟩ : ∃ x, x = set8 w6 (w.heap.size + 1 + 1) (.int .i64 T.x.lo) (.int .i64 T.x.hi) (.int .i64 T.y.lo) (.int .i64 T.y.hi) (.int .i64 T.s.lo) (.int .i64 T.s.hi) (.int .i64 T.d.lo) (.int .i64 T.d.hi) := ⟨_, rfl⟩
          rw [← hwz] at kz k6z bz
          simp only [set8] at hwz
          refine held_one (i := 17) (by kernel_rfl) rfl rfl (fun K hK => ?_)
          obtain ⟨c4, f4, l4⟩ := k4.rules
          go_simp
          rw [← hwz]
          clear hwz hS c4 f4 l4
          have hS : (fun w' : World => (∀ j, w'.cell? ⟨w.heap.size + 1 + 1 + 1, j, none⟩ = #[Value.int .i64 T.x.lo, .int .i64 T.x.hi, .int .i64 T.y.lo, .int .i64 T.y.hi, .int .i64 T.s.lo, .int .i64 T.s.hi, .int .i64 T.d.lo, .int .i64 T.d.hi][j]?) ∧ True) wz := ⟨k6z.cell, trivial⟩
          refine hK _ _ hS ?_
          clear hK K
          try simp only [Act.put, List.setIfInBounds_toArray, List.set_cons_zero, List.set_cons_succ]
          refine held_take (i := 18) (v := ?_) 5 rfl rfl (by kernel_rfl) (by kernel_rfl) (by kernel_rfl) (fun _ _ _ h => h) (Or.inl ⟨by rfl, ?_⟩) hS ?_
          rotate_left 1
          · intro w' hSw
            try dsimp only at hSw
            obtain ⟨q1, q2⟩ := hSw
            go_simp
            all_goals with_reducible rfl
          try simp only [Act.put, List.setIfInBounds_toArray, List.set_cons_zero, List.set_cons_succ]
          refine wpAnyH_done (by kernel_rfl) (noPanic_normal ?_) _
          go_wp2
          obtain ⟨c4, f4, l4⟩ := kz.rules
          refine bodyPost_ret (v := .tuple #[.agg #[.int .i64 T.x.lo, .int .i64 T.x.hi, .int .i64 T.y.lo, .int .i64 T.y.hi, .int .i64 T.s.lo, .int .i64 T.s.hi, .int .i64 T.d.lo, .int .i64 T.d.hi], .bool true]) (by simp [results, Tryz.results64, go_sem, c4]) rfl ⟨?_, bz⟩
          rw [hT.out, hin.out]
          rfl
        | false =>
          refine held_take (i := 16) (v := ?_) 85 rfl rfl (by kernel_rfl) (by kernel_rfl) (by kernel_rfl) (fun _ _ _ h => h) (Or.inl ⟨by rfl, ?_⟩) hS ?_
          rotate_left 1
          · intro w' hSw
            try dsimp only at hSw
            obtain ⟨q1, q2⟩ := hSw
            go_simp
            all_goals with_reducible rfl
          try simp only [Act.put, List.setIfInBounds_toArray, List.set_cons_zero, List.set_cons_succ]
          have kz := k4.set8 (.int .i64 T.x.lo) (.int .i64 T.x.hi) (.int .i64 T.y.lo) (.int .i64 T.y.hi) (.int .i64 T.s.lo) (.int .i64 T.s.hi) (.int .i64 T.d.lo) (.int .i64 T.d.hi)
          have k6z := far_set8 k6 (g := w.heap.size + 1 + 1) (by omega) (.int .i64 T.x.lo) (.int .i64 T.x.hi) (.int .i64 T.y.lo) (.int .i64 T.y.hi) (.int .i64 T.s.lo) (.int .i64 T.s.hi) (.int .i64 T.d.lo) (.int .i64 T.d.hi)
          have bz := below_set8 (g := w.heap.size + 1 + 1) hb (by omega) (.int .i64 T.x.lo) (.int .i64 T.x.hi) (.int .i64 T.y.lo) (.int .i64 T.y.hi) (.int .i64 T.s.lo) (.int .i64 T.s.hi) (.int .i64 T.d.lo) (.int .i64 T.d.hi)
          obtain ⟨wz, hwz⟩ : ∃ x, x = set8 w6 (w.heap.size + 1 + 1) (.int .i64 T.x.lo) (.int .i64 T.x.hi) (.int .i64 T.y.lo) (.int .i64 T.y.hi) (.int .i64 T.s.lo) (.int .i64 T.s.hi) (.int .i64 T.d.lo) (.int .i64 T.d.hi) := ⟨_, rfl⟩
          rw [← hwz] at kz k6z bz
          simp only [set8] at hwz
          refine held_one (i := 17) (by kernel_rfl) rfl rfl (fun K hK => ?_)
          obtain ⟨c4, f4, l4⟩ := k4.rules
          go_simp
          rw [← hwz]
          clear hwz hS c4 f4 l4
          have hS : (fun w' : World => (∀ j, w'.cell? ⟨w.heap.size + 1 + 1 + 1, j, none⟩ = #[Value.int .i64 T.x.lo, .int .i64 T.x.hi, .int .i64 T.y.lo, .int .i64 T.y.hi, .int .i64 T.s.lo, .int .i64 T.s.hi, .int .i64 T.d.lo, .int .i64 T.d.hi][j]?) ∧ True) wz := ⟨k6z.cell, trivial⟩
          refine hK _ _ hS ?_
          clear hK K
          try simp only [Act.put, List.setIfInBounds_toArray, List.set_cons_zero, List.set_cons_succ]
          refine held_take (i := 18) (v := ?_) 5 rfl rfl (by kernel_rfl) (by kernel_rfl) (by kernel_rfl) (fun _ _ _ h => h) (Or.inl ⟨by rfl, ?_⟩) hS ?_
          rotate_left 1
          · intro w' hSw
            try dsimp only at hSw
            obtain ⟨q1, q2⟩ := hSw
            go_simp
            all_goals with_reducible rfl
          try simp only [Act.put, List.setIfInBounds_toArray, List.set_cons_zero, List.set_cons_succ]
          refine wpAnyH_done (by kernel_rfl) (noPanic_normal ?_) _
          go_wp2
          obtain ⟨c4, f4, l4⟩ := kz.rules
          refine bodyPost_ret (v := .tuple #[.agg #[.int .i64 T.x.lo, .int .i64 T.x.hi, .int .i64 T.y.lo, .int .i64 T.y.hi, .int .i64 T.s.lo, .int .i64 T.s.hi, .int .i64 T.d.lo, .int .i64 T.d.hi], .bool false]) (by simp [results, Tryz.results64, go_sem, c4]) rfl ⟨?_, bz⟩
          rw [hT.out, hin.out]
          rfl
      | false =>
        refine held_take (i := 12) (v := ?_) 81 rfl rfl (by kernel_rfl) (by kernel_rfl) (by kernel_rfl) (fun _ _ _ h => h) (Or.inl ⟨by rfl, ?_⟩) hS ?_
        rotate_left 1
        · intro w' hSw
          try dsimp only at hSw
          obtain ⟨q1, q2⟩ := hSw
          go_simp
          all_goals with_reducible rfl
        try simp only [Act.put, List.setIfInBounds_toArray, List.set_cons_zero, List.set_cons_succ]
        refine held_take (i := 13) (v := undef) 82 rfl rfl (by kernel_rfl) (by kernel_rfl) (by kernel_rfl) (fun _ _ _ h => h) (Or.inr ⟨by rfl, rfl⟩) hS ?_
        try simp only [Act.put, List.setIfInBounds_toArray, List.set_cons_zero, List.set_cons_succ]
        refine held_take (i := 14) (v := undef) 83 rfl rfl (by kernel_rfl) (by kernel_rfl) (by kernel_rfl) (fun _ _ _ h => h) (Or.inr ⟨by rfl, rfl⟩) hS ?_
        try simp only [Act.put, List.setIfInBounds_toArray, List.set_cons_zero, List.set_cons_succ]
        refine held_take (i := 15) (v := undef) 84 rfl rfl (by kernel_rfl) (by kernel_rfl) (by kernel_rfl) (fun _ _ _ h => h) (Or.inr ⟨by rfl, rfl⟩) hS ?_
        try simp only [Act.put, List.setIfInBounds_toArray, List.set_cons_zero, List.set_cons_succ]
        refine held_take (i := 16) (v := ?_) 85 rfl rfl (by kernel_rfl) (by kernel_rfl) (by kernel_rfl) (fun _ _ _ h => h) (Or.inl ⟨by rfl, ?_⟩) hS ?_
        rotate_left 1
        · intro w' hSw
          try dsimp only at hSw
          obtain ⟨q1, q2⟩ := hSw
          go_simp
          all_goals with_reducible rfl
        try simp only [Act.put, List.setIfInBounds_toArray, List.set_cons_zero, List.set_cons_succ]
        have kz := k4.set8 (.int .i64 T.x.lo) (.int .i64 T.x.hi) (.int .i64 T.y.lo) (.int .i64 T.y.hi) (.int .i64 T.s.lo) (.int .i64 T.s.hi) (.int .i64 T.d.lo) (.int .i64 T.d.hi)
        have k6z := far_set8 k6 (g := w.heap.size + 1 + 1) (by omega) (.int .i64 T.x.lo) (.int .i64 T.x.hi) (.int .i64 T.y.lo) (.int .i64 T.y.hi) (.int .i64 T.s.lo) (.int .i64 T.s.hi) (.int .i64 T.d.lo) (.int .i64 T.d.hi)
        have bz := below_set8 (g := w.heap.size + 1 + 1) hb (by omega) (.int .i64 T.x.lo) (.int .i64 T.x.hi) (.int .i64 T.y.lo) (.int .i64 T.y.hi) (.int .i64 T.s.lo) (.int .i64 T.s.hi) (.int .i64 T.d.lo) (.int .i64 T.d.hi)
        obtain ⟨wz, hwz⟩ : ∃ x, x = set8 w5 (w.heap.size + 1 + 1) (.int .i64 T.x.lo) (.int .i64 T.x.hi) (.int .i64 T.y.lo) (.int .i64 T.y.hi) (.int .i64 T.s.lo) (.int .i64 T.s.hi) (.int .i64 T.d.lo) (.int .i64 T.d.hi) := ⟨_, rfl⟩
        rw [← hwz] at kz k6z bz
        simp only [set8] at hwz
        refine held_one (i := 17) (by kernel_rfl) rfl rfl (fun K hK => ?_)
        obtain ⟨c4, f4, l4⟩ := k4.rules
        go_simp
        rw [← hwz]
        clear hwz hS c4 f4 l4
        have hS : (fun w' : World => (∀ j, w'.cell? ⟨w.heap.size + 1 + 1 + 1, j, none⟩ = #[Value.int .i64 T.x.lo, .int .i64 T.x.hi, .int .i64 T.y.lo, .int .i64 T.y.hi, .int .i64 T.s.lo, .int .i64 T.s.hi, .int .i64 T.d.lo, .int .i64 T.d.hi][j]?) ∧ True) wz := ⟨k6z.cell, trivial⟩
        refine hK _ _ hS ?_
        clear hK K
        try simp only [Act.put, List.setIfInBounds_toArray, List.set_cons_zero, List.set_cons_succ]
        refine held_take (i := 18) (v := ?_) 5 rfl rfl (by kernel_rfl) (by kernel_rfl) (by kernel_rfl) (fun _ _ _ h => h) (Or.inl ⟨by rfl, ?_⟩) hS ?_
        rotate_left 1
        · intro w' hSw
          try dsimp only at hSw
          obtain ⟨q1, q2⟩ := hSw
          go_simp
          all_goals with_reducible rfl
        try simp only [Act.put, List.setIfInBounds_toArray, List.set_cons_zero, List.set_cons_succ]
        refine wpAnyH_done (by kernel_rfl) (noPanic_normal ?_) _
        go_wp2
        obtain ⟨c4, f4, l4⟩ := kz.rules
        refine bodyPost_ret (v := .tuple #[.agg #[.int .i64 T.x.lo, .int .i64 T.x.hi, .int .i64 T.y.lo, .int .i64 T.y.hi, .int .i64 T.s.lo, .int .i64 T.s.hi, .int .i64 T.d.lo, .int .i64 T.d.hi], .bool false]) (by simp [results, Tryz.results64, go_sem, c4]) rfl ⟨?_, bz⟩
        rw [hT.out, hin.out]
        rfl
end Go.Proofs.YtjiaepphnddpoaaGreat
