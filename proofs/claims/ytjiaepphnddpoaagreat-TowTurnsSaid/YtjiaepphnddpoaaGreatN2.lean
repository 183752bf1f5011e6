/-
  Walks: the least and the greatest value of an expression in a region.
-/
import Derived.Test.YtjiaepphnddpoaaGreatN1
import Derived.Deep.QuietTactic
namespace Go.Proofs.YtjiaepphnddpoaaGreat
open Go.RowKit Go.Shelf

theorem smul_bd {a b A B : Int} (h1 : -A ≤ a) (h2 : a ≤ A) (h3 : -B ≤ b) (h4 : b ≤ B) : -(A * B) ≤ a * b ∧ a * b ≤ A * B := by
  have hA : 0 ≤ A := by omega
  have hB : 0 ≤ B := by omega
  rcases Int.le_total 0 a with ha | ha <;> rcases Int.le_total 0 b with hb | hb
  · have := Int.mul_le_mul h2 h4 hb hA
    have := Int.mul_nonneg ha hb
    have := Int.mul_nonneg hA hB
    omega
  · have h := Int.mul_le_mul h2 (show -b ≤ B by omega) (by omega) hA
    have h0 := Int.mul_nonneg ha (show 0 ≤ -b by omega)
    have := Int.mul_nonneg hA hB
    rw [Int.mul_neg] at h h0
    omega
  · have h := Int.mul_le_mul (show -a ≤ A by omega) h4 hb hA
    have h0 := Int.mul_nonneg (show 0 ≤ -a by omega) hb
    have := Int.mul_nonneg hA hB
    rw [Int.neg_mul] at h h0
    omega
  · have h := Int.mul_le_mul (show -a ≤ A by omega) (show -b ≤ B by omega) (by omega) hA
    have h0 := Int.mul_nonneg (show 0 ≤ -a by omega) (show 0 ≤ -b by omega)
    have := Int.mul_nonneg hA hB
    rw [Int.neg_mul_neg] at h h0
    omega
def optB (o : Option Bnd) : Bnd := o.getD ⟨0, 0⟩
theorem extO_app (l : List RRow) (w : RRow) (p q : Int) : extO (l ++ [w]) p q = addE (extO l p q) (p * w.x + q * w.fr, p * w.x + q * w.to) := by
  unfold extO
  rw [List.foldl_append]
  rfl
set_option maxRecDepth 100000 in
set_option maxHeartbeats 2000000 in
theorem extremes_any (r : Reg) (p q : Int) (w : World) (hr : okReg r = true) (hp : -2000 ≤ p ∧ p ≤ 2000) (hq : -2000 ≤ q ∧ q ≤ 2000) :
    Calls Tryz.prog 111 #[.agg (regA r), .int .i64 p, .int .i64 q] w fun e w' => e = .returned (.agg #[.int .i64 (extB r p q).lo, .int .i64 (extB r p q).hi]) ∧ Below w.heap.size w w' := by
  have hmax := max3_int
  have hmin := min3_int
  simp only [okReg, Bool.and_eq_true, okBnd, decide_eq_true_eq] at hr
  obtain ⟨⟨⟨⟨x1, x2, x3⟩, ⟨y1, y2, y3⟩⟩, ⟨s1, s2, s3⟩⟩, ⟨d1, d2, d3⟩⟩ := hr
  obtain ⟨p1, p2⟩ := hp
  obtain ⟨q1, q2⟩ := hq
  simp only [regA]
  go_enter Tryz.func111, Tryz.ntmps111
  go_wp2_with fail
  go_loopw [8, 9] (fun s x wr => ∃ j : Nat, x = .int .i64 (r.x.lo + j) ∧ j ≤ nX r ∧ s = .bool (extO (rowsTo r j) p q).isSome ∧ Blk wr w.heap.size 45 (regA r) ∧ Blk wr (w.heap.size + 1) 24 #[.int .i64 0, .int .i64 0] ∧ Blk wr (w.heap.size + 1 + 1) 24 #[.int .i64 (optB (extO (rowsTo r j) p q)).lo, .int .i64 (optB (extO (rowsTo r j) p q)).hi] ∧ Below w.heap.size w wr) (fun s x wr => (r.x.hi + 1 - intOf x).toNat)
  case atStart =>
    exact ⟨0, by simp, Nat.zero_le _, rfl, ((Blk.newAt rfl).alloc _).alloc _, (Blk.newAt (by simp)).alloc _, Blk.newAt (by simp), (((Below.refl w.heap.size w).alloc (Nat.le_refl _) _).alloc (by simp) _).alloc (by simp; omega) _⟩
  case round =>
    obtain ⟨j, rfl, hj, rfl, k3, k6, k7, hb⟩ := hrel
    have hjx : j < nX r ↔ r.x.lo + j ≤ r.x.hi := by unfold nX; omega
    by_cases hlt : r.x.lo + j ≤ r.x.hi
    · have hj1 := Lib.hid (hjx.2 hlt)
      replace hj := Lib.hid hj
      have hstep := Lib.hid (rowsTo_succ r j)
      have e1 : Hid ((rowB r (r.x.lo + j)).fr = max r.y.lo (max (r.s.lo - (r.x.lo + j)) (r.x.lo + j - r.d.hi))) := rfl
      have e2 : Hid ((rowB r (r.x.lo + j)).to = min r.y.hi (min (r.s.hi - (r.x.lo + j)) (r.x.lo + j - r.d.lo))) := rfl
      have e3 : Hid ((rowB r (r.x.lo + j)).x = r.x.lo + j) := rfl
      clear hjx
      generalize rowB r (r.x.lo + j) = v at *
      generalize hx : r.x.lo + (j : Int) = x at *
      have hxb : -32768 ≤ x ∧ x ≤ 32768 := by omega
      have e1r := e1.out.symm
      have e2r := e2.out.symm
      have t1 := IntWalk.i64_in (r.s.lo - x) (by omega)
      have t2 := IntWalk.i64_in (x - r.d.hi) (by omega)
      have t3 := IntWalk.i64_in (r.s.hi - x) (by omega)
      have t4 := IntWalk.i64_in (x - r.d.lo) (by omega)
      have t5 := IntWalk.i64_in (x + 1) (by omega)
      have hfr : -32768 ≤ v.fr ∧ v.to ≤ 32768 := by omega
      replace hx := Lib.hid hx
      simp only [regA] at k3
      obtain ⟨c3, f3, l3⟩ := k3.rules
      obtain ⟨o, ho⟩ : ∃ o, extO (rowsTo r j) p q = o := ⟨_, rfl⟩
      rw [ho] at k7 ⊢
      replace ho := Lib.hid ho
      go_wp2_with fail
      go_quiet (fail)
      clear c3 f3 l3
      have k3d := k3.drewN nq
      have k6d := k6.drewN nq
      have k7d := k7.drewN nq
      have hbd := below_drewN hb nq
      clear k3 k6 k7 hb
      generalize wr.drewN nq = W at *
      by_cases hv : v.fr ≤ v.to
      · rw [if_pos hv] at hstep
        have ha := smul_bd p1 p2 hxb.1 hxb.2
        have hb1 := smul_bd q1 q2 (show -32768 ≤ v.fr by omega) (show v.fr ≤ 32768 by omega)
        have hb2 := smul_bd q1 q2 (show -32768 ≤ v.to by omega) (show v.to ≤ 32768 by omega)
        have u1 := IntWalk.i64_in (p * x) (by omega)
        have u2 := IntWalk.i64_in (q * v.fr) (by omega)
        have u3 := IntWalk.i64_in (q * v.to) (by omega)
        have u4 := IntWalk.i64_in (p * x + q * v.fr) (by omega)
        have u5 := IntWalk.i64_in (p * x + q * v.to) (by omega)
        have hext : Hid (extO (rowsTo r (j + 1)) p q = addE o (p * x + q * v.fr, p * x + q * v.to)) := by
          show _ = _
          rw [hstep.out, extO_app, ho.out, e3.out]
        have hv' : ¬ v.to < v.fr := by omega
        clear ha hb1 hb2
        obtain ⟨a, hA⟩ : ∃ a, p * x + q * v.fr = a := ⟨_, rfl⟩
        obtain ⟨b, hB⟩ : ∃ b, p * x + q * v.to = b := ⟨_, rfl⟩
        replace u4 : IntKind.i64.wrap (p * x + q * v.fr) = a := u4.trans hA
        replace u5 : IntKind.i64.wrap (p * x + q * v.to) = b := u5.trans hB
        rw [hA, hB] at hext
        clear hA hB
        cases o with
        | none =>
          have hm1 : Hid (min (a) (min (a) (b)) = min (a) (b)) := by show _ = _; omega
          have hm2 : Hid (max (a) (max (a) (b)) = max (a) (b)) := by show _ = _; omega
          simp only [optB, Option.getD_none, Option.isSome_none] at k7d ⊢
          obtain ⟨c7, f7, l7⟩ := k7d.rules
          go_wp2_with fail
          clear c7 f7 l7
          go_roundw
          case rel =>
            refine ⟨j + 1, by rw [← hx.out]; congr 1; push_cast; omega, hj1.out, by rw [hext.out]; rfl, (((k3d.far (by dsimp only; omega) _).far (by dsimp only; omega) _).far (by dsimp only; omega) _).far (by dsimp only; omega) _, (((k6d.far (by dsimp only; omega) _).far (by dsimp only; omega) _).far (by dsimp only; omega) _).far (by dsimp only; omega) _, ?_, ((((hbd.setCell (p := ⟨w.heap.size + 1 + 1, 0, none⟩) (by dsimp only; omega) _).setCell (p := ⟨w.heap.size + 1 + 1, 1, none⟩) (by dsimp only; omega) _).setCell (p := ⟨w.heap.size + 1 + 1, 0, none⟩) (by dsimp only; omega) _).setCell (p := ⟨w.heap.size + 1 + 1, 1, none⟩) (by dsimp only; omega) _)⟩
            rw [hext.out]
            simp only [addE]
            rw [hm1.out, hm2.out]
            exact (((k7d.set_ 0 _).set_ 1 _).set_ 0 _).set_ 1 _
          case measure => simp [intOf]; omega
        | some B =>
          simp only [optB, Option.getD_some, Option.isSome_some] at k7d ⊢
          obtain ⟨c7, f7, l7⟩ := k7d.rules
          go_wp2_with fail
          clear c7 f7 l7
          go_roundw
          case rel =>
            refine ⟨j + 1, by rw [← hx.out]; congr 1; push_cast; omega, hj1.out, by rw [hext.out]; rfl, (k3d.far (by dsimp only; omega) _).far (by dsimp only; omega) _, (k6d.far (by dsimp only; omega) _).far (by dsimp only; omega) _, ?_, ((hbd.setCell (p := ⟨w.heap.size + 1 + 1, 0, none⟩) (by dsimp only; omega) _).setCell (p := ⟨w.heap.size + 1 + 1, 1, none⟩) (by dsimp only; omega) _)⟩
            rw [hext.out]
            exact (k7d.set_ 0 _).set_ 1 _
          case measure => simp [intOf]; omega
      · rw [if_neg hv, List.append_nil] at hstep
        have hv' : v.to < v.fr := by omega
        go_wp2_with fail
        go_roundw
        case rel =>
          refine ⟨j + 1, by rw [← hx.out]; congr 1; push_cast; omega, hj1.out, ?_, k3d, k6d, ?_, hbd⟩
          · rw [hstep.out, ho.out]
          · rw [hstep.out, ho.out]; exact k7d
        case measure => simp [intOf]; omega
    · obtain rfl : j = nX r := by have : ¬ j < nX r := fun h => hlt (hjx.1 h); omega
      have hv : Hid (optB (extO (rowsTo r (nX r)) p q) = extB r p q) := rfl
      rw [hv.out] at k7
      clear hjx hj
      simp only [regA] at k3
      obtain ⟨c3, f3, l3⟩ := k3.rules
      obtain ⟨c7, f7, l7⟩ := k7.rules
      have kz := (k6.set_ 0 (.int .i64 (extB r p q).lo)).set_ 1 (.int .i64 (extB r p q).hi)
      have bz := (hb.setCell (p := ⟨w.heap.size + 1, 0, none⟩) (by dsimp only; omega) (.int .i64 (extB r p q).lo)).setCell (p := ⟨w.heap.size + 1, 1, none⟩) (by dsimp only; omega) (.int .i64 (extB r p q).hi)
      obtain ⟨wz, hwz⟩ : ∃ x, x = (wr.setCell ⟨w.heap.size + 1, 0, none⟩ (.int .i64 (extB r p q).lo)).setCell ⟨w.heap.size + 1, 1, none⟩ (.int .i64 (extB r p q).hi) := ⟨_, rfl⟩
      rw [← hwz] at kz bz
      obtain ⟨c6, f6, l6⟩ := k6.rules
      go_wp2
      rw [← hwz]
      clear hwz c3 f3 l3 c6 f6 l6 c7 f7 l7
      obtain ⟨c6, f6, l6⟩ := kz.rules
      exact bodyPost_ret (v := .agg #[.int .i64 (extB r p q).lo, .int .i64 (extB r p q).hi]) (by simp [results, Tryz.results111, go_sem, c6]) rfl ⟨rfl, bz⟩
end Go.Proofs.YtjiaepphnddpoaaGreat
