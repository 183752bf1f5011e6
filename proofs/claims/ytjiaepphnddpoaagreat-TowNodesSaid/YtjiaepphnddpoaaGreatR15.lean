/-
  Walks: what the chapter says of turned regions.
-/
import Derived.Test.YtjiaepphnddpoaaGreatR14
import Derived.Test.YtjiaepphnddpoaaGreatN4
namespace Go.Proofs.YtjiaepphnddpoaaGreat
open Go.RowKit Go.Shelf
set_option linter.unusedSimpArgs false
set_option linter.unusedVariables false

def addN : Option Bnd → Int → Option Bnd
  | none, n => some ⟨n, n⟩
  | some b, n => some ⟨min b.lo n, max b.hi n⟩
theorem addE_two (o : Option Bnd) (a b : Int) : addE o (a, b) = addN (addN o a) b := by
  cases o with
  | none => simp only [addE, addN, Option.some.injEq, Bnd.mk.injEq]; omega
  | some h => simp only [addE, addN, Option.some.injEq, Bnd.mk.injEq]; omega
theorem addN_some (o : Option Bnd) (n : Int) : ∃ b, addN o n = some b := by cases o <;> exact ⟨_, rfl⟩
def inn (o : Option Bnd) (a b : Int) : Nat → Option Bnd
  | 0 => o
  | 1 => addN o a
  | _ => addN (addN o a) b
set_option maxRecDepth 100000 in
set_option maxHeartbeats 2000000 in
theorem RSpans_any (r : Reg) (p q c : Int) (w : World) (hr : okReg r = true) (hp : -2000 ≤ p ∧ p ≤ 2000) (hq : -2000 ≤ q ∧ q ≤ 2000) (hc : 1 ≤ c ∧ c ≤ 1000) :
    Calls Tryz.prog 161 #[.agg (regA r), .int .i64 p, .int .i64 q, .int .i64 c, .int .i64 0] w fun e w' => e = .returned (.agg #[.int .i64 (turnB r c p q).lo, .int .i64 (turnB r c p q).hi]) ∧ Below w.heap.size w w' := by
  have i0 : ∀ (a b : Value) w, (Instr.index 69 (.agg #[a, b]) (.int .i64 0)).run Tryz.prog w = .ok a w := fun _ _ _ => by kernel_rfl
  have i1 : ∀ (a b : Value) w, (Instr.index 69 (.agg #[a, b]) (.int .i64 1)).run Tryz.prog w = .ok b w := fun _ _ _ => by kernel_rfl
  have hmax := max3_int
  have hmin := min3_int
  have hmax2 := max2_int
  have hmin2 := min2_int
  have hbig := extB_big hr hp hq
  obtain ⟨B, hB⟩ : ∃ B, extB r p q = B := ⟨_, rfl⟩
  have hT : turnB r c p q = ⟨floorS B.lo c, ceilS B.hi c⟩ := by unfold turnB; rw [hB]
  rw [hT]
  dsimp only
  rw [hB] at hbig
  unfold bigB at hbig
  have hdn := fun W => Down_any B.lo c W (by omega) (by omega) (by omega) (by omega)
  have hup := fun W => Up_any B.hi c W (by omega) (by omega) (by omega) (by omega)
  have hend : Hid (optB (extO (rowsTo r (nX r)) p q) = B) := hB
  have hf2 : B.lo / c = floorS B.lo c := rfl
  simp only [hf2] at hdn
  clear hB hT hbig hf2
  generalize floorS B.lo c = f at *
  generalize ceilS B.hi c = t at *
  obtain ⟨⟨x1, x2, x3⟩, ⟨y1, y2, y3⟩, ⟨s1, s2, s3⟩, d1, d2, d3⟩ := okReg_iff.1 hr
  obtain ⟨p1, p2⟩ := hp
  obtain ⟨q1, q2⟩ := hq
  clear hr
  simp only [regA]
  obtain ⟨w1, hw1⟩ : ∃ w1, w1 = (w.alloc (.cells #[.int .i64 r.x.lo, .int .i64 r.x.hi, .int .i64 r.y.lo, .int .i64 r.y.hi, .int .i64 r.s.lo, .int .i64 r.s.hi, .int .i64 r.d.lo, .int .i64 r.d.hi] 45)).alloc (.cells #[.int .i64 0, .int .i64 0] 24) := ⟨_, rfl⟩
  have k5 : Blk w1 w.heap.size 45 #[.int .i64 r.x.lo, .int .i64 r.x.hi, .int .i64 r.y.lo, .int .i64 r.y.hi, .int .i64 r.s.lo, .int .i64 r.s.hi, .int .i64 r.d.lo, .int .i64 r.d.hi] := by rw [hw1]; exact (Blk.new _ _ _).alloc _
  have k10 : Blk w1 (w.heap.size + 1) 24 #[.int .i64 0, .int .i64 0] := by rw [hw1]; exact Blk.newAt (by simp)
  have hb : Below w.heap.size w w1 := by rw [hw1]; exact ((Below.refl _ _).alloc (Nat.le_refl _) _).alloc (by simp) _
  go_enter Tryz.func161, Tryz.ntmps161
  go_wp2_with fail
  rw [← hw1]
  clear hw1
  go_loopw [11, 12, 13, 14] (fun a b s x wr => ∃ j : Nat, x = .int .i64 (r.x.lo + j) ∧ j ≤ nX r ∧ a = .int .i64 (optB (extO (rowsTo r j) p q)).lo ∧ b = .int .i64 (optB (extO (rowsTo r j) p q)).hi ∧ s = .bool (extO (rowsTo r j) p q).isSome ∧ Blk wr w.heap.size 45 #[.int .i64 r.x.lo, .int .i64 r.x.hi, .int .i64 r.y.lo, .int .i64 r.y.hi, .int .i64 r.s.lo, .int .i64 r.s.hi, .int .i64 r.d.lo, .int .i64 r.d.hi] ∧ Blk wr (w.heap.size + 1) 24 #[.int .i64 0, .int .i64 0] ∧ Below w.heap.size w wr) (fun a b s x wr => (r.x.hi + 1 - intOf x).toNat)
  case atStart => exact ⟨0, by simp, Nat.zero_le _, rfl, rfl, rfl, k5, k10, hb⟩
  case round =>
    clear k5 k10 hb
    obtain ⟨j, rfl, hj, rfl, rfl, rfl, k5, k10, hb⟩ := hrel
    have hjx : j < nX r ↔ r.x.lo + j ≤ r.x.hi := by unfold nX; omega
    by_cases hlt : r.x.lo + j ≤ r.x.hi
    · have hj1 := Lib.hid (hjx.2 hlt)
      replace hj := Lib.hid hj
      have hstep := Lib.hid (rowsTo_succ r j)
      have e1 : Hid ((rowB r (r.x.lo + j)).fr = max r.y.lo (max (r.s.lo - (r.x.lo + j)) (r.x.lo + j - r.d.hi))) := rfl
      have e2 : Hid ((rowB r (r.x.lo + j)).to = min r.y.hi (min (r.s.hi - (r.x.lo + j)) (r.x.lo + j - r.d.lo))) := rfl
      have e3 : Hid ((rowB r (r.x.lo + j)).x = r.x.lo + j) := rfl
      clear hjx
      generalize rowB r (r.x.lo + j) = v at *
      generalize hx : r.x.lo + (j : Int) = x at *
      have hxb : -32768 ≤ x ∧ x ≤ 32768 := by omega
      have hx0 : r.x.lo ≤ x := by omega
      have e1r := e1.out.symm
      have e2r := e2.out.symm
      have t1 := IntWalk.i64_in (r.s.lo - x) (by omega)
      have t2 := IntWalk.i64_in (x - r.d.hi) (by omega)
      have t3 := IntWalk.i64_in (r.s.hi - x) (by omega)
      have t4 := IntWalk.i64_in (x - r.d.lo) (by omega)
      have t5 := IntWalk.i64_in (x + 1) (by omega)
      have hfr : -32768 ≤ v.fr ∧ v.to ≤ 32768 := by omega
      replace hx := Lib.hid hx
      obtain ⟨o, ho⟩ : ∃ o, extO (rowsTo r j) p q = o := ⟨_, rfl⟩
      rw [ho]
      replace ho := Lib.hid ho
      obtain ⟨c5, f5, l5⟩ := k5.rules
      go_wp2_with fail
      go_quiet (fail)
      clear c5 f5 l5
      replace k5 := k5.drewN nq
      replace k10 := k10.drewN nq
      replace hb := below_drewN hb nq
      generalize wr.drewN nq = W at *
      replace t1 := Lib.hid t1
      replace t2 := Lib.hid t2
      replace t3 := Lib.hid t3
      replace t4 := Lib.hid t4
      replace e1r := Lib.hid e1r
      replace e2r := Lib.hid e2r
      by_cases hv : v.fr ≤ v.to
      · rw [if_pos hv] at hstep
        have ha := smul_bd p1 p2 hxb.1 hxb.2
        have hb1 := smul_bd q1 q2 (show -32768 ≤ v.fr by omega) (show v.fr ≤ 32768 by omega)
        have hb2 := smul_bd q1 q2 (show -32768 ≤ v.to by omega) (show v.to ≤ 32768 by omega)
        have u1 := IntWalk.i64_in (p * x) (by omega)
        have u2 := IntWalk.i64_in (q * v.fr) (by omega)
        have u3 := IntWalk.i64_in (q * v.to) (by omega)
        have u4 := IntWalk.i64_in (p * x + q * v.fr) (by omega)
        have u5 := IntWalk.i64_in (p * x + q * v.to) (by omega)
        have hext : Hid (extO (rowsTo r (j + 1)) p q = inn o (p * x + q * v.fr) (p * x + q * v.to) 2) := by
          show _ = _
          rw [hstep.out, extO_app, ho.out, e3.out, addE_two]
          rfl
        have hv' : ¬ v.to < v.fr := by omega
        obtain ⟨a, hA⟩ : ∃ a, p * x + q * v.fr = a := ⟨_, rfl⟩
        obtain ⟨b, hB⟩ : ∃ b, p * x + q * v.to = b := ⟨_, rfl⟩
        replace u4 : IntKind.i64.wrap (p * x + q * v.fr) = a := u4.trans hA
        replace u5 : IntKind.i64.wrap (p * x + q * v.to) = b := u5.trans hB
        rw [hA, hB] at hext
        have u6 := IntWalk.i64_in a (by omega)
        have u7 := IntWalk.i64_in b (by omega)
        have u8 : IntKind.i64.wrap (a - 0) = a := by rw [Int.sub_zero]; exact u6
        have u9 : IntKind.i64.wrap (b - 0) = b := by rw [Int.sub_zero]; exact u7
        clear ha hb1 hb2 hA hB
        go_wp2_with fail
        go_loopw [11, 12, 13, 64] (fun lo hi s i wr => ∃ k : Nat, i = jv k ∧ k ≤ 2 ∧ lo = .int .i64 (optB (inn o a b k)).lo ∧ hi = .int .i64 (optB (inn o a b k)).hi ∧ s = .bool (inn o a b k).isSome ∧ wr = W) (fun lo hi s i wr => 2 - (intOf i).toNat)
        case atStart => exact ⟨0, rfl, by omega, rfl, rfl, rfl, rfl⟩
        case round =>
          obtain ⟨k, rfl, hk, rfl, rfl, rfl, rfl⟩ := hrel
          match k, hk with
          | 0, _ =>
            rw [show jv 0 = .int .i64 0 from rfl]
            cases o with
            | none =>
              simp only [inn, optB, Option.getD_none, Option.isSome_none]
              go_wp2_with fail
              go_roundw
              case rel => exact ⟨1, rfl, by omega, by simp [inn, addN, optB], by simp [inn, addN, optB], by first | rfl | trivial, by first | rfl | trivial⟩
              case measure => simp [intOf, jv]
            | some B0 =>
              simp only [inn, optB, Option.getD_some, Option.isSome_some]
              go_wp2_with fail
              go_roundw
              case rel => exact ⟨1, rfl, by omega, by simp [inn, addN, optB], by simp [inn, addN, optB], by first | rfl | trivial, by first | rfl | trivial⟩
              case measure => simp [intOf, jv]
          | 1, _ =>
            rw [show jv 1 = .int .i64 1 from rfl]
            obtain ⟨B1, hB1⟩ := addN_some o a
            have hB2 : inn o a b 1 = some B1 := hB1
            have hB3 : inn o a b 2 = some ⟨min B1.lo b, max B1.hi b⟩ := by show addN (addN o a) b = _; rw [hB1]; rfl
            rw [hB2]
            simp only [optB, Option.getD_some, Option.isSome_some]
            replace hB1 := Lib.hid hB1
            replace hB2 := Lib.hid hB2
            replace hB3 := Lib.hid hB3
            go_wp2_with fail
            go_roundw
            case rel => exact ⟨2, rfl, by omega, by first | (rw [hB3.out]; rfl) | trivial, by first | (rw [hB3.out]; rfl) | trivial, by first | (rw [hB3.out]; rfl) | trivial, by first | rfl | trivial⟩
            case measure => simp [intOf, jv]
          | 2, _ =>
            rw [show jv 2 = .int .i64 2 from rfl]
            go_wp2_with fail
            go_roundw
            case rel => exact ⟨j + 1, by rw [← hx.out]; congr 1; push_cast; omega, hj1.out, by rw [hext.out], by rw [hext.out], by rw [hext.out], k5, k10, hb⟩
            case measure => simp [intOf]; omega
      · rw [if_neg hv, List.append_nil] at hstep
        have hv' : v.to < v.fr := by omega
        go_wp2_with fail
        go_roundw
        case rel => exact ⟨j + 1, by rw [← hx.out]; congr 1; push_cast; omega, hj1.out, by rw [hstep.out, ho.out], by rw [hstep.out, ho.out], by rw [hstep.out, ho.out], k5, k10, hb⟩
        case measure => simp [intOf]; omega
    · have hje : j = nX r := by omega
      subst hje
      rw [hend.out]
      clear hend
      obtain ⟨c5, f5, l5⟩ := k5.rules
      go_wp2_with fail
      clear c5 f5 l5
      refine (hdn _).mono ?_
      rintro e w' ⟨rfl, rfl⟩
      go_wp2_with fail
      refine (hup _).mono ?_
      rintro e w' ⟨rfl, rfl⟩
      have kz := (k10.set_ 0 (.int .i64 f)).set_ 1 (.int .i64 t)
      simp only [List.setIfInBounds_toArray, List.set_cons_zero, List.set_cons_succ] at kz
      have bz := (hb.setCell (p := ⟨w.heap.size + 1, 0, none⟩) (by dsimp only; omega) (.int .i64 f)).setCell (p := ⟨w.heap.size + 1, 1, none⟩) (by dsimp only; omega) (.int .i64 t)
      obtain ⟨wz, hwz⟩ : ∃ q, q = (wr.setCell ⟨w.heap.size + 1, 0, none⟩ (.int .i64 f)).setCell ⟨w.heap.size + 1, 1, none⟩ (.int .i64 t) := ⟨_, rfl⟩
      rw [← hwz] at kz bz
      obtain ⟨c4, f4, l4⟩ := k10.rules
      go_wp2
      rw [← hwz]
      clear hwz c4 f4 l4
      obtain ⟨c4, f4, l4⟩ := kz.rules
      exact bodyPost_ret (v := .agg #[.int .i64 f, .int .i64 t]) (by simp [results, Tryz.results161, go_sem, c4]) rfl ⟨rfl, bz⟩
set_option maxRecDepth 100000 in
set_option maxHeartbeats 1000000 in
theorem Rspans_any (r : Reg) (p q c : Int) (w : World) (hr : okReg r = true) (hp : -2000 ≤ p ∧ p ≤ 2000) (hq : -2000 ≤ q ∧ q ≤ 2000) (hc : 1 ≤ c ∧ c ≤ 1000) :
    Calls Tryz.prog 116 #[.agg (regA r), .int .i64 p, .int .i64 q, .int .i64 c] w fun e w' => e = .returned (.agg #[.int .i64 (turnB r c p q).lo, .int .i64 (turnB r c p q).hi]) ∧ Below w.heap.size w w' := by
  have hS := fun W => RSpans_any r p q c W hr hp hq hc
  generalize turnB r c p q = B at *
  simp only [regA] at hS ⊢
  obtain ⟨w1, hw1⟩ : ∃ w1, w1 = (w.alloc (.cells #[.int .i64 r.x.lo, .int .i64 r.x.hi, .int .i64 r.y.lo, .int .i64 r.y.hi, .int .i64 r.s.lo, .int .i64 r.s.hi, .int .i64 r.d.lo, .int .i64 r.d.hi] 45)).alloc (.cells #[.int .i64 0, .int .i64 0] 24) := ⟨_, rfl⟩
  have k8 : Blk w1 (w.heap.size + 1) 24 #[.int .i64 0, .int .i64 0] := by rw [hw1]; exact Blk.newAt (by simp)
  have hb : Below w.heap.size w w1 := by rw [hw1]; exact ((Below.refl _ _).alloc (Nat.le_refl _) _).alloc (by simp) _
  go_enter Tryz.func116, Tryz.ntmps116
  go_wp2_with fail
  rw [← hw1]
  clear hw1
  refine (hS _).mono ?_
  rintro e W ⟨rfl, hbel⟩
  replace k8 := k8.below hbel
  replace hb := hb.trans (hbel.mono hb.size)
  clear hbel hS
  have kz := (k8.set_ 0 (.int .i64 B.lo)).set_ 1 (.int .i64 B.hi)
  simp only [List.setIfInBounds_toArray, List.set_cons_zero, List.set_cons_succ] at kz
  have bz := (hb.setCell (p := ⟨w.heap.size + 1, 0, none⟩) (by dsimp only; omega) (.int .i64 B.lo)).setCell (p := ⟨w.heap.size + 1, 1, none⟩) (by dsimp only; omega) (.int .i64 B.hi)
  obtain ⟨wz, hwz⟩ : ∃ q, q = (W.setCell ⟨w.heap.size + 1, 0, none⟩ (.int .i64 B.lo)).setCell ⟨w.heap.size + 1, 1, none⟩ (.int .i64 B.hi) := ⟨_, rfl⟩
  rw [← hwz] at kz bz
  obtain ⟨c4, f4, l4⟩ := k8.rules
  go_wp2
  rw [← hwz]
  clear hwz c4 f4 l4
  obtain ⟨c4, f4, l4⟩ := kz.rules
  exact bodyPost_ret (v := .agg #[.int .i64 B.lo, .int .i64 B.hi]) (by simp [results, Tryz.results116, go_sem, c4]) rfl ⟨rfl, bz⟩
set_option maxRecDepth 100000 in
set_option maxHeartbeats 2000000 in
theorem Rturned_any (r : Reg) (h : Hdg) (w : World) (hr : okReg r = true) (hh : okHdg h = true) :
    Calls Tryz.prog 67 #[.agg (regA r), .agg #[.int .i64 h.p, .int .i64 h.q, .int .i64 h.c]] w fun e w' => e = .returned (.agg (regA (turnedS r h))) ∧ Below w.heap.size w w' := by
  obtain ⟨h1, h2, h3, h4, h5, h6, -⟩ := of_decide_eq_true hh
  have t1 := IntWalk.i64_in (-h.q) (by omega)
  have t2 := IntWalk.i64_in (h.p + h.q) (by omega)
  have t3 := IntWalk.i64_in (h.p - h.q) (by omega)
  have t4 := IntWalk.i64_in (-h.p) (by omega)
  have t5 := IntWalk.i64_in (-h.p - h.q) (by omega)
  have s1 := fun W => Rspans_any r h.p (-h.q) h.c W hr (by omega) (by omega) (by omega)
  have s2 := fun W => Rspans_any r h.q h.p h.c W hr (by omega) (by omega) (by omega)
  have s3 := fun W => Rspans_any r (h.p + h.q) (h.p - h.q) h.c W hr (by omega) (by omega) (by omega)
  have s4 := fun W => Rspans_any r (h.p - h.q) (-h.p - h.q) h.c W hr (by omega) (by omega) (by omega)
  have hT : turnedS r h = ⟨turnB r h.c h.p (-h.q), turnB r h.c h.q h.p, turnB r h.c (h.p + h.q) (h.p - h.q), turnB r h.c (h.p - h.q) (-h.p - h.q)⟩ := by
    unfold turnedS
    rw [show -h.q - h.p = -h.p - h.q by omega]
  rw [hT]
  clear hT hr hh h1 h2 h3 h4 h5 h6
  generalize turnB r h.c h.p (-h.q) = A1 at *
  generalize turnB r h.c h.q h.p = A2 at *
  generalize turnB r h.c (h.p + h.q) (h.p - h.q) = A3 at *
  generalize turnB r h.c (h.p - h.q) (-h.p - h.q) = A4 at *
  simp only [regA] at s1 s2 s3 s4 ⊢
  obtain ⟨w1, hw1⟩ : ∃ w1, w1 = ((w.alloc (.cells #[.int .i64 r.x.lo, .int .i64 r.x.hi, .int .i64 r.y.lo, .int .i64 r.y.hi, .int .i64 r.s.lo, .int .i64 r.s.hi, .int .i64 r.d.lo, .int .i64 r.d.hi] 45)).alloc (.cells #[.int .i64 h.p, .int .i64 h.q, .int .i64 h.c] 47)).alloc (.cells #[.int .i64 0, .int .i64 0, .int .i64 0, .int .i64 0, .int .i64 0, .int .i64 0, .int .i64 0, .int .i64 0] 45) := ⟨_, rfl⟩
  have k2 : Blk w1 w.heap.size 45 #[.int .i64 r.x.lo, .int .i64 r.x.hi, .int .i64 r.y.lo, .int .i64 r.y.hi, .int .i64 r.s.lo, .int .i64 r.s.hi, .int .i64 r.d.lo, .int .i64 r.d.hi] := by rw [hw1]; exact ((Blk.new _ _ _).alloc _).alloc _
  have k3 : Blk w1 (w.heap.size + 1) 47 #[.int .i64 h.p, .int .i64 h.q, .int .i64 h.c] := by rw [hw1]; exact (Blk.newAt (by simp)).alloc _
  have k4 : Blk w1 (w.heap.size + 1 + 1) 45 #[.int .i64 0, .int .i64 0, .int .i64 0, .int .i64 0, .int .i64 0, .int .i64 0, .int .i64 0, .int .i64 0] := by rw [hw1]; exact Blk.newAt (by simp)
  have hb : Below w.heap.size w w1 := by rw [hw1]; exact (((Below.refl _ _).alloc (Nat.le_refl _) _).alloc (by simp) _).alloc (by simp; omega) _
  go_enter Tryz.func67, Tryz.ntmps67
  go_wp2_with fail
  rw [← hw1]
  clear hw1
  refine wp_held_np (fun w' : World => (∀ j, w'.cell? ⟨w.heap.size, j, none⟩ = #[Value.int .i64 r.x.lo, .int .i64 r.x.hi, .int .i64 r.y.lo, .int .i64 r.y.hi, .int .i64 r.s.lo, .int .i64 r.s.hi, .int .i64 r.d.lo, .int .i64 r.d.hi][j]?) ∧ (∀ j, w'.cell? ⟨w.heap.size + 1, j, none⟩ = #[Value.int .i64 h.p, .int .i64 h.q, .int .i64 h.c][j]?)) (by kernel_rfl) ?_
  replace k2 := k2.drew
  replace k3 := k3.drew
  replace k4 := k4.drew
  replace hb := hb.drew
  generalize w1.drew = W at *
  have hS : (fun w' : World => (∀ j, w'.cell? ⟨w.heap.size, j, none⟩ = #[Value.int .i64 r.x.lo, .int .i64 r.x.hi, .int .i64 r.y.lo, .int .i64 r.y.hi, .int .i64 r.s.lo, .int .i64 r.s.hi, .int .i64 r.d.lo, .int .i64 r.d.hi][j]?) ∧ (∀ j, w'.cell? ⟨w.heap.size + 1, j, none⟩ = #[Value.int .i64 h.p, .int .i64 h.q, .int .i64 h.c][j]?)) W := ⟨k2.cell, k3.cell⟩
  refine held_take (i := 0) (v := ?_) 5 rfl rfl (by kernel_rfl) (by kernel_rfl) (by kernel_rfl) (fun _ _ _ h => h) (Or.inl ⟨by rfl, ?_⟩) hS ?_
  rotate_left 1
  · intro w' hSw
    try dsimp only at hSw
    obtain ⟨q1, q2⟩ := hSw
    go_simp
    all_goals with_reducible rfl
  try simp only [Act.put, List.setIfInBounds_toArray, List.set_cons_zero, List.set_cons_succ]
  refine held_take (i := 1) (v := ?_) 6 rfl rfl (by kernel_rfl) (by kernel_rfl) (by kernel_rfl) (fun _ _ _ h => h) (Or.inl ⟨by rfl, ?_⟩) hS ?_
  rotate_left 1
  · intro w' hSw
    try dsimp only at hSw
    obtain ⟨q1, q2⟩ := hSw
    go_simp
    all_goals with_reducible rfl
  try simp only [Act.put, List.setIfInBounds_toArray, List.set_cons_zero, List.set_cons_succ]
  refine held_take (i := 2) (v := ?_) 7 rfl rfl (by kernel_rfl) (by kernel_rfl) (by kernel_rfl) (fun _ _ _ h => h) (Or.inl ⟨by rfl, ?_⟩) hS ?_
  rotate_left 1
  · intro w' hSw
    try dsimp only at hSw
    obtain ⟨q1, q2⟩ := hSw
    go_simp
    all_goals with_reducible rfl
  try simp only [Act.put, List.setIfInBounds_toArray, List.set_cons_zero, List.set_cons_succ]
  refine held_take (i := 3) (v := ?_) 8 rfl rfl (by kernel_rfl) (by kernel_rfl) (by kernel_rfl) (fun _ _ _ h => h) (Or.inl ⟨by rfl, ?_⟩) hS ?_
  rotate_left 1
  · intro w' hSw
    try dsimp only at hSw
    obtain ⟨q1, q2⟩ := hSw
    go_simp
    all_goals with_reducible rfl
  try simp only [Act.put, List.setIfInBounds_toArray, List.set_cons_zero, List.set_cons_succ]
  refine held_take (i := 4) (v := ?_) 9 rfl rfl (by kernel_rfl) (by kernel_rfl) (by kernel_rfl) (fun _ _ _ h => h) (Or.inl ⟨by rfl, ?_⟩) hS ?_
  rotate_left 1
  · intro w' hSw
    try dsimp only at hSw
    obtain ⟨q1, q2⟩ := hSw
    go_simp
    all_goals with_reducible rfl
  try simp only [Act.put, List.setIfInBounds_toArray, List.set_cons_zero, List.set_cons_succ]
  refine held_take (i := 5) (v := ?_) 10 rfl rfl (by kernel_rfl) (by kernel_rfl) (by kernel_rfl) (fun _ _ _ h => h) (Or.inl ⟨by rfl, ?_⟩) hS ?_
  rotate_left 1
  · intro w' hSw
    try dsimp only at hSw
    obtain ⟨q1, q2⟩ := hSw
    go_simp
    all_goals with_reducible rfl
  try simp only [Act.put, List.setIfInBounds_toArray, List.set_cons_zero, List.set_cons_succ]
  refine held_take (i := 6) (v := ?_) 11 rfl rfl (by kernel_rfl) (by kernel_rfl) (by kernel_rfl) (fun _ _ _ h => h) (Or.inl ⟨by rfl, ?_⟩) hS ?_
  rotate_left 1
  · intro w' hSw
    try dsimp only at hSw
    obtain ⟨q1, q2⟩ := hSw
    go_simp
    all_goals with_reducible rfl
  try simp only [Act.put, List.setIfInBounds_toArray, List.set_cons_zero, List.set_cons_succ]
  refine held_take (i := 7) (v := ?_) 12 rfl rfl (by kernel_rfl) (by kernel_rfl) (by kernel_rfl) (fun _ _ _ h => h) (Or.inl ⟨by rfl, ?_⟩) hS ?_
  rotate_left 1
  · intro w' hSw
    try dsimp only at hSw
    obtain ⟨q1, q2⟩ := hSw
    go_simp
    all_goals with_reducible rfl
  try simp only [Act.put, List.setIfInBounds_toArray, List.set_cons_zero, List.set_cons_succ]
  refine held_take (i := 9) (v := ?_) 14 rfl rfl (by kernel_rfl) (by kernel_rfl) (by kernel_rfl) (fun _ _ _ h => h) (Or.inl ⟨by rfl, ?_⟩) hS ?_
  rotate_left 1
  · intro w' hSw
    try dsimp only at hSw
    obtain ⟨q1, q2⟩ := hSw
    go_simp
    all_goals with_reducible rfl
  try simp only [Act.put, List.setIfInBounds_toArray, List.set_cons_zero, List.set_cons_succ]
  refine held_take (i := 10) (v := ?_) 15 rfl rfl (by kernel_rfl) (by kernel_rfl) (by kernel_rfl) (fun _ _ _ h => h) (Or.inl ⟨by rfl, ?_⟩) hS ?_
  rotate_left 1
  · intro w' hSw
    try dsimp only at hSw
    obtain ⟨q1, q2⟩ := hSw
    go_simp
    all_goals with_reducible rfl
  try simp only [Act.put, List.setIfInBounds_toArray, List.set_cons_zero, List.set_cons_succ]
  refine held_take (i := 11) (v := ?_) 16 rfl rfl (by kernel_rfl) (by kernel_rfl) (by kernel_rfl) (fun _ _ _ h => h) (Or.inl ⟨by rfl, ?_⟩) hS ?_
  rotate_left 1
  · intro w' hSw
    try dsimp only at hSw
    obtain ⟨q1, q2⟩ := hSw
    go_simp
    all_goals with_reducible rfl
  try simp only [Act.put, List.setIfInBounds_toArray, List.set_cons_zero, List.set_cons_succ]
  refine held_take (i := 12) (v := ?_) 17 rfl rfl (by kernel_rfl) (by kernel_rfl) (by kernel_rfl) (fun _ _ _ h => h) (Or.inl ⟨by rfl, ?_⟩) hS ?_
  rotate_left 1
  · intro w' hSw
    try dsimp only at hSw
    obtain ⟨q1, q2⟩ := hSw
    go_simp
    all_goals with_reducible rfl
  try simp only [Act.put, List.setIfInBounds_toArray, List.set_cons_zero, List.set_cons_succ]
  refine held_take (i := 13) (v := ?_) 18 rfl rfl (by kernel_rfl) (by kernel_rfl) (by kernel_rfl) (fun _ _ _ h => h) (Or.inl ⟨by rfl, ?_⟩) hS ?_
  rotate_left 1
  · intro w' hSw
    try dsimp only at hSw
    obtain ⟨q1, q2⟩ := hSw
    go_simp
    all_goals with_reducible rfl
  try simp only [Act.put, List.setIfInBounds_toArray, List.set_cons_zero, List.set_cons_succ]
  refine held_take (i := 14) (v := ?_) 19 rfl rfl (by kernel_rfl) (by kernel_rfl) (by kernel_rfl) (fun _ _ _ h => h) (Or.inl ⟨by rfl, ?_⟩) hS ?_
  rotate_left 1
  · intro w' hSw
    try dsimp only at hSw
    obtain ⟨q1, q2⟩ := hSw
    go_simp
    all_goals with_reducible rfl
  try simp only [Act.put, List.setIfInBounds_toArray, List.set_cons_zero, List.set_cons_succ]
  refine held_take (i := 15) (v := ?_) 20 rfl rfl (by kernel_rfl) (by kernel_rfl) (by kernel_rfl) (fun _ _ _ h => h) (Or.inl ⟨by rfl, ?_⟩) hS ?_
  rotate_left 1
  · intro w' hSw
    try dsimp only at hSw
    obtain ⟨q1, q2⟩ := hSw
    go_simp
    all_goals with_reducible rfl
  try simp only [Act.put, List.setIfInBounds_toArray, List.set_cons_zero, List.set_cons_succ]
  refine held_take (i := 17) (v := ?_) 22 rfl rfl (by kernel_rfl) (by kernel_rfl) (by kernel_rfl) (fun _ _ _ h => h) (Or.inl ⟨by rfl, ?_⟩) hS ?_
  rotate_left 1
  · intro w' hSw
    try dsimp only at hSw
    obtain ⟨q1, q2⟩ := hSw
    go_simp
    all_goals with_reducible rfl
  try simp only [Act.put, List.setIfInBounds_toArray, List.set_cons_zero, List.set_cons_succ]
  refine held_take (i := 18) (v := ?_) 23 rfl rfl (by kernel_rfl) (by kernel_rfl) (by kernel_rfl) (fun _ _ _ h => h) (Or.inl ⟨by rfl, ?_⟩) hS ?_
  rotate_left 1
  · intro w' hSw
    try dsimp only at hSw
    obtain ⟨q1, q2⟩ := hSw
    go_simp
    all_goals with_reducible rfl
  try simp only [Act.put, List.setIfInBounds_toArray, List.set_cons_zero, List.set_cons_succ]
  refine held_take (i := 19) (v := ?_) 24 rfl rfl (by kernel_rfl) (by kernel_rfl) (by kernel_rfl) (fun _ _ _ h => h) (Or.inl ⟨by rfl, ?_⟩) hS ?_
  rotate_left 1
  · intro w' hSw
    try dsimp only at hSw
    obtain ⟨q1, q2⟩ := hSw
    go_simp
    all_goals with_reducible rfl
  try simp only [Act.put, List.setIfInBounds_toArray, List.set_cons_zero, List.set_cons_succ]
  refine held_take (i := 20) (v := ?_) 25 rfl rfl (by kernel_rfl) (by kernel_rfl) (by kernel_rfl) (fun _ _ _ h => h) (Or.inl ⟨by rfl, ?_⟩) hS ?_
  rotate_left 1
  · intro w' hSw
    try dsimp only at hSw
    obtain ⟨q1, q2⟩ := hSw
    go_simp
    all_goals with_reducible rfl
  try simp only [Act.put, List.setIfInBounds_toArray, List.set_cons_zero, List.set_cons_succ]
  refine held_take (i := 21) (v := ?_) 26 rfl rfl (by kernel_rfl) (by kernel_rfl) (by kernel_rfl) (fun _ _ _ h => h) (Or.inl ⟨by rfl, ?_⟩) hS ?_
  rotate_left 1
  · intro w' hSw
    try dsimp only at hSw
    obtain ⟨q1, q2⟩ := hSw
    go_simp
    all_goals with_reducible rfl
  try simp only [Act.put, List.setIfInBounds_toArray, List.set_cons_zero, List.set_cons_succ]
  refine held_take (i := 22) (v := ?_) 27 rfl rfl (by kernel_rfl) (by kernel_rfl) (by kernel_rfl) (fun _ _ _ h => h) (Or.inl ⟨by rfl, ?_⟩) hS ?_
  rotate_left 1
  · intro w' hSw
    try dsimp only at hSw
    obtain ⟨q1, q2⟩ := hSw
    go_simp
    all_goals with_reducible rfl
  try simp only [Act.put, List.setIfInBounds_toArray, List.set_cons_zero, List.set_cons_succ]
  refine held_take (i := 23) (v := ?_) 28 rfl rfl (by kernel_rfl) (by kernel_rfl) (by kernel_rfl) (fun _ _ _ h => h) (Or.inl ⟨by rfl, ?_⟩) hS ?_
  rotate_left 1
  · intro w' hSw
    try dsimp only at hSw
    obtain ⟨q1, q2⟩ := hSw
    go_simp
    all_goals with_reducible rfl
  try simp only [Act.put, List.setIfInBounds_toArray, List.set_cons_zero, List.set_cons_succ]
  refine held_take (i := 24) (v := ?_) 29 rfl rfl (by kernel_rfl) (by kernel_rfl) (by kernel_rfl) (fun _ _ _ h => h) (Or.inl ⟨by rfl, ?_⟩) hS ?_
  rotate_left 1
  · intro w' hSw
    try dsimp only at hSw
    obtain ⟨q1, q2⟩ := hSw
    go_simp
    all_goals with_reducible rfl
  try simp only [Act.put, List.setIfInBounds_toArray, List.set_cons_zero, List.set_cons_succ]
  refine held_take (i := 25) (v := ?_) 30 rfl rfl (by kernel_rfl) (by kernel_rfl) (by kernel_rfl) (fun _ _ _ h => h) (Or.inl ⟨by rfl, ?_⟩) hS ?_
  rotate_left 1
  · intro w' hSw
    try dsimp only at hSw
    obtain ⟨q1, q2⟩ := hSw
    go_simp
    all_goals with_reducible rfl
  try simp only [Act.put, List.setIfInBounds_toArray, List.set_cons_zero, List.set_cons_succ]
  refine held_take (i := 26) (v := ?_) 31 rfl rfl (by kernel_rfl) (by kernel_rfl) (by kernel_rfl) (fun _ _ _ h => h) (Or.inl ⟨by rfl, ?_⟩) hS ?_
  rotate_left 1
  · intro w' hSw
    try dsimp only at hSw
    obtain ⟨q1, q2⟩ := hSw
    go_simp
    all_goals with_reducible rfl
  try simp only [Act.put, List.setIfInBounds_toArray, List.set_cons_zero, List.set_cons_succ]
  refine held_take (i := 27) (v := ?_) 32 rfl rfl (by kernel_rfl) (by kernel_rfl) (by kernel_rfl) (fun _ _ _ h => h) (Or.inl ⟨by rfl, ?_⟩) hS ?_
  rotate_left 1
  · intro w' hSw
    try dsimp only at hSw
    obtain ⟨q1, q2⟩ := hSw
    go_simp
    all_goals with_reducible rfl
  try simp only [Act.put, List.setIfInBounds_toArray, List.set_cons_zero, List.set_cons_succ]
  refine held_take (i := 28) (v := ?_) 33 rfl rfl (by kernel_rfl) (by kernel_rfl) (by kernel_rfl) (fun _ _ _ h => h) (Or.inl ⟨by rfl, ?_⟩) hS ?_
  rotate_left 1
  · intro w' hSw
    try dsimp only at hSw
    obtain ⟨q1, q2⟩ := hSw
    go_simp
    all_goals with_reducible rfl
  try simp only [Act.put, List.setIfInBounds_toArray, List.set_cons_zero, List.set_cons_succ]
  refine held_take (i := 29) (v := ?_) 34 rfl rfl (by kernel_rfl) (by kernel_rfl) (by kernel_rfl) (fun _ _ _ h => h) (Or.inl ⟨by rfl, ?_⟩) hS ?_
  rotate_left 1
  · intro w' hSw
    try dsimp only at hSw
    obtain ⟨q1, q2⟩ := hSw
    go_simp
    all_goals with_reducible rfl
  try simp only [Act.put, List.setIfInBounds_toArray, List.set_cons_zero, List.set_cons_succ]
  refine held_take (i := 31) (v := ?_) 36 rfl rfl (by kernel_rfl) (by kernel_rfl) (by kernel_rfl) (fun _ _ _ h => h) (Or.inl ⟨by rfl, ?_⟩) hS ?_
  rotate_left 1
  · intro w' hSw
    try dsimp only at hSw
    obtain ⟨q1, q2⟩ := hSw
    go_simp
    all_goals with_reducible rfl
  try simp only [Act.put, List.setIfInBounds_toArray, List.set_cons_zero, List.set_cons_succ]
  refine held_take (i := 32) (v := ?_) 37 rfl rfl (by kernel_rfl) (by kernel_rfl) (by kernel_rfl) (fun _ _ _ h => h) (Or.inl ⟨by rfl, ?_⟩) hS ?_
  rotate_left 1
  · intro w' hSw
    try dsimp only at hSw
    obtain ⟨q1, q2⟩ := hSw
    go_simp
    all_goals with_reducible rfl
  try simp only [Act.put, List.setIfInBounds_toArray, List.set_cons_zero, List.set_cons_succ]
  refine held_take (i := 33) (v := ?_) 38 rfl rfl (by kernel_rfl) (by kernel_rfl) (by kernel_rfl) (fun _ _ _ h => h) (Or.inl ⟨by rfl, ?_⟩) hS ?_
  rotate_left 1
  · intro w' hSw
    try dsimp only at hSw
    obtain ⟨q1, q2⟩ := hSw
    go_simp
    all_goals with_reducible rfl
  try simp only [Act.put, List.setIfInBounds_toArray, List.set_cons_zero, List.set_cons_succ]
  refine held_take (i := 34) (v := ?_) 39 rfl rfl (by kernel_rfl) (by kernel_rfl) (by kernel_rfl) (fun _ _ _ h => h) (Or.inl ⟨by rfl, ?_⟩) hS ?_
  rotate_left 1
  · intro w' hSw
    try dsimp only at hSw
    obtain ⟨q1, q2⟩ := hSw
    go_simp
    all_goals with_reducible rfl
  try simp only [Act.put, List.setIfInBounds_toArray, List.set_cons_zero, List.set_cons_succ]
  refine held_take (i := 35) (v := ?_) 40 rfl rfl (by kernel_rfl) (by kernel_rfl) (by kernel_rfl) (fun _ _ _ h => h) (Or.inl ⟨by rfl, ?_⟩) hS ?_
  rotate_left 1
  · intro w' hSw
    try dsimp only at hSw
    obtain ⟨q1, q2⟩ := hSw
    go_simp
    all_goals with_reducible rfl
  try simp only [Act.put, List.setIfInBounds_toArray, List.set_cons_zero, List.set_cons_succ]
  refine held_take (i := 36) (v := ?_) 41 rfl rfl (by kernel_rfl) (by kernel_rfl) (by kernel_rfl) (fun _ _ _ h => h) (Or.inl ⟨by rfl, ?_⟩) hS ?_
  rotate_left 1
  · intro w' hSw
    try dsimp only at hSw
    obtain ⟨q1, q2⟩ := hSw
    go_simp
    all_goals with_reducible rfl
  try simp only [Act.put, List.setIfInBounds_toArray, List.set_cons_zero, List.set_cons_succ]
  refine held_take (i := 37) (v := ?_) 42 rfl rfl (by kernel_rfl) (by kernel_rfl) (by kernel_rfl) (fun _ _ _ h => h) (Or.inl ⟨by rfl, ?_⟩) hS ?_
  rotate_left 1
  · intro w' hSw
    try dsimp only at hSw
    obtain ⟨q1, q2⟩ := hSw
    go_simp
    all_goals with_reducible rfl
  try simp only [Act.put, List.setIfInBounds_toArray, List.set_cons_zero, List.set_cons_succ]
  refine held_take (i := 38) (v := ?_) 43 rfl rfl (by kernel_rfl) (by kernel_rfl) (by kernel_rfl) (fun _ _ _ h => h) (Or.inl ⟨by rfl, ?_⟩) hS ?_
  rotate_left 1
  · intro w' hSw
    try dsimp only at hSw
    obtain ⟨q1, q2⟩ := hSw
    go_simp
    all_goals with_reducible rfl
  try simp only [Act.put, List.setIfInBounds_toArray, List.set_cons_zero, List.set_cons_succ]
  refine held_take (i := 39) (v := ?_) 44 rfl rfl (by kernel_rfl) (by kernel_rfl) (by kernel_rfl) (fun _ _ _ h => h) (Or.inl ⟨by rfl, ?_⟩) hS ?_
  rotate_left 1
  · intro w' hSw
    try dsimp only at hSw
    obtain ⟨q1, q2⟩ := hSw
    go_simp
    all_goals with_reducible rfl
  try simp only [Act.put, List.setIfInBounds_toArray, List.set_cons_zero, List.set_cons_succ]
  refine held_take (i := 40) (v := ?_) 45 rfl rfl (by kernel_rfl) (by kernel_rfl) (by kernel_rfl) (fun _ _ _ h => h) (Or.inl ⟨by rfl, ?_⟩) hS ?_
  rotate_left 1
  · intro w' hSw
    try dsimp only at hSw
    obtain ⟨q1, q2⟩ := hSw
    go_simp
    all_goals with_reducible rfl
  try simp only [Act.put, List.setIfInBounds_toArray, List.set_cons_zero, List.set_cons_succ]
  refine held_take (i := 41) (v := ?_) 46 rfl rfl (by kernel_rfl) (by kernel_rfl) (by kernel_rfl) (fun _ _ _ h => h) (Or.inl ⟨by rfl, ?_⟩) hS ?_
  rotate_left 1
  · intro w' hSw
    try dsimp only at hSw
    obtain ⟨q1, q2⟩ := hSw
    go_simp
    all_goals with_reducible rfl
  try simp only [Act.put, List.setIfInBounds_toArray, List.set_cons_zero, List.set_cons_succ]
  refine held_take (i := 42) (v := ?_) 47 rfl rfl (by kernel_rfl) (by kernel_rfl) (by kernel_rfl) (fun _ _ _ h => h) (Or.inl ⟨by rfl, ?_⟩) hS ?_
  rotate_left 1
  · intro w' hSw
    try dsimp only at hSw
    obtain ⟨q1, q2⟩ := hSw
    go_simp
    all_goals with_reducible rfl
  try simp only [Act.put, List.setIfInBounds_toArray, List.set_cons_zero, List.set_cons_succ]
  refine held_take (i := 43) (v := ?_) 48 rfl rfl (by kernel_rfl) (by kernel_rfl) (by kernel_rfl) (fun _ _ _ h => h) (Or.inl ⟨by rfl, ?_⟩) hS ?_
  rotate_left 1
  · intro w' hSw
    try dsimp only at hSw
    obtain ⟨q1, q2⟩ := hSw
    go_simp
    all_goals with_reducible rfl
  try simp only [Act.put, List.setIfInBounds_toArray, List.set_cons_zero, List.set_cons_succ]
  refine held_take (i := 44) (v := ?_) 49 rfl rfl (by kernel_rfl) (by kernel_rfl) (by kernel_rfl) (fun _ _ _ h => h) (Or.inl ⟨by rfl, ?_⟩) hS ?_
  rotate_left 1
  · intro w' hSw
    try dsimp only at hSw
    obtain ⟨q1, q2⟩ := hSw
    go_simp
    all_goals with_reducible rfl
  try simp only [Act.put, List.setIfInBounds_toArray, List.set_cons_zero, List.set_cons_succ]
  refine held_one (i := 8) (by kernel_rfl) rfl rfl (fun K hK => ?_)
  go_simp
  refine (s1 _).mono ?_
  rintro e W1 ⟨rfl, hbel⟩
  clear hS
  replace k2 := k2.below hbel
  replace k3 := k3.below hbel
  replace k4 := k4.below hbel
  replace hb := hb.trans (hbel.mono hb.size)
  clear hbel
  have hS : (fun w' : World => (∀ j, w'.cell? ⟨w.heap.size, j, none⟩ = #[Value.int .i64 r.x.lo, .int .i64 r.x.hi, .int .i64 r.y.lo, .int .i64 r.y.hi, .int .i64 r.s.lo, .int .i64 r.s.hi, .int .i64 r.d.lo, .int .i64 r.d.hi][j]?) ∧ (∀ j, w'.cell? ⟨w.heap.size + 1, j, none⟩ = #[Value.int .i64 h.p, .int .i64 h.q, .int .i64 h.c][j]?)) W1 := ⟨k2.cell, k3.cell⟩
  refine hK _ _ hS ?_
  clear hK K
  try simp only [Act.put, List.setIfInBounds_toArray, List.set_cons_zero, List.set_cons_succ]
  refine held_one (i := 16) (by kernel_rfl) rfl rfl (fun K hK => ?_)
  go_simp
  refine (s2 _).mono ?_
  rintro e W1 ⟨rfl, hbel⟩
  clear hS
  replace k2 := k2.below hbel
  replace k3 := k3.below hbel
  replace k4 := k4.below hbel
  replace hb := hb.trans (hbel.mono hb.size)
  clear hbel
  have hS : (fun w' : World => (∀ j, w'.cell? ⟨w.heap.size, j, none⟩ = #[Value.int .i64 r.x.lo, .int .i64 r.x.hi, .int .i64 r.y.lo, .int .i64 r.y.hi, .int .i64 r.s.lo, .int .i64 r.s.hi, .int .i64 r.d.lo, .int .i64 r.d.hi][j]?) ∧ (∀ j, w'.cell? ⟨w.heap.size + 1, j, none⟩ = #[Value.int .i64 h.p, .int .i64 h.q, .int .i64 h.c][j]?)) W1 := ⟨k2.cell, k3.cell⟩
  refine hK _ _ hS ?_
  clear hK K
  try simp only [Act.put, List.setIfInBounds_toArray, List.set_cons_zero, List.set_cons_succ]
  refine held_one (i := 30) (by kernel_rfl) rfl rfl (fun K hK => ?_)
  go_simp
  refine (s3 _).mono ?_
  rintro e W1 ⟨rfl, hbel⟩
  clear hS
  replace k2 := k2.below hbel
  replace k3 := k3.below hbel
  replace k4 := k4.below hbel
  replace hb := hb.trans (hbel.mono hb.size)
  clear hbel
  have hS : (fun w' : World => (∀ j, w'.cell? ⟨w.heap.size, j, none⟩ = #[Value.int .i64 r.x.lo, .int .i64 r.x.hi, .int .i64 r.y.lo, .int .i64 r.y.hi, .int .i64 r.s.lo, .int .i64 r.s.hi, .int .i64 r.d.lo, .int .i64 r.d.hi][j]?) ∧ (∀ j, w'.cell? ⟨w.heap.size + 1, j, none⟩ = #[Value.int .i64 h.p, .int .i64 h.q, .int .i64 h.c][j]?)) W1 := ⟨k2.cell, k3.cell⟩
  refine hK _ _ hS ?_
  clear hK K
  try simp only [Act.put, List.setIfInBounds_toArray, List.set_cons_zero, List.set_cons_succ]
  refine held_one (i := 45) (by kernel_rfl) rfl rfl (fun K hK => ?_)
  go_simp
  refine (s4 _).mono ?_
  rintro e W1 ⟨rfl, hbel⟩
  clear hS
  replace k2 := k2.below hbel
  replace k3 := k3.below hbel
  replace k4 := k4.below hbel
  replace hb := hb.trans (hbel.mono hb.size)
  clear hbel
  have hS : (fun w' : World => (∀ j, w'.cell? ⟨w.heap.size, j, none⟩ = #[Value.int .i64 r.x.lo, .int .i64 r.x.hi, .int .i64 r.y.lo, .int .i64 r.y.hi, .int .i64 r.s.lo, .int .i64 r.s.hi, .int .i64 r.d.lo, .int .i64 r.d.hi][j]?) ∧ (∀ j, w'.cell? ⟨w.heap.size + 1, j, none⟩ = #[Value.int .i64 h.p, .int .i64 h.q, .int .i64 h.c][j]?)) W1 := ⟨k2.cell, k3.cell⟩
  refine hK _ _ hS ?_
  clear hK K
  try simp only [Act.put, List.setIfInBounds_toArray, List.set_cons_zero, List.set_cons_succ]
  refine held_take (i := 46) (v := ?_) 51 rfl rfl (by kernel_rfl) (by kernel_rfl) (by kernel_rfl) (fun _ _ _ h => h) (Or.inl ⟨by rfl, ?_⟩) hS ?_
  rotate_left 1
  · intro w' hSw
    try dsimp only at hSw
    obtain ⟨q1, q2⟩ := hSw
    go_simp
    all_goals with_reducible rfl
  try simp only [Act.put, List.setIfInBounds_toArray, List.set_cons_zero, List.set_cons_succ]
  have kz := k4.set8 (.int .i64 A1.lo) (.int .i64 A1.hi) (.int .i64 A2.lo) (.int .i64 A2.hi) (.int .i64 A3.lo) (.int .i64 A3.hi) (.int .i64 A4.lo) (.int .i64 A4.hi)
  have k2z := far_set8 k2 (g := w.heap.size + 1 + 1) (by omega) (.int .i64 A1.lo) (.int .i64 A1.hi) (.int .i64 A2.lo) (.int .i64 A2.hi) (.int .i64 A3.lo) (.int .i64 A3.hi) (.int .i64 A4.lo) (.int .i64 A4.hi)
  have k3z := far_set8 k3 (g := w.heap.size + 1 + 1) (by omega) (.int .i64 A1.lo) (.int .i64 A1.hi) (.int .i64 A2.lo) (.int .i64 A2.hi) (.int .i64 A3.lo) (.int .i64 A3.hi) (.int .i64 A4.lo) (.int .i64 A4.hi)
  have bz := below_set8 (g := w.heap.size + 1 + 1) hb (by omega) (.int .i64 A1.lo) (.int .i64 A1.hi) (.int .i64 A2.lo) (.int .i64 A2.hi) (.int .i64 A3.lo) (.int .i64 A3.hi) (.int .i64 A4.lo) (.int .i64 A4.hi)
  obtain ⟨wz, hwz⟩ : ∃ x, x = set8 W1 (w.heap.size + 1 + 1) (.int .i64 A1.lo) (.int .i64 A1.hi) (.int .i64 A2.lo) (.int .i64 A2.hi) (.int .i64 A3.lo) (.int .i64 A3.hi) (.int .i64 A4.lo) (.int .i64 A4.hi) := ⟨_, rfl⟩
  rw [← hwz] at kz k2z k3z bz
  simp only [set8] at hwz
  obtain ⟨c4, f4, l4⟩ := k4.rules
  refine held_one (i := 47) (by kernel_rfl) rfl rfl (fun K hK => ?_)
  go_simp
  rw [← hwz]
  clear hwz c4 f4 l4 hS
  have hS : (fun w' : World => (∀ j, w'.cell? ⟨w.heap.size, j, none⟩ = #[Value.int .i64 r.x.lo, .int .i64 r.x.hi, .int .i64 r.y.lo, .int .i64 r.y.hi, .int .i64 r.s.lo, .int .i64 r.s.hi, .int .i64 r.d.lo, .int .i64 r.d.hi][j]?) ∧ (∀ j, w'.cell? ⟨w.heap.size + 1, j, none⟩ = #[Value.int .i64 h.p, .int .i64 h.q, .int .i64 h.c][j]?)) wz := ⟨k2z.cell, k3z.cell⟩
  refine hK _ _ hS ?_
  clear hK K
  refine wpAnyH_done (by kernel_rfl) (noPanic_normal ?_) _
  clear hS
  go_wp2
  obtain ⟨c4, f4, l4⟩ := kz.rules
  exact bodyPost_ret (v := .agg #[.int .i64 A1.lo, .int .i64 A1.hi, .int .i64 A2.lo, .int .i64 A2.hi, .int .i64 A3.lo, .int .i64 A3.hi, .int .i64 A4.lo, .int .i64 A4.hi]) (by simp [results, Tryz.results67, go_sem, c4]) rfl ⟨rfl, bz⟩
end Go.Proofs.YtjiaepphnddpoaaGreat
