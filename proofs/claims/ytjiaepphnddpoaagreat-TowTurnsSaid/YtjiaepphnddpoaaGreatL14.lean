/-
  The law TowTurns.
-/
import Derived.Test.YtjiaepphnddpoaaGreatE1
import Derived.Test.YtjiaepphnddpoaaGreatM7
import Derived.Test.YtjiaepphnddpoaaGreatR15
namespace Go.Proofs.YtjiaepphnddpoaaGreat
open Go.RowKit Go.Shelf
set_option linter.unusedSimpArgs false
set_option linter.unusedVariables false

theorem ext_tight {r t : Reg} (p q : Int) (ht : tightO r = some t) : extB r p q = extB t p q := by
  obtain ⟨v, hv, -⟩ := (tight_tight ht).xlo
  have E := ext_spec p q ⟨v, hv⟩
  obtain ⟨v1, i1, e1⟩ := E.lo
  obtain ⟨v2, i2, e2⟩ := E.hi
  exact ext_eq ⟨v1, tight_of ht i1, e1⟩ ⟨v2, tight_of ht i2, e2⟩ fun u hu => E.has u (tight_in ht hu)
theorem turned_tight {r t : Reg} (h : Hdg) (ht : tightO r = some t) : turnedS t h = turnedS r h := by
  unfold turnedS turnB
  simp only [ext_tight _ _ ht]
set_option maxRecDepth 100000 in
set_option maxHeartbeats 2000000 in
theorem RTurned_any (r : Reg) (h : Hdg) (w : World) :
    Calls Tryz.prog 19 #[.agg (regA r), .agg #[.int .i64 h.p, .int .i64 h.q, .int .i64 h.c]] w fun e w' => e = .returned (.tuple #[.agg (regA (turnedR r h).1), .int .i64 (turnedR r h).2]) ∧ Below w.heap.size w w' := by
  have hchk := fun W => RCheckR_any r W
  have hhd := fun W => RCheckHeading_any h W
  have hti := fun W => RTight_any r W
  simp only [regA] at hchk hti
  obtain ⟨w1, hw1⟩ : ∃ w1, w1 = ((w.alloc (.cells #[.int .i64 r.x.lo, .int .i64 r.x.hi, .int .i64 r.y.lo, .int .i64 r.y.hi, .int .i64 r.s.lo, .int .i64 r.s.hi, .int .i64 r.d.lo, .int .i64 r.d.hi] 45)).alloc (.cells #[.int .i64 h.p, .int .i64 h.q, .int .i64 h.c] 47)).alloc (.cells #[.int .i64 0, .int .i64 0, .int .i64 0, .int .i64 0, .int .i64 0, .int .i64 0, .int .i64 0, .int .i64 0] 45) := ⟨_, rfl⟩
  have k2 : Blk w1 w.heap.size 45 #[.int .i64 r.x.lo, .int .i64 r.x.hi, .int .i64 r.y.lo, .int .i64 r.y.hi, .int .i64 r.s.lo, .int .i64 r.s.hi, .int .i64 r.d.lo, .int .i64 r.d.hi] := by rw [hw1]; exact ((Blk.new _ _ _).alloc _).alloc _
  have k3 : Blk w1 (w.heap.size + 1) 47 #[.int .i64 h.p, .int .i64 h.q, .int .i64 h.c] := by rw [hw1]; exact (Blk.newAt (by simp)).alloc _
  have k4 : Blk w1 (w.heap.size + 1 + 1) 45 #[.int .i64 0, .int .i64 0, .int .i64 0, .int .i64 0, .int .i64 0, .int .i64 0, .int .i64 0, .int .i64 0] := by rw [hw1]; exact Blk.newAt (by simp)
  have hb : Below w.heap.size w w1 := by rw [hw1]; exact (((Below.refl _ _).alloc (Nat.le_refl _) _).alloc (by simp) _).alloc (by simp; omega) _
  by_cases hr : okReg r = true
  · have hk : chkReg r = 0 := by simp [chkReg, hr]
    simp only [hk] at hchk
    by_cases hh : okHdg h = true
    · have hkh : chkHdg h = 0 := by simp [chkHdg, hh]
      simp only [hkh] at hhd
      cases ht : tightO r with
      | none =>
        have hv : turnedR r h = (noReg, 4) := by simp [turnedR, hr, hh, ht]
        have htr : tightR r = (noReg, 4) := by simp [tightR, hr, ht, doneR]
        rw [hv]
        simp only [htr, noReg] at hti
        simp only [regA, noReg]
        clear hv htr hk hkh hr hh ht
        go_enter Tryz.func19, Tryz.ntmps19
        go_wp2_with fail
        rw [← hw1]
        clear hw1
        refine (hchk _).mono ?_
        rintro e W ⟨rfl, hbel⟩
        replace k2 := k2.below hbel
        replace k3 := k3.below hbel
        replace k4 := k4.below hbel
        replace hb := hb.trans (hbel.mono hb.size)
        clear hbel hchk
        obtain ⟨c3, f3, l3⟩ := k3.rules
        go_wp2_with fail
        clear c3 f3 l3
        refine (hhd _).mono ?_
        rintro e W ⟨rfl, hbel⟩
        replace k2 := k2.below hbel
        replace k3 := k3.below hbel
        replace k4 := k4.below hbel
        replace hb := hb.trans (hbel.mono hb.size)
        clear hbel hhd
        obtain ⟨c2, f2, l2⟩ := k2.rules
        go_wp2_with fail
        clear c2 f2 l2
        refine (hti _).mono ?_
        rintro e W ⟨rfl, hbel⟩
        replace k2 := k2.below hbel
        replace k3 := k3.below hbel
        replace k4 := k4.below hbel
        replace hb := hb.trans (hbel.mono hb.size)
        clear hbel hti
        have kz := (k4.set8 (.int .i64 0) (.int .i64 0) (.int .i64 0) (.int .i64 0) (.int .i64 0) (.int .i64 0) (.int .i64 0) (.int .i64 0)).alloc (.cells #[.int .i64 0, .int .i64 0, .int .i64 0, .int .i64 0, .int .i64 0, .int .i64 0, .int .i64 0, .int .i64 0] 45)
        have bz0 := below_set8 (g := w.heap.size + 1 + 1) hb (by omega) (.int .i64 0) (.int .i64 0) (.int .i64 0) (.int .i64 0) (.int .i64 0) (.int .i64 0) (.int .i64 0) (.int .i64 0)
        have bz := bz0.alloc bz0.size (.cells #[.int .i64 0, .int .i64 0, .int .i64 0, .int .i64 0, .int .i64 0, .int .i64 0, .int .i64 0, .int .i64 0] 45)
        obtain ⟨wz, hwz⟩ : ∃ x, x = (set8 W (w.heap.size + 1 + 1) (.int .i64 0) (.int .i64 0) (.int .i64 0) (.int .i64 0) (.int .i64 0) (.int .i64 0) (.int .i64 0) (.int .i64 0)).alloc (.cells #[.int .i64 0, .int .i64 0, .int .i64 0, .int .i64 0, .int .i64 0, .int .i64 0, .int .i64 0, .int .i64 0] 45) := ⟨_, rfl⟩
        rw [← hwz] at kz bz
        simp only [set8] at hwz
        obtain ⟨c4, f4, l4⟩ := k4.rules
        go_wp2
        rw [← hwz]
        clear hwz c4 f4 l4
        obtain ⟨c2, f2, l2⟩ := kz.rules
        exact bodyPost_ret (v := .tuple #[.agg #[.int .i64 0, .int .i64 0, .int .i64 0, .int .i64 0, .int .i64 0, .int .i64 0, .int .i64 0, .int .i64 0], .int .i64 4]) (by simp [results, Tryz.results19, go_sem, c2]) rfl ⟨rfl, bz⟩
      | some t =>
        have htr : tightR r = (t, 0) := by simp [tightR, hr, ht, doneR]
        have htu := fun W => Rturned_any r h W hr hh
        rw [← turned_tight h ht] at htu
        simp only [htr] at hti
        obtain ⟨T, hT⟩ : ∃ T, turnedS t h = T := ⟨_, rfl⟩
        simp only [hT, regA] at htu
        have hx := fun W => rends_any T.x (-32768) 32768 W
        have hy := fun W => rends_any T.y (-32768) 32768 W
        have ex : ∀ b : Bnd, okBnd 32768 b = decide (-32768 ≤ b.lo ∧ b.lo ≤ b.hi ∧ b.hi ≤ 32768) := fun b => rfl
        simp only [← ex] at hx hy
        have hv : turnedR r h = if inPlane T = true then (T, 0) else (noReg, 7) := by simp only [turnedR, hr, hh, ht, if_true, hT]
        rw [hv]
        clear hv htr hk hkh hr hh ht hT ex
        simp only [regA] at hti ⊢
        cases e1 : okBnd 32768 T.x with
        | false =>
          simp only [e1] at hx
          have hp : inPlane T = false := by simp [inPlane, e1]
          rw [hp]
          simp only [noReg, Bool.false_eq_true, if_false]
          clear hp e1 hy
          go_enter Tryz.func19, Tryz.ntmps19
          go_wp2_with fail
          rw [← hw1]
          clear hw1
          refine (hchk _).mono ?_
          rintro e W ⟨rfl, hbel⟩
          replace k2 := k2.below hbel
          replace k3 := k3.below hbel
          replace k4 := k4.below hbel
          replace hb := hb.trans (hbel.mono hb.size)
          clear hbel hchk
          obtain ⟨c3, f3, l3⟩ := k3.rules
          go_wp2_with fail
          clear c3 f3 l3
          refine (hhd _).mono ?_
          rintro e W ⟨rfl, hbel⟩
          replace k2 := k2.below hbel
          replace k3 := k3.below hbel
          replace k4 := k4.below hbel
          replace hb := hb.trans (hbel.mono hb.size)
          clear hbel hhd
          obtain ⟨c2, f2, l2⟩ := k2.rules
          go_wp2_with fail
          clear c2 f2 l2
          refine (hti _).mono ?_
          rintro e W ⟨rfl, hbel⟩
          replace k2 := k2.below hbel
          replace k3 := k3.below hbel
          replace k4 := k4.below hbel
          replace hb := hb.trans (hbel.mono hb.size)
          clear hbel hti
          obtain ⟨c2, f2, l2⟩ := k2.rules
          obtain ⟨c3, f3, l3⟩ := k3.rules
          go_wp2_with fail
          clear c2 f2 l2 c3 f3 l3
          have k8 := Blk.new W 45 #[.int .i64 t.x.lo, .int .i64 t.x.hi, .int .i64 t.y.lo, .int .i64 t.y.hi, .int .i64 t.s.lo, .int .i64 t.s.hi, .int .i64 t.d.lo, .int .i64 t.d.hi]
          have hbel := (Below.refl W.heap.size W).alloc (Nat.le_refl _) (.cells #[.int .i64 t.x.lo, .int .i64 t.x.hi, .int .i64 t.y.lo, .int .i64 t.y.hi, .int .i64 t.s.lo, .int .i64 t.s.hi, .int .i64 t.d.lo, .int .i64 t.d.hi] 45)
          have hg4 : w.heap.size + 1 + 1 < W.heap.size := k4.lt
          replace k2 := k2.below hbel
          replace k3 := k3.below hbel
          replace k4 := k4.below hbel
          replace hb := hb.trans (hbel.mono hb.size)
          clear hbel
          generalize W.alloc (.cells #[.int .i64 t.x.lo, .int .i64 t.x.hi, .int .i64 t.y.lo, .int .i64 t.y.hi, .int .i64 t.s.lo, .int .i64 t.s.hi, .int .i64 t.d.lo, .int .i64 t.d.hi] 45) = W2 at *
          generalize W.heap.size = g8 at *
          clear k8 hg4
          refine (htu _).mono ?_
          rintro e W ⟨rfl, hbel⟩
          replace k2 := k2.below hbel
          replace k3 := k3.below hbel
          replace k4 := k4.below hbel
          replace hb := hb.trans (hbel.mono hb.size)
          clear hbel htu
          go_wp2_with fail
          have k10 := Blk.new W 45 #[.int .i64 T.x.lo, .int .i64 T.x.hi, .int .i64 T.y.lo, .int .i64 T.y.hi, .int .i64 T.s.lo, .int .i64 T.s.hi, .int .i64 T.d.lo, .int .i64 T.d.hi]
          have hbel := (Below.refl W.heap.size W).alloc (Nat.le_refl _) (.cells #[.int .i64 T.x.lo, .int .i64 T.x.hi, .int .i64 T.y.lo, .int .i64 T.y.hi, .int .i64 T.s.lo, .int .i64 T.s.hi, .int .i64 T.d.lo, .int .i64 T.d.hi] 45)
          have hg4 : w.heap.size + 1 + 1 < W.heap.size := k4.lt
          replace k2 := k2.below hbel
          replace k3 := k3.below hbel
          replace k4 := k4.below hbel
          replace hb := hb.trans (hbel.mono hb.size)
          clear hbel
          generalize W.alloc (.cells #[.int .i64 T.x.lo, .int .i64 T.x.hi, .int .i64 T.y.lo, .int .i64 T.y.hi, .int .i64 T.s.lo, .int .i64 T.s.hi, .int .i64 T.d.lo, .int .i64 T.d.hi] 45) = W2 at *
          generalize W.heap.size = g10 at *
          refine (hx _).mono ?_
          rintro e W ⟨rfl, hbel⟩
          replace k2 := k2.below hbel
          replace k3 := k3.below hbel
          replace k4 := k4.below hbel
          replace hb := hb.trans (hbel.mono hb.size)
          replace k10 := k10.below hbel
          clear hbel hx
          obtain ⟨c10, f10, l10⟩ := k10.rules
          clear c10 f10 l10 k10
          have kz := k4.set8 (.int .i64 0) (.int .i64 0) (.int .i64 0) (.int .i64 0) (.int .i64 0) (.int .i64 0) (.int .i64 0) (.int .i64 0)
          have bz := below_set8 (g := w.heap.size + 1 + 1) hb (by omega) (.int .i64 0) (.int .i64 0) (.int .i64 0) (.int .i64 0) (.int .i64 0) (.int .i64 0) (.int .i64 0) (.int .i64 0)
          obtain ⟨wz, hwz⟩ : ∃ x, x = set8 W (w.heap.size + 1 + 1) (.int .i64 0) (.int .i64 0) (.int .i64 0) (.int .i64 0) (.int .i64 0) (.int .i64 0) (.int .i64 0) (.int .i64 0) := ⟨_, rfl⟩
          rw [← hwz] at kz bz
          simp only [set8] at hwz
          obtain ⟨c2, f2, l2⟩ := k4.rules
          clear k4 hb
          go_wp2
          rw [← hwz]
          clear hwz c2 f2 l2
          obtain ⟨c2, f2, l2⟩ := kz.rules
          exact bodyPost_ret (v := .tuple #[.agg #[.int .i64 0, .int .i64 0, .int .i64 0, .int .i64 0, .int .i64 0, .int .i64 0, .int .i64 0, .int .i64 0], .int .i64 7]) (by simp [results, Tryz.results19, go_sem, c2]) rfl ⟨rfl, bz⟩
        | true =>
          simp only [e1] at hx
          cases e2 : okBnd 32768 T.y with
          | false =>
            simp only [e2] at hy
            have hp : inPlane T = false := by simp [inPlane, e2]
            rw [hp]
            simp only [noReg, Bool.false_eq_true, if_false]
            clear hp e1 e2
            go_enter Tryz.func19, Tryz.ntmps19
            go_wp2_with fail
            rw [← hw1]
            clear hw1
            refine (hchk _).mono ?_
            rintro e W ⟨rfl, hbel⟩
            replace k2 := k2.below hbel
            replace k3 := k3.below hbel
            replace k4 := k4.below hbel
            replace hb := hb.trans (hbel.mono hb.size)
            clear hbel hchk
            obtain ⟨c3, f3, l3⟩ := k3.rules
            go_wp2_with fail
            clear c3 f3 l3
            refine (hhd _).mono ?_
            rintro e W ⟨rfl, hbel⟩
            replace k2 := k2.below hbel
            replace k3 := k3.below hbel
            replace k4 := k4.below hbel
            replace hb := hb.trans (hbel.mono hb.size)
            clear hbel hhd
            obtain ⟨c2, f2, l2⟩ := k2.rules
            go_wp2_with fail
            clear c2 f2 l2
            refine (hti _).mono ?_
            rintro e W ⟨rfl, hbel⟩
            replace k2 := k2.below hbel
            replace k3 := k3.below hbel
            replace k4 := k4.below hbel
            replace hb := hb.trans (hbel.mono hb.size)
            clear hbel hti
            obtain ⟨c2, f2, l2⟩ := k2.rules
            obtain ⟨c3, f3, l3⟩ := k3.rules
            go_wp2_with fail
            clear c2 f2 l2 c3 f3 l3
            have k8 := Blk.new W 45 #[.int .i64 t.x.lo, .int .i64 t.x.hi, .int .i64 t.y.lo, .int .i64 t.y.hi, .int .i64 t.s.lo, .int .i64 t.s.hi, .int .i64 t.d.lo, .int .i64 t.d.hi]
            have hbel := (Below.refl W.heap.size W).alloc (Nat.le_refl _) (.cells #[.int .i64 t.x.lo, .int .i64 t.x.hi, .int .i64 t.y.lo, .int .i64 t.y.hi, .int .i64 t.s.lo, .int .i64 t.s.hi, .int .i64 t.d.lo, .int .i64 t.d.hi] 45)
            have hg4 : w.heap.size + 1 + 1 < W.heap.size := k4.lt
            replace k2 := k2.below hbel
            replace k3 := k3.below hbel
            replace k4 := k4.below hbel
            replace hb := hb.trans (hbel.mono hb.size)
            clear hbel
            generalize W.alloc (.cells #[.int .i64 t.x.lo, .int .i64 t.x.hi, .int .i64 t.y.lo, .int .i64 t.y.hi, .int .i64 t.s.lo, .int .i64 t.s.hi, .int .i64 t.d.lo, .int .i64 t.d.hi] 45) = W2 at *
            generalize W.heap.size = g8 at *
            clear k8 hg4
            refine (htu _).mono ?_
            rintro e W ⟨rfl, hbel⟩
            replace k2 := k2.below hbel
            replace k3 := k3.below hbel
            replace k4 := k4.below hbel
            replace hb := hb.trans (hbel.mono hb.size)
            clear hbel htu
            go_wp2_with fail
            have k10 := Blk.new W 45 #[.int .i64 T.x.lo, .int .i64 T.x.hi, .int .i64 T.y.lo, .int .i64 T.y.hi, .int .i64 T.s.lo, .int .i64 T.s.hi, .int .i64 T.d.lo, .int .i64 T.d.hi]
            have hbel := (Below.refl W.heap.size W).alloc (Nat.le_refl _) (.cells #[.int .i64 T.x.lo, .int .i64 T.x.hi, .int .i64 T.y.lo, .int .i64 T.y.hi, .int .i64 T.s.lo, .int .i64 T.s.hi, .int .i64 T.d.lo, .int .i64 T.d.hi] 45)
            have hg4 : w.heap.size + 1 + 1 < W.heap.size := k4.lt
            replace k2 := k2.below hbel
            replace k3 := k3.below hbel
            replace k4 := k4.below hbel
            replace hb := hb.trans (hbel.mono hb.size)
            clear hbel
            generalize W.alloc (.cells #[.int .i64 T.x.lo, .int .i64 T.x.hi, .int .i64 T.y.lo, .int .i64 T.y.hi, .int .i64 T.s.lo, .int .i64 T.s.hi, .int .i64 T.d.lo, .int .i64 T.d.hi] 45) = W2 at *
            generalize W.heap.size = g10 at *
            refine (hx _).mono ?_
            rintro e W ⟨rfl, hbel⟩
            replace k2 := k2.below hbel
            replace k3 := k3.below hbel
            replace k4 := k4.below hbel
            replace hb := hb.trans (hbel.mono hb.size)
            replace k10 := k10.below hbel
            clear hbel hx
            obtain ⟨c10, f10, l10⟩ := k10.rules
            go_wp2_with fail
            clear c10 f10 l10
            refine (hy _).mono ?_
            rintro e W ⟨rfl, hbel⟩
            replace k2 := k2.below hbel
            replace k3 := k3.below hbel
            replace k4 := k4.below hbel
            replace hb := hb.trans (hbel.mono hb.size)
            replace k10 := k10.below hbel
            clear hbel hy
            obtain ⟨c10, f10, l10⟩ := k10.rules
            clear c10 f10 l10 k10
            have kz := k4.set8 (.int .i64 0) (.int .i64 0) (.int .i64 0) (.int .i64 0) (.int .i64 0) (.int .i64 0) (.int .i64 0) (.int .i64 0)
            have bz := below_set8 (g := w.heap.size + 1 + 1) hb (by omega) (.int .i64 0) (.int .i64 0) (.int .i64 0) (.int .i64 0) (.int .i64 0) (.int .i64 0) (.int .i64 0) (.int .i64 0)
            obtain ⟨wz, hwz⟩ : ∃ x, x = set8 W (w.heap.size + 1 + 1) (.int .i64 0) (.int .i64 0) (.int .i64 0) (.int .i64 0) (.int .i64 0) (.int .i64 0) (.int .i64 0) (.int .i64 0) := ⟨_, rfl⟩
            rw [← hwz] at kz bz
            simp only [set8] at hwz
            obtain ⟨c2, f2, l2⟩ := k4.rules
            clear k4 hb
            go_wp2
            rw [← hwz]
            clear hwz c2 f2 l2
            obtain ⟨c2, f2, l2⟩ := kz.rules
            exact bodyPost_ret (v := .tuple #[.agg #[.int .i64 0, .int .i64 0, .int .i64 0, .int .i64 0, .int .i64 0, .int .i64 0, .int .i64 0, .int .i64 0], .int .i64 7]) (by simp [results, Tryz.results19, go_sem, c2]) rfl ⟨rfl, bz⟩
          | true =>
            simp only [e2] at hy
            have hp : inPlane T = true := by simp [inPlane, e1, e2]
            rw [hp]
            simp only [if_true]
            clear hp e1 e2
            go_enter Tryz.func19, Tryz.ntmps19
            go_wp2_with fail
            rw [← hw1]
            clear hw1
            refine (hchk _).mono ?_
            rintro e W ⟨rfl, hbel⟩
            replace k2 := k2.below hbel
            replace k3 := k3.below hbel
            replace k4 := k4.below hbel
            replace hb := hb.trans (hbel.mono hb.size)
            clear hbel hchk
            obtain ⟨c3, f3, l3⟩ := k3.rules
            go_wp2_with fail
            clear c3 f3 l3
            refine (hhd _).mono ?_
            rintro e W ⟨rfl, hbel⟩
            replace k2 := k2.below hbel
            replace k3 := k3.below hbel
            replace k4 := k4.below hbel
            replace hb := hb.trans (hbel.mono hb.size)
            clear hbel hhd
            obtain ⟨c2, f2, l2⟩ := k2.rules
            go_wp2_with fail
            clear c2 f2 l2
            refine (hti _).mono ?_
            rintro e W ⟨rfl, hbel⟩
            replace k2 := k2.below hbel
            replace k3 := k3.below hbel
            replace k4 := k4.below hbel
            replace hb := hb.trans (hbel.mono hb.size)
            clear hbel hti
            obtain ⟨c2, f2, l2⟩ := k2.rules
            obtain ⟨c3, f3, l3⟩ := k3.rules
            go_wp2_with fail
            clear c2 f2 l2 c3 f3 l3
            have k8 := Blk.new W 45 #[.int .i64 t.x.lo, .int .i64 t.x.hi, .int .i64 t.y.lo, .int .i64 t.y.hi, .int .i64 t.s.lo, .int .i64 t.s.hi, .int .i64 t.d.lo, .int .i64 t.d.hi]
            have hbel := (Below.refl W.heap.size W).alloc (Nat.le_refl _) (.cells #[.int .i64 t.x.lo, .int .i64 t.x.hi, .int .i64 t.y.lo, .int .i64 t.y.hi, .int .i64 t.s.lo, .int .i64 t.s.hi, .int .i64 t.d.lo, .int .i64 t.d.hi] 45)
            have hg4 : w.heap.size + 1 + 1 < W.heap.size := k4.lt
            replace k2 := k2.below hbel
            replace k3 := k3.below hbel
            replace k4 := k4.below hbel
            replace hb := hb.trans (hbel.mono hb.size)
            clear hbel
            generalize W.alloc (.cells #[.int .i64 t.x.lo, .int .i64 t.x.hi, .int .i64 t.y.lo, .int .i64 t.y.hi, .int .i64 t.s.lo, .int .i64 t.s.hi, .int .i64 t.d.lo, .int .i64 t.d.hi] 45) = W2 at *
            generalize W.heap.size = g8 at *
            clear k8 hg4
            refine (htu _).mono ?_
            rintro e W ⟨rfl, hbel⟩
            replace k2 := k2.below hbel
            replace k3 := k3.below hbel
            replace k4 := k4.below hbel
            replace hb := hb.trans (hbel.mono hb.size)
            clear hbel htu
            go_wp2_with fail
            have k10 := Blk.new W 45 #[.int .i64 T.x.lo, .int .i64 T.x.hi, .int .i64 T.y.lo, .int .i64 T.y.hi, .int .i64 T.s.lo, .int .i64 T.s.hi, .int .i64 T.d.lo, .int .i64 T.d.hi]
            have hbel := (Below.refl W.heap.size W).alloc (Nat.le_refl _) (.cells #[.int .i64 T.x.lo, .int .i64 T.x.hi, .int .i64 T.y.lo, .int .i64 T.y.hi, .int .i64 T.s.lo, .int .i64 T.s.hi, .int .i64 T.d.lo, .int .i64 T.d.hi] 45)
            have hg4 : w.heap.size + 1 + 1 < W.heap.size := k4.lt
            replace k2 := k2.below hbel
            replace k3 := k3.below hbel
            replace k4 := k4.below hbel
            replace hb := hb.trans (hbel.mono hb.size)
            clear hbel
            generalize W.alloc (.cells #[.int .i64 T.x.lo, .int .i64 T.x.hi, .int .i64 T.y.lo, .int .i64 T.y.hi, .int .i64 T.s.lo, .int .i64 T.s.hi, .int .i64 T.d.lo, .int .i64 T.d.hi] 45) = W2 at *
            generalize W.heap.size = g10 at *
            refine (hx _).mono ?_
            rintro e W ⟨rfl, hbel⟩
            replace k2 := k2.below hbel
            replace k3 := k3.below hbel
            replace k4 := k4.below hbel
            replace hb := hb.trans (hbel.mono hb.size)
            replace k10 := k10.below hbel
            clear hbel hx
            obtain ⟨c10, f10, l10⟩ := k10.rules
            go_wp2_with fail
            clear c10 f10 l10
            refine (hy _).mono ?_
            rintro e W ⟨rfl, hbel⟩
            replace k2 := k2.below hbel
            replace k3 := k3.below hbel
            replace k4 := k4.below hbel
            replace hb := hb.trans (hbel.mono hb.size)
            replace k10 := k10.below hbel
            clear hbel hy
            obtain ⟨c10, f10, l10⟩ := k10.rules
            have kz := k4.set8 (.int .i64 T.x.lo) (.int .i64 T.x.hi) (.int .i64 T.y.lo) (.int .i64 T.y.hi) (.int .i64 T.s.lo) (.int .i64 T.s.hi) (.int .i64 T.d.lo) (.int .i64 T.d.hi)
            have bz := below_set8 (g := w.heap.size + 1 + 1) hb (by omega) (.int .i64 T.x.lo) (.int .i64 T.x.hi) (.int .i64 T.y.lo) (.int .i64 T.y.hi) (.int .i64 T.s.lo) (.int .i64 T.s.hi) (.int .i64 T.d.lo) (.int .i64 T.d.hi)
            obtain ⟨wz, hwz⟩ : ∃ x, x = set8 W (w.heap.size + 1 + 1) (.int .i64 T.x.lo) (.int .i64 T.x.hi) (.int .i64 T.y.lo) (.int .i64 T.y.hi) (.int .i64 T.s.lo) (.int .i64 T.s.hi) (.int .i64 T.d.lo) (.int .i64 T.d.hi) := ⟨_, rfl⟩
            rw [← hwz] at kz bz
            simp only [set8] at hwz
            obtain ⟨c2, f2, l2⟩ := k4.rules
            clear k4 hb
            go_wp2
            rw [← hwz]
            clear hwz c2 f2 l2
            obtain ⟨c2, f2, l2⟩ := kz.rules
            exact bodyPost_ret (v := .tuple #[.agg #[.int .i64 T.x.lo, .int .i64 T.x.hi, .int .i64 T.y.lo, .int .i64 T.y.hi, .int .i64 T.s.lo, .int .i64 T.s.hi, .int .i64 T.d.lo, .int .i64 T.d.hi], .int .i64 0]) (by simp [results, Tryz.results19, go_sem, c2]) rfl ⟨rfl, bz⟩
    · have hkh : chkHdg h = 35 := by simp [chkHdg, hh]
      have hv : turnedR r h = (noReg, 35) := by simp [turnedR, hr, hh]
      rw [hv]
      simp only [hkh] at hhd
      simp only [regA, noReg]
      clear hti hv hkh hk hr hh
      go_enter Tryz.func19, Tryz.ntmps19
      go_wp2_with fail
      rw [← hw1]
      clear hw1
      refine (hchk _).mono ?_
      rintro e W ⟨rfl, hbel⟩
      replace k2 := k2.below hbel
      replace k3 := k3.below hbel
      replace k4 := k4.below hbel
      replace hb := hb.trans (hbel.mono hb.size)
      clear hbel hchk
      obtain ⟨c3, f3, l3⟩ := k3.rules
      go_wp2_with fail
      clear c3 f3 l3
      refine (hhd _).mono ?_
      rintro e W ⟨rfl, hbel⟩
      replace k2 := k2.below hbel
      replace k3 := k3.below hbel
      replace k4 := k4.below hbel
      replace hb := hb.trans (hbel.mono hb.size)
      clear hbel hhd
      have kz := k4.set8 (.int .i64 0) (.int .i64 0) (.int .i64 0) (.int .i64 0) (.int .i64 0) (.int .i64 0) (.int .i64 0) (.int .i64 0)
      have bz := below_set8 (g := w.heap.size + 1 + 1) hb (by omega) (.int .i64 0) (.int .i64 0) (.int .i64 0) (.int .i64 0) (.int .i64 0) (.int .i64 0) (.int .i64 0) (.int .i64 0)
      obtain ⟨wz, hwz⟩ : ∃ x, x = set8 W (w.heap.size + 1 + 1) (.int .i64 0) (.int .i64 0) (.int .i64 0) (.int .i64 0) (.int .i64 0) (.int .i64 0) (.int .i64 0) (.int .i64 0) := ⟨_, rfl⟩
      rw [← hwz] at kz bz
      simp only [set8] at hwz
      obtain ⟨c2, f2, l2⟩ := k4.rules
      clear k4 hb
      go_wp2
      rw [← hwz]
      clear hwz c2 f2 l2
      obtain ⟨c2, f2, l2⟩ := kz.rules
      exact bodyPost_ret (v := .tuple #[.agg #[.int .i64 0, .int .i64 0, .int .i64 0, .int .i64 0, .int .i64 0, .int .i64 0, .int .i64 0, .int .i64 0], .int .i64 35]) (by simp [results, Tryz.results19, go_sem, c2]) rfl ⟨rfl, bz⟩
  · have hk : chkReg r = 11 := by simp [chkReg, hr]
    have hv : turnedR r h = (noReg, 11) := by simp [turnedR, hr]
    rw [hv]
    simp only [hk] at hchk
    simp only [regA, noReg]
    clear hti hhd hv hk hr
    go_enter Tryz.func19, Tryz.ntmps19
    go_wp2_with fail
    rw [← hw1]
    clear hw1
    refine (hchk _).mono ?_
    rintro e W ⟨rfl, hbel⟩
    replace k2 := k2.below hbel
    replace k3 := k3.below hbel
    replace k4 := k4.below hbel
    replace hb := hb.trans (hbel.mono hb.size)
    clear hbel hchk
    have kz := k4.set8 (.int .i64 0) (.int .i64 0) (.int .i64 0) (.int .i64 0) (.int .i64 0) (.int .i64 0) (.int .i64 0) (.int .i64 0)
    have bz := below_set8 (g := w.heap.size + 1 + 1) hb (by omega) (.int .i64 0) (.int .i64 0) (.int .i64 0) (.int .i64 0) (.int .i64 0) (.int .i64 0) (.int .i64 0) (.int .i64 0)
    obtain ⟨wz, hwz⟩ : ∃ x, x = set8 W (w.heap.size + 1 + 1) (.int .i64 0) (.int .i64 0) (.int .i64 0) (.int .i64 0) (.int .i64 0) (.int .i64 0) (.int .i64 0) (.int .i64 0) := ⟨_, rfl⟩
    rw [← hwz] at kz bz
    simp only [set8] at hwz
    obtain ⟨c2, f2, l2⟩ := k4.rules
    clear k4 hb
    go_wp2
    rw [← hwz]
    clear hwz c2 f2 l2
    obtain ⟨c2, f2, l2⟩ := kz.rules
    exact bodyPost_ret (v := .tuple #[.agg #[.int .i64 0, .int .i64 0, .int .i64 0, .int .i64 0, .int .i64 0, .int .i64 0, .int .i64 0, .int .i64 0], .int .i64 11]) (by simp [results, Tryz.results19, go_sem, c2]) rfl ⟨rfl, bz⟩
theorem eq_regt (r : Reg) (w : World) : (Op.equalIn 10000 45 (.agg (regA r)) (.agg (regA r))).run Tryz.prog w = .ok true w := by
  simp only [regA]
  go_simp
set_option maxRecDepth 100000 in
set_option maxHeartbeats 2000000 in
theorem TowTurns_any (r : Reg) (h : Hdg) (w : World) :
    Calls Tryz.prog 4 #[.agg (regA r), .agg #[.int .i64 h.p, .int .i64 h.q, .int .i64 h.c]] w fun e w' => e = .returned (.bool true) ∧ Below w.heap.size w w' := by
  have h1 := fun W => Turned_any r h W
  have h2 := fun W => RTurned_any r h W
  have h3 := fun W => CheckHeading_any h W
  have h4 := fun W => RCheckHeading_any h W
  have h5 := fun W => works_any W
  obtain ⟨⟨R, er⟩, hR⟩ : ∃ R, turnedR r h = R := ⟨_, rfl⟩
  simp only [hR] at h1 h2
  generalize chkHdg h = eh at *
  have heq := fun W => eq_regt R W
  simp only [regA] at h1 h2 heq ⊢
  clear hR
  obtain ⟨w1, hw1⟩ : ∃ w1, w1 = (w.alloc (.cells #[.int .i64 r.x.lo, .int .i64 r.x.hi, .int .i64 r.y.lo, .int .i64 r.y.hi, .int .i64 r.s.lo, .int .i64 r.s.hi, .int .i64 r.d.lo, .int .i64 r.d.hi] 45)).alloc (.cells #[.int .i64 h.p, .int .i64 h.q, .int .i64 h.c] 47) := ⟨_, rfl⟩
  have k2 : Blk w1 w.heap.size 45 #[.int .i64 r.x.lo, .int .i64 r.x.hi, .int .i64 r.y.lo, .int .i64 r.y.hi, .int .i64 r.s.lo, .int .i64 r.s.hi, .int .i64 r.d.lo, .int .i64 r.d.hi] := by rw [hw1]; exact (Blk.new _ _ _).alloc _
  have k3 : Blk w1 (w.heap.size + 1) 47 #[.int .i64 h.p, .int .i64 h.q, .int .i64 h.c] := by rw [hw1]; exact Blk.newAt (by simp)
  have b : Below w.heap.size w w1 := by rw [hw1]; exact ((Below.refl _ _).alloc (Nat.le_refl _) _).alloc (by simp) _
  go_enter Tryz.func4, Tryz.ntmps4
  go_wp2_with fail
  rw [← hw1]
  clear hw1
  refine (h1 _).mono ?_
  rintro e W ⟨rfl, hbel⟩
  replace k2 := k2.below hbel
  replace k3 := k3.below hbel
  replace b := b.trans (hbel.mono b.size)
  clear hbel h1
  obtain ⟨c2, f2, l2⟩ := k2.rules
  obtain ⟨c3, f3, l3⟩ := k3.rules
  go_wp2_with fail
  clear c2 f2 l2 c3 f3 l3
  have k5 := Blk.new W 45 #[.int .i64 R.x.lo, .int .i64 R.x.hi, .int .i64 R.y.lo, .int .i64 R.y.hi, .int .i64 R.s.lo, .int .i64 R.s.hi, .int .i64 R.d.lo, .int .i64 R.d.hi]
  have hbel := (Below.refl W.heap.size W).alloc (Nat.le_refl _) (.cells #[.int .i64 R.x.lo, .int .i64 R.x.hi, .int .i64 R.y.lo, .int .i64 R.y.hi, .int .i64 R.s.lo, .int .i64 R.s.hi, .int .i64 R.d.lo, .int .i64 R.d.hi] 45)
  replace k2 := k2.below hbel
  replace k3 := k3.below hbel
  replace b := b.trans (hbel.mono b.size)
  clear hbel
  generalize W.alloc (.cells #[.int .i64 R.x.lo, .int .i64 R.x.hi, .int .i64 R.y.lo, .int .i64 R.y.hi, .int .i64 R.s.lo, .int .i64 R.s.hi, .int .i64 R.d.lo, .int .i64 R.d.hi] 45) = W2 at *
  generalize W.heap.size = g5 at *
  refine (h2 _).mono ?_
  rintro e W ⟨rfl, hbel⟩
  replace k2 := k2.below hbel
  replace k3 := k3.below hbel
  replace b := b.trans (hbel.mono b.size)
  replace k5 := k5.below hbel
  clear hbel h2
  go_wp2_with fail
  have k7 := Blk.new W 45 #[.int .i64 R.x.lo, .int .i64 R.x.hi, .int .i64 R.y.lo, .int .i64 R.y.hi, .int .i64 R.s.lo, .int .i64 R.s.hi, .int .i64 R.d.lo, .int .i64 R.d.hi]
  have hbel := (Below.refl W.heap.size W).alloc (Nat.le_refl _) (.cells #[.int .i64 R.x.lo, .int .i64 R.x.hi, .int .i64 R.y.lo, .int .i64 R.y.hi, .int .i64 R.s.lo, .int .i64 R.s.hi, .int .i64 R.d.lo, .int .i64 R.d.hi] 45)
  replace k2 := k2.below hbel
  replace k3 := k3.below hbel
  replace b := b.trans (hbel.mono b.size)
  replace k5 := k5.below hbel
  clear hbel
  generalize W.alloc (.cells #[.int .i64 R.x.lo, .int .i64 R.x.hi, .int .i64 R.y.lo, .int .i64 R.y.hi, .int .i64 R.s.lo, .int .i64 R.s.hi, .int .i64 R.d.lo, .int .i64 R.d.hi] 45) = W2 at *
  generalize W.heap.size = g7 at *
  refine wp_held_np (fun w' : World => (∀ j, w'.cell? ⟨g5, j, none⟩ = #[Value.int .i64 R.x.lo, .int .i64 R.x.hi, .int .i64 R.y.lo, .int .i64 R.y.hi, .int .i64 R.s.lo, .int .i64 R.s.hi, .int .i64 R.d.lo, .int .i64 R.d.hi][j]?) ∧ (∀ j, w'.cell? ⟨g7, j, none⟩ = #[Value.int .i64 R.x.lo, .int .i64 R.x.hi, .int .i64 R.y.lo, .int .i64 R.y.hi, .int .i64 R.s.lo, .int .i64 R.s.hi, .int .i64 R.d.lo, .int .i64 R.d.hi][j]?) ∧ (∀ j, w'.cell? ⟨w.heap.size + 1, j, none⟩ = #[Value.int .i64 h.p, .int .i64 h.q, .int .i64 h.c][j]?)) (by kernel_rfl) ?_
  have hbel : Below W2.heap.size W2 W2.drew := (Below.refl _ _).drew
  replace k2 := k2.below hbel
  replace k3 := k3.below hbel
  replace b := b.trans (hbel.mono b.size)
  replace k5 := k5.below hbel
  replace k7 := k7.below hbel
  clear hbel
  generalize W2.drew = wd at *
  have hS : (fun w' : World => (∀ j, w'.cell? ⟨g5, j, none⟩ = #[Value.int .i64 R.x.lo, .int .i64 R.x.hi, .int .i64 R.y.lo, .int .i64 R.y.hi, .int .i64 R.s.lo, .int .i64 R.s.hi, .int .i64 R.d.lo, .int .i64 R.d.hi][j]?) ∧ (∀ j, w'.cell? ⟨g7, j, none⟩ = #[Value.int .i64 R.x.lo, .int .i64 R.x.hi, .int .i64 R.y.lo, .int .i64 R.y.hi, .int .i64 R.s.lo, .int .i64 R.s.hi, .int .i64 R.d.lo, .int .i64 R.d.hi][j]?) ∧ (∀ j, w'.cell? ⟨w.heap.size + 1, j, none⟩ = #[Value.int .i64 h.p, .int .i64 h.q, .int .i64 h.c][j]?)) wd := ⟨k5.cell, k7.cell, k3.cell⟩
  refine held_take (i := 0) (v := ?_) 21 rfl rfl (by kernel_rfl) (by kernel_rfl) (by kernel_rfl) (fun _ _ _ h => h) (Or.inl ⟨by rfl, ?_⟩) hS ?_
  rotate_left 1
  · intro w' hSw
    try dsimp only at hSw
    obtain ⟨q1, q2, q3⟩ := hSw
    go_simp
    all_goals with_reducible rfl
  try simp only [Act.put, List.setIfInBounds_toArray, List.set_cons_zero, List.set_cons_succ]
  refine held_take (i := 1) (v := ?_) 22 rfl rfl (by kernel_rfl) (by kernel_rfl) (by kernel_rfl) (fun _ _ _ h => h) (Or.inl ⟨by rfl, ?_⟩) hS ?_
  rotate_left 1
  · intro w' hSw
    try dsimp only at hSw
    obtain ⟨q1, q2, q3⟩ := hSw
    go_simp
    all_goals with_reducible rfl
  try simp only [Act.put, List.setIfInBounds_toArray, List.set_cons_zero, List.set_cons_succ]
  refine held_take (i := 2) (v := ?_) 23 rfl rfl (by kernel_rfl) (by kernel_rfl) (by kernel_rfl) (fun _ _ _ h => h) (Or.inl ⟨by rfl, ?_⟩) hS ?_
  rotate_left 1
  · intro w' hSw
    try dsimp only at hSw
    obtain ⟨q1, q2, q3⟩ := hSw
    go_simp
    all_goals with_reducible rfl
  try simp only [Act.put, List.setIfInBounds_toArray, List.set_cons_zero, List.set_cons_succ]
  refine held_take (i := 3) (v := ?_) 24 rfl rfl (by kernel_rfl) (by kernel_rfl) (by kernel_rfl) (fun _ _ _ h => h) (Or.inl ⟨by rfl, ?_⟩) hS ?_
  rotate_left 1
  · intro w' hSw
    try dsimp only at hSw
    obtain ⟨q1, q2, q3⟩ := hSw
    go_simp
    all_goals with_reducible rfl
  try simp only [Act.put, List.setIfInBounds_toArray, List.set_cons_zero, List.set_cons_succ]
  refine held_take (i := 4) (v := ?_) 25 rfl rfl (by kernel_rfl) (by kernel_rfl) (by kernel_rfl) (fun _ _ _ h => h) (Or.inl ⟨by rfl, ?_⟩) hS ?_
  rotate_left 1
  · intro w' hSw
    try dsimp only at hSw
    obtain ⟨q1, q2, q3⟩ := hSw
    go_simp
    all_goals with_reducible rfl
  try simp only [Act.put, List.setIfInBounds_toArray, List.set_cons_zero, List.set_cons_succ]
  refine held_take (i := 5) (v := ?_) 26 rfl rfl (by kernel_rfl) (by kernel_rfl) (by kernel_rfl) (fun _ _ _ h => h) (Or.inl ⟨by rfl, ?_⟩) hS ?_
  rotate_left 1
  · intro w' hSw
    try dsimp only at hSw
    obtain ⟨q1, q2, q3⟩ := hSw
    go_simp
    all_goals with_reducible rfl
  try simp only [Act.put, List.setIfInBounds_toArray, List.set_cons_zero, List.set_cons_succ]
  refine held_take (i := 6) (v := ?_) 27 rfl rfl (by kernel_rfl) (by kernel_rfl) (by kernel_rfl) (fun _ _ _ h => h) (Or.inl ⟨by rfl, ?_⟩) hS ?_
  rotate_left 1
  · intro w' hSw
    try dsimp only at hSw
    obtain ⟨q1, q2, q3⟩ := hSw
    go_simp
    all_goals with_reducible rfl
  try simp only [Act.put, List.setIfInBounds_toArray, List.set_cons_zero, List.set_cons_succ]
  refine held_take (i := 7) (v := ?_) 28 rfl rfl (by kernel_rfl) (by kernel_rfl) (by kernel_rfl) (fun _ _ _ h => h) (Or.inl ⟨by rfl, ?_⟩) hS ?_
  rotate_left 1
  · intro w' hSw
    try dsimp only at hSw
    obtain ⟨q1, q2, q3⟩ := hSw
    go_simp
    all_goals with_reducible rfl
  try simp only [Act.put, List.setIfInBounds_toArray, List.set_cons_zero, List.set_cons_succ]
  refine held_take (i := 8) (v := ?_) 29 rfl rfl (by kernel_rfl) (by kernel_rfl) (by kernel_rfl) (fun _ _ _ h => h) (Or.inl ⟨by rfl, ?_⟩) hS ?_
  rotate_left 1
  · intro w' hSw
    try dsimp only at hSw
    obtain ⟨q1, q2, q3⟩ := hSw
    go_simp
    all_goals with_reducible rfl
  try simp only [Act.put, List.setIfInBounds_toArray, List.set_cons_zero, List.set_cons_succ]
  refine held_take (i := 9) (v := ?_) 30 rfl rfl (by kernel_rfl) (by kernel_rfl) (by kernel_rfl) (fun _ _ _ h => h) (Or.inl ⟨by rfl, ?_⟩) hS ?_
  rotate_left 1
  · intro w' hSw
    try dsimp only at hSw
    obtain ⟨q1, q2, q3⟩ := hSw
    go_simp
    all_goals with_reducible rfl
  try simp only [Act.put, List.setIfInBounds_toArray, List.set_cons_zero, List.set_cons_succ]
  refine held_take (i := 11) (v := ?_) 32 rfl rfl (by kernel_rfl) (by kernel_rfl) (by kernel_rfl) (fun _ _ _ h => h) (Or.inl ⟨by rfl, ?_⟩) hS ?_
  rotate_left 1
  · intro w' hSw
    try dsimp only at hSw
    obtain ⟨q1, q2, q3⟩ := hSw
    go_simp
    all_goals with_reducible rfl
  try simp only [Act.put, List.setIfInBounds_toArray, List.set_cons_zero, List.set_cons_succ]
  refine held_one (i := 10) (by kernel_rfl) rfl rfl (fun K hK => ?_)
  go_simp
  refine (h3 _).mono ?_
  rintro e W1 ⟨rfl, hbel⟩
  clear hS
  replace k2 := k2.below hbel
  replace k3 := k3.below hbel
  replace b := b.trans (hbel.mono b.size)
  replace k5 := k5.below hbel
  replace k7 := k7.below hbel
  clear hbel
  have hS : (fun w' : World => (∀ j, w'.cell? ⟨g5, j, none⟩ = #[Value.int .i64 R.x.lo, .int .i64 R.x.hi, .int .i64 R.y.lo, .int .i64 R.y.hi, .int .i64 R.s.lo, .int .i64 R.s.hi, .int .i64 R.d.lo, .int .i64 R.d.hi][j]?) ∧ (∀ j, w'.cell? ⟨g7, j, none⟩ = #[Value.int .i64 R.x.lo, .int .i64 R.x.hi, .int .i64 R.y.lo, .int .i64 R.y.hi, .int .i64 R.s.lo, .int .i64 R.s.hi, .int .i64 R.d.lo, .int .i64 R.d.hi][j]?) ∧ (∀ j, w'.cell? ⟨w.heap.size + 1, j, none⟩ = #[Value.int .i64 h.p, .int .i64 h.q, .int .i64 h.c][j]?)) W1 := ⟨k5.cell, k7.cell, k3.cell⟩
  refine hK _ _ hS ?_
  clear hK K
  try simp only [Act.put, List.setIfInBounds_toArray, List.set_cons_zero, List.set_cons_succ]
  refine held_one (i := 12) (by kernel_rfl) rfl rfl (fun K hK => ?_)
  go_simp
  refine (h4 _).mono ?_
  rintro e W1 ⟨rfl, hbel⟩
  clear hS
  replace k2 := k2.below hbel
  replace k3 := k3.below hbel
  replace b := b.trans (hbel.mono b.size)
  replace k5 := k5.below hbel
  replace k7 := k7.below hbel
  clear hbel
  have hS : (fun w' : World => (∀ j, w'.cell? ⟨g5, j, none⟩ = #[Value.int .i64 R.x.lo, .int .i64 R.x.hi, .int .i64 R.y.lo, .int .i64 R.y.hi, .int .i64 R.s.lo, .int .i64 R.s.hi, .int .i64 R.d.lo, .int .i64 R.d.hi][j]?) ∧ (∀ j, w'.cell? ⟨g7, j, none⟩ = #[Value.int .i64 R.x.lo, .int .i64 R.x.hi, .int .i64 R.y.lo, .int .i64 R.y.hi, .int .i64 R.s.lo, .int .i64 R.s.hi, .int .i64 R.d.lo, .int .i64 R.d.hi][j]?) ∧ (∀ j, w'.cell? ⟨w.heap.size + 1, j, none⟩ = #[Value.int .i64 h.p, .int .i64 h.q, .int .i64 h.c][j]?)) W1 := ⟨k5.cell, k7.cell, k3.cell⟩
  refine hK _ _ hS ?_
  clear hK K
  try simp only [Act.put, List.setIfInBounds_toArray, List.set_cons_zero, List.set_cons_succ]
  refine held_take (i := 13) (v := ?_) 34 rfl rfl (by kernel_rfl) (by kernel_rfl) (by kernel_rfl) (fun _ _ _ h => h) (Or.inl ⟨by rfl, ?_⟩) hS ?_
  rotate_left 1
  · intro w' hSw
    try dsimp only at hSw
    obtain ⟨q1, q2, q3⟩ := hSw
    go_simp
    all_goals with_reducible rfl
  try simp only [Act.put, List.setIfInBounds_toArray, List.set_cons_zero, List.set_cons_succ]
  refine held_take (i := 14) (v := ?_) 35 rfl rfl (by kernel_rfl) (by kernel_rfl) (by kernel_rfl) (fun _ _ _ h => h) (Or.inl ⟨by rfl, ?_⟩) hS ?_
  rotate_left 1
  · intro w' hSw
    try dsimp only at hSw
    obtain ⟨q1, q2, q3⟩ := hSw
    go_simp
    all_goals with_reducible rfl
  try simp only [Act.put, List.setIfInBounds_toArray, List.set_cons_zero, List.set_cons_succ]
  refine held_take (i := 15) (v := ?_) 36 rfl rfl (by kernel_rfl) (by kernel_rfl) (by kernel_rfl) (fun _ _ _ h => h) (Or.inl ⟨by rfl, ?_⟩) hS ?_
  rotate_left 1
  · intro w' hSw
    try dsimp only at hSw
    obtain ⟨q1, q2, q3⟩ := hSw
    go_simp
    all_goals with_reducible rfl
  try simp only [Act.put, List.setIfInBounds_toArray, List.set_cons_zero, List.set_cons_succ]
  refine held_one (i := 16) (by kernel_rfl) rfl rfl (fun K hK => ?_)
  go_simp
  refine (h5 _).mono ?_
  rintro e W1 ⟨rfl, hbel⟩
  clear hS
  replace k2 := k2.below hbel
  replace k3 := k3.below hbel
  replace b := b.trans (hbel.mono b.size)
  replace k5 := k5.below hbel
  replace k7 := k7.below hbel
  clear hbel
  have hS : (fun w' : World => (∀ j, w'.cell? ⟨g5, j, none⟩ = #[Value.int .i64 R.x.lo, .int .i64 R.x.hi, .int .i64 R.y.lo, .int .i64 R.y.hi, .int .i64 R.s.lo, .int .i64 R.s.hi, .int .i64 R.d.lo, .int .i64 R.d.hi][j]?) ∧ (∀ j, w'.cell? ⟨g7, j, none⟩ = #[Value.int .i64 R.x.lo, .int .i64 R.x.hi, .int .i64 R.y.lo, .int .i64 R.y.hi, .int .i64 R.s.lo, .int .i64 R.s.hi, .int .i64 R.d.lo, .int .i64 R.d.hi][j]?) ∧ (∀ j, w'.cell? ⟨w.heap.size + 1, j, none⟩ = #[Value.int .i64 h.p, .int .i64 h.q, .int .i64 h.c][j]?)) W1 := ⟨k5.cell, k7.cell, k3.cell⟩
  refine hK _ _ hS ?_
  clear hK K
  try simp only [Act.put, List.setIfInBounds_toArray, List.set_cons_zero, List.set_cons_succ]
  refine held_take (i := 17) (v := ?_) 38 rfl rfl (by kernel_rfl) (by kernel_rfl) (by kernel_rfl) (fun _ _ _ h => h) (Or.inl ⟨by rfl, ?_⟩) hS ?_
  rotate_left 1
  · intro w' hSw
    try dsimp only at hSw
    obtain ⟨q1, q2, q3⟩ := hSw
    go_simp
    all_goals with_reducible rfl
  try simp only [Act.put, List.setIfInBounds_toArray, List.set_cons_zero, List.set_cons_succ]
  refine held_take (i := 18) (v := ?_) 4 rfl rfl (by kernel_rfl) (by kernel_rfl) (by kernel_rfl) (fun _ _ _ h => h) (Or.inl ⟨by rfl, ?_⟩) hS ?_
  rotate_left 1
  · intro w' hSw
    try dsimp only at hSw
    obtain ⟨q1, q2, q3⟩ := hSw
    go_simp
    all_goals with_reducible rfl
  try simp only [Act.put, List.setIfInBounds_toArray, List.set_cons_zero, List.set_cons_succ]
  refine wpAnyH_done (by kernel_rfl) (noPanic_normal ?_) _
  clear hS
  go_wp2
  go_ret
  exact ⟨rfl, b⟩
end Go.Proofs.YtjiaepphnddpoaaGreat
