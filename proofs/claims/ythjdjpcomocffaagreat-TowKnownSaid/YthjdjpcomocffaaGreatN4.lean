/-
  Walks: Turned.
-/
import Derived.Test.YthjdjpcomocffaaGreatN3
namespace Go.Proofs.YthjdjpcomocffaaGreat
open Go.RowKit Go.Shelf

theorem okReg_iff {r : Reg} : okReg r = true ↔ (-32768 ≤ r.x.lo ∧ r.x.lo ≤ r.x.hi ∧ r.x.hi ≤ 32768) ∧ (-32768 ≤ r.y.lo ∧ r.y.lo ≤ r.y.hi ∧ r.y.hi ≤ 32768) ∧ (-65536 ≤ r.s.lo ∧ r.s.lo ≤ r.s.hi ∧ r.s.hi ≤ 65536) ∧ (-65536 ≤ r.d.lo ∧ r.d.lo ≤ r.d.hi ∧ r.d.hi ≤ 65536) := by
  simp only [okReg, okBnd, Bool.and_eq_true, decide_eq_true_eq, and_assoc]
theorem foldl_addP_ok : ∀ (l : List Pnt) (o : Option Reg), (∀ p ∈ l, -32768 ≤ p.x ∧ p.x ≤ 32768 ∧ -32768 ≤ p.y ∧ p.y ≤ 32768) → (∀ h, o = some h → okReg h = true) → ∀ h, l.foldl addP o = some h → okReg h = true
  | [], o, _, ho, h, e => ho h e
  | p :: l, o, hl, ho, h, e => by
    refine foldl_addP_ok l (addP o p) (fun q hq => hl q (List.mem_cons_of_mem _ hq)) (fun h' e' => ?_) h e
    have hp := hl p (List.mem_cons_self ..)
    cases o with
    | none =>
      simp only [addP, Option.some.injEq] at e'
      subst e'
      rw [okReg_iff]
      simp only [zipR, spanB, ofP, still]
      omega
    | some g =>
      have hg := ho g rfl
      rw [okReg_iff] at hg
      simp only [addP, Option.some.injEq] at e'
      subst e'
      rw [okReg_iff]
      simp only [zipR, spanB, ofP, still]
      omega
theorem tightO_ok {r t : Reg} (hr : okReg r = true) (h : tightO r = some t) : okReg t = true :=
  foldl_addP_ok _ none (fun _ hp => ptsL_mid hr hp) (fun _ e => by cases e) t h
/-! What is written into the result's own cells at the end. -/
set_option maxRecDepth 100000 in
set_option maxHeartbeats 2000000 in
theorem Turned_any (r : Reg) (h : Hdg) (w : World) :
    Calls Tryz.prog 16 #[.agg (regA r), .agg #[.int .i64 h.p, .int .i64 h.q, .int .i64 h.c]] w fun e w' => e = .returned (.tuple #[.agg (regA (turnedR r h).1), .int .i64 (turnedR r h).2]) ∧ Below w.heap.size w w' := by
  have hchk := fun W => rCheck_any r W
  have hhd := fun W => CheckHeading_any h W
  have hti := fun W => Tight_any r W
  simp only [regA] at hchk hti
  by_cases hr : okReg r = true
  · have hk : chkReg r = 0 := by simp [chkReg, hr]
    simp only [hk] at hchk
    by_cases hh : okHdg h = true
    · have hkh : chkHdg h = 0 := by simp [chkHdg, hh]
      simp only [hkh] at hhd
      cases ht : tightO r with
      | none =>
        have hv : turnedR r h = (noReg, 4) := by simp [turnedR, hr, hh, ht]
        have htr : tightR r = (noReg, 4) := by simp [tightR, hr, ht, doneR]
        rw [hv]
        simp only [htr, noReg] at hti
        simp only [regA, noReg]
        clear hv htr hk hkh hr hh ht
        go_enter Tryz.func16, Tryz.ntmps16
        go_wp2_with fail
        refine (hchk _).mono ?_
        rintro e w1 ⟨rfl, hb1⟩
        have k2 := (((Blk.new w 58 #[.int .i64 r.x.lo, .int .i64 r.x.hi, .int .i64 r.y.lo, .int .i64 r.y.hi, .int .i64 r.s.lo, .int .i64 r.s.hi, .int .i64 r.d.lo, .int .i64 r.d.hi]).alloc (.cells #[.int .i64 h.p, .int .i64 h.q, .int .i64 h.c] 54)).alloc (.cells #[.int .i64 0, .int .i64 0, .int .i64 0, .int .i64 0, .int .i64 0, .int .i64 0, .int .i64 0, .int .i64 0] 58)).below hb1
        have k3 : Blk w1 (w.heap.size + 1) 54 #[.int .i64 h.p, .int .i64 h.q, .int .i64 h.c] := ((Blk.newAt (by simp)).alloc _).below hb1
        have k4 : Blk w1 (w.heap.size + 1 + 1) 58 #[.int .i64 0, .int .i64 0, .int .i64 0, .int .i64 0, .int .i64 0, .int .i64 0, .int .i64 0, .int .i64 0] := (Blk.newAt (by simp)).below hb1
        have hb := ((((Below.refl w.heap.size w).alloc (Nat.le_refl _) _).alloc (by simp) _).alloc (by simp; omega) _).trans (hb1.mono (by simp; omega))
        clear hb1 hchk
        obtain ⟨c3, f3, l3⟩ := k3.rules
        go_wp2_with fail
        refine (hhd _).mono ?_
        rintro e w2 ⟨rfl, hb1⟩
        clear c3 f3 l3
        replace k2 := k2.below hb1
        replace k3 := k3.below hb1
        replace k4 := k4.below hb1
        replace hb := hb.trans (hb1.mono hb.size)
        clear hb1 hhd
        obtain ⟨c2, f2, l2⟩ := k2.rules
        go_wp2_with fail
        refine (hti _).mono ?_
        rintro e w3 ⟨rfl, hb1⟩
        clear c2 f2 l2
        replace k2 := k2.below hb1
        replace k3 := k3.below hb1
        replace k4 := k4.below hb1
        replace hb := hb.trans (hb1.mono hb.size)
        clear hb1 hti
        have kz := (k4.set8 (.int .i64 0) (.int .i64 0) (.int .i64 0) (.int .i64 0) (.int .i64 0) (.int .i64 0) (.int .i64 0) (.int .i64 0) ).alloc (.cells #[.int .i64 0, .int .i64 0, .int .i64 0, .int .i64 0, .int .i64 0, .int .i64 0, .int .i64 0, .int .i64 0] 58)
        have bz0 := below_set8 (g := w.heap.size + 1 + 1) hb (by omega) (.int .i64 0) (.int .i64 0) (.int .i64 0) (.int .i64 0) (.int .i64 0) (.int .i64 0) (.int .i64 0) (.int .i64 0) 
        have bz := bz0.alloc bz0.size (.cells #[.int .i64 0, .int .i64 0, .int .i64 0, .int .i64 0, .int .i64 0, .int .i64 0, .int .i64 0, .int .i64 0] 58)
        obtain ⟨wz, hwz⟩ : ∃ x, x = (set8 w3 (w.heap.size + 1 + 1) (.int .i64 0) (.int .i64 0) (.int .i64 0) (.int .i64 0) (.int .i64 0) (.int .i64 0) (.int .i64 0) (.int .i64 0) ).alloc (.cells #[.int .i64 0, .int .i64 0, .int .i64 0, .int .i64 0, .int .i64 0, .int .i64 0, .int .i64 0, .int .i64 0] 58) := ⟨_, rfl⟩
        rw [← hwz] at kz bz
        simp only [set8] at hwz
        obtain ⟨c4, f4, l4⟩ := k4.rules
        go_wp2
        rw [← hwz]
        clear hwz c4 f4 l4
        obtain ⟨c4, f4, l4⟩ := kz.rules
        exact bodyPost_ret (v := .tuple #[.agg #[.int .i64 0, .int .i64 0, .int .i64 0, .int .i64 0, .int .i64 0, .int .i64 0, .int .i64 0, .int .i64 0], .int .i64 4]) (by simp [results, Tryz.results16, go_sem, c4]) rfl ⟨rfl, bz⟩
      | some t =>
        have htr : tightR r = (t, 0) := by simp [tightR, hr, ht, doneR]
        have htu := fun W => turned_any t h W (tightO_ok hr ht) hh
        simp only [htr] at hti
        obtain ⟨T, hT⟩ : ∃ T, turnedS t h = T := ⟨_, rfl⟩
        simp only [hT, regA] at htu
        cases hin : inPlane T with
        | true =>
          have hv : turnedR r h = (T, 0) := by simp only [turnedR, hr, hh, ht, if_true, hT, hin]
          rw [hv]
          simp only [regA]
          simp only [hin] at htu
          clear hv htr hk hkh hr hh ht hT hin
          go_enter Tryz.func16, Tryz.ntmps16
          go_wp2_with fail
          refine (hchk _).mono ?_
          rintro e w1 ⟨rfl, hb1⟩
          have k2 := (((Blk.new w 58 #[.int .i64 r.x.lo, .int .i64 r.x.hi, .int .i64 r.y.lo, .int .i64 r.y.hi, .int .i64 r.s.lo, .int .i64 r.s.hi, .int .i64 r.d.lo, .int .i64 r.d.hi]).alloc (.cells #[.int .i64 h.p, .int .i64 h.q, .int .i64 h.c] 54)).alloc (.cells #[.int .i64 0, .int .i64 0, .int .i64 0, .int .i64 0, .int .i64 0, .int .i64 0, .int .i64 0, .int .i64 0] 58)).below hb1
          have k3 : Blk w1 (w.heap.size + 1) 54 #[.int .i64 h.p, .int .i64 h.q, .int .i64 h.c] := ((Blk.newAt (by simp)).alloc _).below hb1
          have k4 : Blk w1 (w.heap.size + 1 + 1) 58 #[.int .i64 0, .int .i64 0, .int .i64 0, .int .i64 0, .int .i64 0, .int .i64 0, .int .i64 0, .int .i64 0] := (Blk.newAt (by simp)).below hb1
          have hb := ((((Below.refl w.heap.size w).alloc (Nat.le_refl _) _).alloc (by simp) _).alloc (by simp; omega) _).trans (hb1.mono (by simp; omega))
          clear hb1 hchk
          obtain ⟨c3, f3, l3⟩ := k3.rules
          go_wp2_with fail
          refine (hhd _).mono ?_
          rintro e w2 ⟨rfl, hb1⟩
          clear c3 f3 l3
          replace k2 := k2.below hb1
          replace k3 := k3.below hb1
          replace k4 := k4.below hb1
          replace hb := hb.trans (hb1.mono hb.size)
          clear hb1 hhd
          obtain ⟨c2, f2, l2⟩ := k2.rules
          go_wp2_with fail
          refine (hti _).mono ?_
          rintro e w3 ⟨rfl, hb1⟩
          clear c2 f2 l2
          replace k2 := k2.below hb1
          replace k3 := k3.below hb1
          replace k4 := k4.below hb1
          replace hb := hb.trans (hb1.mono hb.size)
          clear hb1 hti
          have k8 := Blk.new w3 58 #[.int .i64 t.x.lo, .int .i64 t.x.hi, .int .i64 t.y.lo, .int .i64 t.y.hi, .int .i64 t.s.lo, .int .i64 t.s.hi, .int .i64 t.d.lo, .int .i64 t.d.hi]
          replace k3 := k3.alloc (.cells #[.int .i64 t.x.lo, .int .i64 t.x.hi, .int .i64 t.y.lo, .int .i64 t.y.hi, .int .i64 t.s.lo, .int .i64 t.s.hi, .int .i64 t.d.lo, .int .i64 t.d.hi] 58)
          replace k4 := k4.alloc (.cells #[.int .i64 t.x.lo, .int .i64 t.x.hi, .int .i64 t.y.lo, .int .i64 t.y.hi, .int .i64 t.s.lo, .int .i64 t.s.hi, .int .i64 t.d.lo, .int .i64 t.d.hi] 58)
          replace hb := hb.alloc hb.size (.cells #[.int .i64 t.x.lo, .int .i64 t.x.hi, .int .i64 t.y.lo, .int .i64 t.y.hi, .int .i64 t.s.lo, .int .i64 t.s.hi, .int .i64 t.d.lo, .int .i64 t.d.hi] 58)
          obtain ⟨c3, f3, l3⟩ := k3.rules
          obtain ⟨c8, f8, l8⟩ := k8.rules
          go_wp2_with fail
          refine (htu _).mono ?_
          rintro e w4 ⟨rfl, hb1⟩
          clear c3 f3 l3 c8 f8 l8 k8
          replace k4 := k4.below hb1
          replace hb := hb.trans (hb1.mono hb.size)
          clear hb1 htu
          have kz := ((k4.alloc (.cells #[.int .i64 T.x.lo, .int .i64 T.x.hi, .int .i64 T.y.lo, .int .i64 T.y.hi, .int .i64 T.s.lo, .int .i64 T.s.hi, .int .i64 T.d.lo, .int .i64 T.d.hi] 58)).set8 (.int .i64 T.x.lo) (.int .i64 T.x.hi) (.int .i64 T.y.lo) (.int .i64 T.y.hi) (.int .i64 T.s.lo) (.int .i64 T.s.hi) (.int .i64 T.d.lo) (.int .i64 T.d.hi))
          have bz0 := hb.alloc hb.size (.cells #[.int .i64 T.x.lo, .int .i64 T.x.hi, .int .i64 T.y.lo, .int .i64 T.y.hi, .int .i64 T.s.lo, .int .i64 T.s.hi, .int .i64 T.d.lo, .int .i64 T.d.hi] 58)
          have k4a := k4.alloc (.cells #[.int .i64 T.x.lo, .int .i64 T.x.hi, .int .i64 T.y.lo, .int .i64 T.y.hi, .int .i64 T.s.lo, .int .i64 T.s.hi, .int .i64 T.d.lo, .int .i64 T.d.hi] 58)
          have k10 := Blk.new w4 58 #[.int .i64 T.x.lo, .int .i64 T.x.hi, .int .i64 T.y.lo, .int .i64 T.y.hi, .int .i64 T.s.lo, .int .i64 T.s.hi, .int .i64 T.d.lo, .int .i64 T.d.hi]
          have kz := (k4.set8 (.int .i64 T.x.lo) (.int .i64 T.x.hi) (.int .i64 T.y.lo) (.int .i64 T.y.hi) (.int .i64 T.s.lo) (.int .i64 T.s.hi) (.int .i64 T.d.lo) (.int .i64 T.d.hi)).alloc (.cells #[.int .i64 T.x.lo, .int .i64 T.x.hi, .int .i64 T.y.lo, .int .i64 T.y.hi, .int .i64 T.s.lo, .int .i64 T.s.hi, .int .i64 T.d.lo, .int .i64 T.d.hi] 58)
          have bz0 := below_set8 (g := w.heap.size + 1 + 1) hb (by omega) (.int .i64 T.x.lo) (.int .i64 T.x.hi) (.int .i64 T.y.lo) (.int .i64 T.y.hi) (.int .i64 T.s.lo) (.int .i64 T.s.hi) (.int .i64 T.d.lo) (.int .i64 T.d.hi)
          have bz := bz0.alloc bz0.size (.cells #[.int .i64 T.x.lo, .int .i64 T.x.hi, .int .i64 T.y.lo, .int .i64 T.y.hi, .int .i64 T.s.lo, .int .i64 T.s.hi, .int .i64 T.d.lo, .int .i64 T.d.hi] 58)
          obtain ⟨wz, hwz⟩ : ∃ x, x = (set8 w4 (w.heap.size + 1 + 1) (.int .i64 T.x.lo) (.int .i64 T.x.hi) (.int .i64 T.y.lo) (.int .i64 T.y.hi) (.int .i64 T.s.lo) (.int .i64 T.s.hi) (.int .i64 T.d.lo) (.int .i64 T.d.hi)).alloc (.cells #[.int .i64 T.x.lo, .int .i64 T.x.hi, .int .i64 T.y.lo, .int .i64 T.y.hi, .int .i64 T.s.lo, .int .i64 T.s.hi, .int .i64 T.d.lo, .int .i64 T.d.hi] 58) := ⟨_, rfl⟩
          rw [← hwz] at kz bz
          simp only [set8] at hwz
          obtain ⟨c4, f4, l4⟩ := k4.rules
          obtain ⟨c10, f10, l10⟩ := k10.rules
          go_wp2
          rw [← hwz]
          clear hwz c4 f4 l4 c10 f10 l10
          obtain ⟨c4, f4, l4⟩ := kz.rules
          exact bodyPost_ret (v := .tuple #[.agg #[.int .i64 T.x.lo, .int .i64 T.x.hi, .int .i64 T.y.lo, .int .i64 T.y.hi, .int .i64 T.s.lo, .int .i64 T.s.hi, .int .i64 T.d.lo, .int .i64 T.d.hi], .int .i64 0]) (by simp [results, Tryz.results16, go_sem, c4]) rfl ⟨rfl, bz⟩
        | false =>
          have hv : turnedR r h = (noReg, 7) := by simp only [turnedR, hr, hh, ht, if_true, hT, hin]; rfl
          rw [hv]
          simp only [regA, noReg]
          simp only [hin] at htu
          clear hv htr hk hkh hr hh ht hT hin
          go_enter Tryz.func16, Tryz.ntmps16
          go_wp2_with fail
          refine (hchk _).mono ?_
          rintro e w1 ⟨rfl, hb1⟩
          have k2 := (((Blk.new w 58 #[.int .i64 r.x.lo, .int .i64 r.x.hi, .int .i64 r.y.lo, .int .i64 r.y.hi, .int .i64 r.s.lo, .int .i64 r.s.hi, .int .i64 r.d.lo, .int .i64 r.d.hi]).alloc (.cells #[.int .i64 h.p, .int .i64 h.q, .int .i64 h.c] 54)).alloc (.cells #[.int .i64 0, .int .i64 0, .int .i64 0, .int .i64 0, .int .i64 0, .int .i64 0, .int .i64 0, .int .i64 0] 58)).below hb1
          have k3 : Blk w1 (w.heap.size + 1) 54 #[.int .i64 h.p, .int .i64 h.q, .int .i64 h.c] := ((Blk.newAt (by simp)).alloc _).below hb1
          have k4 : Blk w1 (w.heap.size + 1 + 1) 58 #[.int .i64 0, .int .i64 0, .int .i64 0, .int .i64 0, .int .i64 0, .int .i64 0, .int .i64 0, .int .i64 0] := (Blk.newAt (by simp)).below hb1
          have hb := ((((Below.refl w.heap.size w).alloc (Nat.le_refl _) _).alloc (by simp) _).alloc (by simp; omega) _).trans (hb1.mono (by simp; omega))
          clear hb1 hchk
          obtain ⟨c3, f3, l3⟩ := k3.rules
          go_wp2_with fail
          refine (hhd _).mono ?_
          rintro e w2 ⟨rfl, hb1⟩
          clear c3 f3 l3
          replace k2 := k2.below hb1
          replace k3 := k3.below hb1
          replace k4 := k4.below hb1
          replace hb := hb.trans (hb1.mono hb.size)
          clear hb1 hhd
          obtain ⟨c2, f2, l2⟩ := k2.rules
          go_wp2_with fail
          refine (hti _).mono ?_
          rintro e w3 ⟨rfl, hb1⟩
          clear c2 f2 l2
          replace k2 := k2.below hb1
          replace k3 := k3.below hb1
          replace k4 := k4.below hb1
          replace hb := hb.trans (hb1.mono hb.size)
          clear hb1 hti
          have k8 := Blk.new w3 58 #[.int .i64 t.x.lo, .int .i64 t.x.hi, .int .i64 t.y.lo, .int .i64 t.y.hi, .int .i64 t.s.lo, .int .i64 t.s.hi, .int .i64 t.d.lo, .int .i64 t.d.hi]
          replace k3 := k3.alloc (.cells #[.int .i64 t.x.lo, .int .i64 t.x.hi, .int .i64 t.y.lo, .int .i64 t.y.hi, .int .i64 t.s.lo, .int .i64 t.s.hi, .int .i64 t.d.lo, .int .i64 t.d.hi] 58)
          replace k4 := k4.alloc (.cells #[.int .i64 t.x.lo, .int .i64 t.x.hi, .int .i64 t.y.lo, .int .i64 t.y.hi, .int .i64 t.s.lo, .int .i64 t.s.hi, .int .i64 t.d.lo, .int .i64 t.d.hi] 58)
          replace hb := hb.alloc hb.size (.cells #[.int .i64 t.x.lo, .int .i64 t.x.hi, .int .i64 t.y.lo, .int .i64 t.y.hi, .int .i64 t.s.lo, .int .i64 t.s.hi, .int .i64 t.d.lo, .int .i64 t.d.hi] 58)
          obtain ⟨c3, f3, l3⟩ := k3.rules
          obtain ⟨c8, f8, l8⟩ := k8.rules
          go_wp2_with fail
          refine (htu _).mono ?_
          rintro e w4 ⟨rfl, hb1⟩
          clear c3 f3 l3 c8 f8 l8 k8
          replace k4 := k4.below hb1
          replace hb := hb.trans (hb1.mono hb.size)
          clear hb1 htu
          have kz := (k4.set8 (.int .i64 0) (.int .i64 0) (.int .i64 0) (.int .i64 0) (.int .i64 0) (.int .i64 0) (.int .i64 0) (.int .i64 0) ).alloc (.cells #[.int .i64 T.x.lo, .int .i64 T.x.hi, .int .i64 T.y.lo, .int .i64 T.y.hi, .int .i64 T.s.lo, .int .i64 T.s.hi, .int .i64 T.d.lo, .int .i64 T.d.hi] 58)
          have bz0 := below_set8 (g := w.heap.size + 1 + 1) hb (by omega) (.int .i64 0) (.int .i64 0) (.int .i64 0) (.int .i64 0) (.int .i64 0) (.int .i64 0) (.int .i64 0) (.int .i64 0) 
          have bz := bz0.alloc bz0.size (.cells #[.int .i64 T.x.lo, .int .i64 T.x.hi, .int .i64 T.y.lo, .int .i64 T.y.hi, .int .i64 T.s.lo, .int .i64 T.s.hi, .int .i64 T.d.lo, .int .i64 T.d.hi] 58)
          obtain ⟨wz, hwz⟩ : ∃ x, x = (set8 w4 (w.heap.size + 1 + 1) (.int .i64 0) (.int .i64 0) (.int .i64 0) (.int .i64 0) (.int .i64 0) (.int .i64 0) (.int .i64 0) (.int .i64 0) ).alloc (.cells #[.int .i64 T.x.lo, .int .i64 T.x.hi, .int .i64 T.y.lo, .int .i64 T.y.hi, .int .i64 T.s.lo, .int .i64 T.s.hi, .int .i64 T.d.lo, .int .i64 T.d.hi] 58) := ⟨_, rfl⟩
          rw [← hwz] at kz bz
          simp only [set8] at hwz
          obtain ⟨c4, f4, l4⟩ := k4.rules
          go_wp2
          rw [← hwz]
          clear hwz c4 f4 l4
          obtain ⟨c4, f4, l4⟩ := kz.rules
          exact bodyPost_ret (v := .tuple #[.agg #[.int .i64 0, .int .i64 0, .int .i64 0, .int .i64 0, .int .i64 0, .int .i64 0, .int .i64 0, .int .i64 0], .int .i64 7]) (by simp [results, Tryz.results16, go_sem, c4]) rfl ⟨rfl, bz⟩
    · have hkh : chkHdg h = 35 := by simp [chkHdg, hh]
      have hv : turnedR r h = (noReg, 35) := by simp [turnedR, hr, hh]
      rw [hv]
      simp only [hkh] at hhd
      simp only [regA, noReg]
      clear hti hv hkh hk hr hh
      go_enter Tryz.func16, Tryz.ntmps16
      go_wp2_with fail
      refine (hchk _).mono ?_
      rintro e w1 ⟨rfl, hb1⟩
      have k2 := (((Blk.new w 58 #[.int .i64 r.x.lo, .int .i64 r.x.hi, .int .i64 r.y.lo, .int .i64 r.y.hi, .int .i64 r.s.lo, .int .i64 r.s.hi, .int .i64 r.d.lo, .int .i64 r.d.hi]).alloc (.cells #[.int .i64 h.p, .int .i64 h.q, .int .i64 h.c] 54)).alloc (.cells #[.int .i64 0, .int .i64 0, .int .i64 0, .int .i64 0, .int .i64 0, .int .i64 0, .int .i64 0, .int .i64 0] 58)).below hb1
      have k3 : Blk w1 (w.heap.size + 1) 54 #[.int .i64 h.p, .int .i64 h.q, .int .i64 h.c] := ((Blk.newAt (by simp)).alloc _).below hb1
      have k4 : Blk w1 (w.heap.size + 1 + 1) 58 #[.int .i64 0, .int .i64 0, .int .i64 0, .int .i64 0, .int .i64 0, .int .i64 0, .int .i64 0, .int .i64 0] := (Blk.newAt (by simp)).below hb1
      have hb := ((((Below.refl w.heap.size w).alloc (Nat.le_refl _) _).alloc (by simp) _).alloc (by simp; omega) _).trans (hb1.mono (by simp; omega))
      clear hb1 hchk
      obtain ⟨c3, f3, l3⟩ := k3.rules
      go_wp2_with fail
      refine (hhd _).mono ?_
      rintro e w2 ⟨rfl, hb1⟩
      clear c3 f3 l3
      replace k2 := k2.below hb1
      replace k3 := k3.below hb1
      replace k4 := k4.below hb1
      replace hb := hb.trans (hb1.mono hb.size)
      clear hb1 hhd
      have kz := k4.set8 (.int .i64 0) (.int .i64 0) (.int .i64 0) (.int .i64 0) (.int .i64 0) (.int .i64 0) (.int .i64 0) (.int .i64 0) 
      have bz := below_set8 (g := w.heap.size + 1 + 1) hb (by omega) (.int .i64 0) (.int .i64 0) (.int .i64 0) (.int .i64 0) (.int .i64 0) (.int .i64 0) (.int .i64 0) (.int .i64 0) 
      obtain ⟨wz, hwz⟩ : ∃ x, x = set8 w2 (w.heap.size + 1 + 1) (.int .i64 0) (.int .i64 0) (.int .i64 0) (.int .i64 0) (.int .i64 0) (.int .i64 0) (.int .i64 0) (.int .i64 0)  := ⟨_, rfl⟩
      rw [← hwz] at kz bz
      simp only [set8] at hwz
      obtain ⟨c4, f4, l4⟩ := k4.rules
      go_wp2
      rw [← hwz]
      clear hwz c4 f4 l4
      obtain ⟨c4, f4, l4⟩ := kz.rules
      exact bodyPost_ret (v := .tuple #[.agg #[.int .i64 0, .int .i64 0, .int .i64 0, .int .i64 0, .int .i64 0, .int .i64 0, .int .i64 0, .int .i64 0], .int .i64 35]) (by simp [results, Tryz.results16, go_sem, c4]) rfl ⟨rfl, bz⟩
  · have hk : chkReg r = 11 := by simp [chkReg, hr]
    have hv : turnedR r h = (noReg, 11) := by simp [turnedR, hr]
    rw [hv]
    simp only [hk] at hchk
    simp only [regA, noReg]
    clear hti hhd hv hk hr
    go_enter Tryz.func16, Tryz.ntmps16
    go_wp2_with fail
    refine (hchk _).mono ?_
    rintro e w1 ⟨rfl, hb1⟩
    have k2 := (((Blk.new w 58 #[.int .i64 r.x.lo, .int .i64 r.x.hi, .int .i64 r.y.lo, .int .i64 r.y.hi, .int .i64 r.s.lo, .int .i64 r.s.hi, .int .i64 r.d.lo, .int .i64 r.d.hi]).alloc (.cells #[.int .i64 h.p, .int .i64 h.q, .int .i64 h.c] 54)).alloc (.cells #[.int .i64 0, .int .i64 0, .int .i64 0, .int .i64 0, .int .i64 0, .int .i64 0, .int .i64 0, .int .i64 0] 58)).below hb1
    have k3 : Blk w1 (w.heap.size + 1) 54 #[.int .i64 h.p, .int .i64 h.q, .int .i64 h.c] := ((Blk.newAt (by simp)).alloc _).below hb1
    have k4 : Blk w1 (w.heap.size + 1 + 1) 58 #[.int .i64 0, .int .i64 0, .int .i64 0, .int .i64 0, .int .i64 0, .int .i64 0, .int .i64 0, .int .i64 0] := (Blk.newAt (by simp)).below hb1
    have hb := ((((Below.refl w.heap.size w).alloc (Nat.le_refl _) _).alloc (by simp) _).alloc (by simp; omega) _).trans (hb1.mono (by simp; omega))
    clear hb1 hchk
    have kz := k4.set8 (.int .i64 0) (.int .i64 0) (.int .i64 0) (.int .i64 0) (.int .i64 0) (.int .i64 0) (.int .i64 0) (.int .i64 0) 
    have bz := below_set8 (g := w.heap.size + 1 + 1) hb (by omega) (.int .i64 0) (.int .i64 0) (.int .i64 0) (.int .i64 0) (.int .i64 0) (.int .i64 0) (.int .i64 0) (.int .i64 0) 
    obtain ⟨wz, hwz⟩ : ∃ x, x = set8 w1 (w.heap.size + 1 + 1) (.int .i64 0) (.int .i64 0) (.int .i64 0) (.int .i64 0) (.int .i64 0) (.int .i64 0) (.int .i64 0) (.int .i64 0)  := ⟨_, rfl⟩
    rw [← hwz] at kz bz
    simp only [set8] at hwz
    obtain ⟨c4, f4, l4⟩ := k4.rules
    go_wp2
    rw [← hwz]
    clear hwz c4 f4 l4
    obtain ⟨c4, f4, l4⟩ := kz.rules
    exact bodyPost_ret (v := .tuple #[.agg #[.int .i64 0, .int .i64 0, .int .i64 0, .int .i64 0, .int .i64 0, .int .i64 0, .int .i64 0, .int .i64 0], .int .i64 11]) (by simp [results, Tryz.results16, go_sem, c4]) rfl ⟨rfl, bz⟩
end Go.Proofs.YthjdjpcomocffaaGreat
