/-
  Own texts for one claim, joined: N4 N5 E1.
-/
import Derived.Deep.QuietTactic
import Derived.LoopN
import Derived.Deep.RegionWith
import Derived.BigQuiet
import Derived.Shelf.Abstract
import Derived.Test.YtjiaepphnddpoaaGreatChecked
import Derived.Shelf.Abstract
import Derived.Deep.QuietTactic
import Derived.BigQuiet
import Derived.Deep.RegionHeld3
import Derived.StillTailTactics
import Derived.Deep.AppendLies
import Derived.WalkMore
import Derived.WalkKit
import Derived.WalkSpells
import Derived.WalkLawsBesides
import Derived.Lib.Hide
import Derived.OrdersHeld
import Derived.StillTail
import Derived.StillTailTactics
import Derived.RangeFuncNested
import Derived.RangeFuncBound
import Derived.RangeFuncCalls
import Derived.RangeFuncLeaves
import Derived.Shelf.Abstract
import Derived.Shelf.RegionOpen
import Derived.OwnWalkIn
import Derived.TacticsInMore
import Derived.LoopNIn
import Derived.LoopIn
import Derived.OrdersIn
import Derived.Deep.Quiet
import Derived.Deep.QuietTactic
import Derived.BigQuiet
import Derived.Maps.Own
import Derived.Maps.Views
import Derived.WideKeyPair
import Derived.Carry
import Derived.BigRegionIn
import Derived.Test.YtjiaepphnddpoaaGreatV01
import Derived.Test.YtjiaepphnddpoaaGreatV02
import Derived.Test.YtjiaepphnddpoaaGreatV03
import Derived.Test.YtjiaepphnddpoaaGreatV04
import Derived.Test.YtjiaepphnddpoaaGreatV05
import Derived.Test.YtjiaepphnddpoaaGreatV06
import Derived.Test.YtjiaepphnddpoaaGreatV07
import Derived.Test.YtjiaepphnddpoaaGreatV08
namespace Go.Proofs.YtjiaepphnddpoaaGreat
open Go.RowKit Go.Shelf
theorem okReg_iff {r : Reg} : okReg r = true ↔ (-32768 ≤ r.x.lo ∧ r.x.lo ≤ r.x.hi ∧ r.x.hi ≤ 32768) ∧ (-32768 ≤ r.y.lo ∧ r.y.lo ≤ r.y.hi ∧ r.y.hi ≤ 32768) ∧ (-65536 ≤ r.s.lo ∧ r.s.lo ≤ r.s.hi ∧ r.s.hi ≤ 65536) ∧ (-65536 ≤ r.d.lo ∧ r.d.lo ≤ r.d.hi ∧ r.d.hi ≤ 65536) := by
  simp only [okReg, okBnd, Bool.and_eq_true, decide_eq_true_eq, and_assoc]
theorem foldl_addP_ok : ∀ (l : List Pnt) (o : Option Reg), (∀ p ∈ l, -32768 ≤ p.x ∧ p.x ≤ 32768 ∧ -32768 ≤ p.y ∧ p.y ≤ 32768) → (∀ h, o = some h → okReg h = true) → ∀ h, l.foldl addP o = some h → okReg h = true
  | [], o, _, ho, h, e => ho h e
  | p :: l, o, hl, ho, h, e => by
    refine foldl_addP_ok l (addP o p) (fun q hq => hl q (List.mem_cons_of_mem _ hq)) (fun h' e' => ?_) h e
    have hp := hl p (List.mem_cons_self ..)
    cases o with
    | none =>
      simp only [addP, Option.some.injEq] at e'
      subst e'
      rw [okReg_iff]
      simp only [zipR, spanB, ofP, still]
      omega
    | some g =>
      have hg := ho g rfl
      rw [okReg_iff] at hg
      simp only [addP, Option.some.injEq] at e'
      subst e'
      rw [okReg_iff]
      simp only [zipR, spanB, ofP, still]
      omega
theorem tightO_ok {r t : Reg} (hr : okReg r = true) (h : tightO r = some t) : okReg t = true :=
  foldl_addP_ok _ none (fun _ hp => ptsL_mid hr hp) (fun _ e => by cases e) t h
set_option maxRecDepth 100000 in
set_option maxHeartbeats 2000000 in
theorem Turned_any (r : Reg) (h : Hdg) (w : World) :
    Calls Tryz.prog 18 #[.agg (regA r), .agg #[.int .i64 h.p, .int .i64 h.q, .int .i64 h.c]] w fun e w' => e = .returned (.tuple #[.agg (regA (turnedR r h).1), .int .i64 (turnedR r h).2]) ∧ Below w.heap.size w w' := by
  have hchk := fun W => rCheck_any r W
  have hhd := fun W => CheckHeading_any h W
  have hti := fun W => Tight_any r W
  simp only [regA] at hchk hti
  by_cases hr : okReg r = true
  · have hk : chkReg r = 0 := by simp [chkReg, hr]
    simp only [hk] at hchk
    by_cases hh : okHdg h = true
    · have hkh : chkHdg h = 0 := by simp [chkHdg, hh]
      simp only [hkh] at hhd
      cases ht : tightO r with
      | none =>
        have hv : turnedR r h = (noReg, 4) := by simp [turnedR, hr, hh, ht]
        have htr : tightR r = (noReg, 4) := by simp [tightR, hr, ht, doneR]
        rw [hv]
        simp only [htr, noReg] at hti
        simp only [regA, noReg]
        clear hv htr hk hkh hr hh ht
        go_enter Tryz.func18, Tryz.ntmps18
        go_wp2_with fail
        refine (hchk _).mono ?_
        rintro e w1 ⟨rfl, hb1⟩
        have k2 := (((Blk.new w 45 #[.int .i64 r.x.lo, .int .i64 r.x.hi, .int .i64 r.y.lo, .int .i64 r.y.hi, .int .i64 r.s.lo, .int .i64 r.s.hi, .int .i64 r.d.lo, .int .i64 r.d.hi]).alloc (.cells #[.int .i64 h.p, .int .i64 h.q, .int .i64 h.c] 47)).alloc (.cells #[.int .i64 0, .int .i64 0, .int .i64 0, .int .i64 0, .int .i64 0, .int .i64 0, .int .i64 0, .int .i64 0] 45)).below hb1
        have k3 : Blk w1 (w.heap.size + 1) 47 #[.int .i64 h.p, .int .i64 h.q, .int .i64 h.c] := ((Blk.newAt (by simp)).alloc _).below hb1
        have k4 : Blk w1 (w.heap.size + 1 + 1) 45 #[.int .i64 0, .int .i64 0, .int .i64 0, .int .i64 0, .int .i64 0, .int .i64 0, .int .i64 0, .int .i64 0] := (Blk.newAt (by simp)).below hb1
        have hb := ((((Below.refl w.heap.size w).alloc (Nat.le_refl _) _).alloc (by simp) _).alloc (by simp; omega) _).trans (hb1.mono (by simp; omega))
        clear hb1 hchk
        obtain ⟨c3, f3, l3⟩ := k3.rules
        go_wp2_with fail
        refine (hhd _).mono ?_
        rintro e w2 ⟨rfl, hb1⟩
        clear c3 f3 l3
        replace k2 := k2.below hb1
        replace k3 := k3.below hb1
        replace k4 := k4.below hb1
        replace hb := hb.trans (hb1.mono hb.size)
        clear hb1 hhd
        obtain ⟨c2, f2, l2⟩ := k2.rules
        go_wp2_with fail
        refine (hti _).mono ?_
        rintro e w3 ⟨rfl, hb1⟩
        clear c2 f2 l2
        replace k2 := k2.below hb1
        replace k3 := k3.below hb1
        replace k4 := k4.below hb1
        replace hb := hb.trans (hb1.mono hb.size)
        clear hb1 hti
        have kz := (k4.set8 (.int .i64 0) (.int .i64 0) (.int .i64 0) (.int .i64 0) (.int .i64 0) (.int .i64 0) (.int .i64 0) (.int .i64 0) ).alloc (.cells #[.int .i64 0, .int .i64 0, .int .i64 0, .int .i64 0, .int .i64 0, .int .i64 0, .int .i64 0, .int .i64 0] 45)
        have bz0 := below_set8 (g := w.heap.size + 1 + 1) hb (by omega) (.int .i64 0) (.int .i64 0) (.int .i64 0) (.int .i64 0) (.int .i64 0) (.int .i64 0) (.int .i64 0) (.int .i64 0) 
        have bz := bz0.alloc bz0.size (.cells #[.int .i64 0, .int .i64 0, .int .i64 0, .int .i64 0, .int .i64 0, .int .i64 0, .int .i64 0, .int .i64 0] 45)
        obtain ⟨wz, hwz⟩ : ∃ x, x = (set8 w3 (w.heap.size + 1 + 1) (.int .i64 0) (.int .i64 0) (.int .i64 0) (.int .i64 0) (.int .i64 0) (.int .i64 0) (.int .i64 0) (.int .i64 0) ).alloc (.cells #[.int .i64 0, .int .i64 0, .int .i64 0, .int .i64 0, .int .i64 0, .int .i64 0, .int .i64 0, .int .i64 0] 45) := ⟨_, rfl⟩
        rw [← hwz] at kz bz
        simp only [set8] at hwz
        obtain ⟨c4, f4, l4⟩ := k4.rules
        go_wp2
        rw [← hwz]
        clear hwz c4 f4 l4
        obtain ⟨c4, f4, l4⟩ := kz.rules
        exact bodyPost_ret (v := .tuple #[.agg #[.int .i64 0, .int .i64 0, .int .i64 0, .int .i64 0, .int .i64 0, .int .i64 0, .int .i64 0, .int .i64 0], .int .i64 4]) (by simp [results, Tryz.results18, go_sem, c4]) rfl ⟨rfl, bz⟩
      | some t =>
        have htr : tightR r = (t, 0) := by simp [tightR, hr, ht, doneR]
        have htu := fun W => turned_any t h W (tightO_ok hr ht) hh
        simp only [htr] at hti
        obtain ⟨T, hT⟩ : ∃ T, turnedS t h = T := ⟨_, rfl⟩
        simp only [hT, regA] at htu
        cases hin : inPlane T with
        | true =>
          have hv : turnedR r h = (T, 0) := by simp only [turnedR, hr, hh, ht, if_true, hT, hin]
          rw [hv]
          simp only [regA]
          simp only [hin] at htu
          clear hv htr hk hkh hr hh ht hT hin
          go_enter Tryz.func18, Tryz.ntmps18
          go_wp2_with fail
          refine (hchk _).mono ?_
          rintro e w1 ⟨rfl, hb1⟩
          have k2 := (((Blk.new w 45 #[.int .i64 r.x.lo, .int .i64 r.x.hi, .int .i64 r.y.lo, .int .i64 r.y.hi, .int .i64 r.s.lo, .int .i64 r.s.hi, .int .i64 r.d.lo, .int .i64 r.d.hi]).alloc (.cells #[.int .i64 h.p, .int .i64 h.q, .int .i64 h.c] 47)).alloc (.cells #[.int .i64 0, .int .i64 0, .int .i64 0, .int .i64 0, .int .i64 0, .int .i64 0, .int .i64 0, .int .i64 0] 45)).below hb1
          have k3 : Blk w1 (w.heap.size + 1) 47 #[.int .i64 h.p, .int .i64 h.q, .int .i64 h.c] := ((Blk.newAt (by simp)).alloc _).below hb1
          have k4 : Blk w1 (w.heap.size + 1 + 1) 45 #[.int .i64 0, .int .i64 0, .int .i64 0, .int .i64 0, .int .i64 0, .int .i64 0, .int .i64 0, .int .i64 0] := (Blk.newAt (by simp)).below hb1
          have hb := ((((Below.refl w.heap.size w).alloc (Nat.le_refl _) _).alloc (by simp) _).alloc (by simp; omega) _).trans (hb1.mono (by simp; omega))
          clear hb1 hchk
          obtain ⟨c3, f3, l3⟩ := k3.rules
          go_wp2_with fail
          refine (hhd _).mono ?_
          rintro e w2 ⟨rfl, hb1⟩
          clear c3 f3 l3
          replace k2 := k2.below hb1
          replace k3 := k3.below hb1
          replace k4 := k4.below hb1
          replace hb := hb.trans (hb1.mono hb.size)
          clear hb1 hhd
          obtain ⟨c2, f2, l2⟩ := k2.rules
          go_wp2_with fail
          refine (hti _).mono ?_
          rintro e w3 ⟨rfl, hb1⟩
          clear c2 f2 l2
          replace k2 := k2.below hb1
          replace k3 := k3.below hb1
          replace k4 := k4.below hb1
          replace hb := hb.trans (hb1.mono hb.size)
          clear hb1 hti
          have k8 := Blk.new w3 45 #[.int .i64 t.x.lo, .int .i64 t.x.hi, .int .i64 t.y.lo, .int .i64 t.y.hi, .int .i64 t.s.lo, .int .i64 t.s.hi, .int .i64 t.d.lo, .int .i64 t.d.hi]
          replace k3 := k3.alloc (.cells #[.int .i64 t.x.lo, .int .i64 t.x.hi, .int .i64 t.y.lo, .int .i64 t.y.hi, .int .i64 t.s.lo, .int .i64 t.s.hi, .int .i64 t.d.lo, .int .i64 t.d.hi] 45)
          replace k4 := k4.alloc (.cells #[.int .i64 t.x.lo, .int .i64 t.x.hi, .int .i64 t.y.lo, .int .i64 t.y.hi, .int .i64 t.s.lo, .int .i64 t.s.hi, .int .i64 t.d.lo, .int .i64 t.d.hi] 45)
          replace hb := hb.alloc hb.size (.cells #[.int .i64 t.x.lo, .int .i64 t.x.hi, .int .i64 t.y.lo, .int .i64 t.y.hi, .int .i64 t.s.lo, .int .i64 t.s.hi, .int .i64 t.d.lo, .int .i64 t.d.hi] 45)
          obtain ⟨c3, f3, l3⟩ := k3.rules
          obtain ⟨c8, f8, l8⟩ := k8.rules
          go_wp2_with fail
          refine (htu _).mono ?_
          rintro e w4 ⟨rfl, hb1⟩
          clear c3 f3 l3 c8 f8 l8 k8
          replace k4 := k4.below hb1
          replace hb := hb.trans (hb1.mono hb.size)
          clear hb1 htu
          have kz := ((k4.alloc (.cells #[.int .i64 T.x.lo, .int .i64 T.x.hi, .int .i64 T.y.lo, .int .i64 T.y.hi, .int .i64 T.s.lo, .int .i64 T.s.hi, .int .i64 T.d.lo, .int .i64 T.d.hi] 45)).set8 (.int .i64 T.x.lo) (.int .i64 T.x.hi) (.int .i64 T.y.lo) (.int .i64 T.y.hi) (.int .i64 T.s.lo) (.int .i64 T.s.hi) (.int .i64 T.d.lo) (.int .i64 T.d.hi))
          have bz0 := hb.alloc hb.size (.cells #[.int .i64 T.x.lo, .int .i64 T.x.hi, .int .i64 T.y.lo, .int .i64 T.y.hi, .int .i64 T.s.lo, .int .i64 T.s.hi, .int .i64 T.d.lo, .int .i64 T.d.hi] 45)
          have k4a := k4.alloc (.cells #[.int .i64 T.x.lo, .int .i64 T.x.hi, .int .i64 T.y.lo, .int .i64 T.y.hi, .int .i64 T.s.lo, .int .i64 T.s.hi, .int .i64 T.d.lo, .int .i64 T.d.hi] 45)
          have k10 := Blk.new w4 45 #[.int .i64 T.x.lo, .int .i64 T.x.hi, .int .i64 T.y.lo, .int .i64 T.y.hi, .int .i64 T.s.lo, .int .i64 T.s.hi, .int .i64 T.d.lo, .int .i64 T.d.hi]
          have kz := (k4.set8 (.int .i64 T.x.lo) (.int .i64 T.x.hi) (.int .i64 T.y.lo) (.int .i64 T.y.hi) (.int .i64 T.s.lo) (.int .i64 T.s.hi) (.int .i64 T.d.lo) (.int .i64 T.d.hi)).alloc (.cells #[.int .i64 T.x.lo, .int .i64 T.x.hi, .int .i64 T.y.lo, .int .i64 T.y.hi, .int .i64 T.s.lo, .int .i64 T.s.hi, .int .i64 T.d.lo, .int .i64 T.d.hi] 45)
          have bz0 := below_set8 (g := w.heap.size + 1 + 1) hb (by omega) (.int .i64 T.x.lo) (.int .i64 T.x.hi) (.int .i64 T.y.lo) (.int .i64 T.y.hi) (.int .i64 T.s.lo) (.int .i64 T.s.hi) (.int .i64 T.d.lo) (.int .i64 T.d.hi)
          have bz := bz0.alloc bz0.size (.cells #[.int .i64 T.x.lo, .int .i64 T.x.hi, .int .i64 T.y.lo, .int .i64 T.y.hi, .int .i64 T.s.lo, .int .i64 T.s.hi, .int .i64 T.d.lo, .int .i64 T.d.hi] 45)
          obtain ⟨wz, hwz⟩ : ∃ x, x = (set8 w4 (w.heap.size + 1 + 1) (.int .i64 T.x.lo) (.int .i64 T.x.hi) (.int .i64 T.y.lo) (.int .i64 T.y.hi) (.int .i64 T.s.lo) (.int .i64 T.s.hi) (.int .i64 T.d.lo) (.int .i64 T.d.hi)).alloc (.cells #[.int .i64 T.x.lo, .int .i64 T.x.hi, .int .i64 T.y.lo, .int .i64 T.y.hi, .int .i64 T.s.lo, .int .i64 T.s.hi, .int .i64 T.d.lo, .int .i64 T.d.hi] 45) := ⟨_, rfl⟩
          rw [← hwz] at kz bz
          simp only [set8] at hwz
          obtain ⟨c4, f4, l4⟩ := k4.rules
          obtain ⟨c10, f10, l10⟩ := k10.rules
          go_wp2
          rw [← hwz]
          clear hwz c4 f4 l4 c10 f10 l10
          obtain ⟨c4, f4, l4⟩ := kz.rules
          exact bodyPost_ret (v := .tuple #[.agg #[.int .i64 T.x.lo, .int .i64 T.x.hi, .int .i64 T.y.lo, .int .i64 T.y.hi, .int .i64 T.s.lo, .int .i64 T.s.hi, .int .i64 T.d.lo, .int .i64 T.d.hi], .int .i64 0]) (by simp [results, Tryz.results18, go_sem, c4]) rfl ⟨rfl, bz⟩
        | false =>
          have hv : turnedR r h = (noReg, 7) := by simp only [turnedR, hr, hh, ht, if_true, hT, hin]; rfl
          rw [hv]
          simp only [regA, noReg]
          simp only [hin] at htu
          clear hv htr hk hkh hr hh ht hT hin
          go_enter Tryz.func18, Tryz.ntmps18
          go_wp2_with fail
          refine (hchk _).mono ?_
          rintro e w1 ⟨rfl, hb1⟩
          have k2 := (((Blk.new w 45 #[.int .i64 r.x.lo, .int .i64 r.x.hi, .int .i64 r.y.lo, .int .i64 r.y.hi, .int .i64 r.s.lo, .int .i64 r.s.hi, .int .i64 r.d.lo, .int .i64 r.d.hi]).alloc (.cells #[.int .i64 h.p, .int .i64 h.q, .int .i64 h.c] 47)).alloc (.cells #[.int .i64 0, .int .i64 0, .int .i64 0, .int .i64 0, .int .i64 0, .int .i64 0, .int .i64 0, .int .i64 0] 45)).below hb1
          have k3 : Blk w1 (w.heap.size + 1) 47 #[.int .i64 h.p, .int .i64 h.q, .int .i64 h.c] := ((Blk.newAt (by simp)).alloc _).below hb1
          have k4 : Blk w1 (w.heap.size + 1 + 1) 45 #[.int .i64 0, .int .i64 0, .int .i64 0, .int .i64 0, .int .i64 0, .int .i64 0, .int .i64 0, .int .i64 0] := (Blk.newAt (by simp)).below hb1
          have hb := ((((Below.refl w.heap.size w).alloc (Nat.le_refl _) _).alloc (by simp) _).alloc (by simp; omega) _).trans (hb1.mono (by simp; omega))
          clear hb1 hchk
          obtain ⟨c3, f3, l3⟩ := k3.rules
          go_wp2_with fail
          refine (hhd _).mono ?_
          rintro e w2 ⟨rfl, hb1⟩
          clear c3 f3 l3
          replace k2 := k2.below hb1
          replace k3 := k3.below hb1
          replace k4 := k4.below hb1
          replace hb := hb.trans (hb1.mono hb.size)
          clear hb1 hhd
          obtain ⟨c2, f2, l2⟩ := k2.rules
          go_wp2_with fail
          refine (hti _).mono ?_
          rintro e w3 ⟨rfl, hb1⟩
          clear c2 f2 l2
          replace k2 := k2.below hb1
          replace k3 := k3.below hb1
          replace k4 := k4.below hb1
          replace hb := hb.trans (hb1.mono hb.size)
          clear hb1 hti
          have k8 := Blk.new w3 45 #[.int .i64 t.x.lo, .int .i64 t.x.hi, .int .i64 t.y.lo, .int .i64 t.y.hi, .int .i64 t.s.lo, .int .i64 t.s.hi, .int .i64 t.d.lo, .int .i64 t.d.hi]
          replace k3 := k3.alloc (.cells #[.int .i64 t.x.lo, .int .i64 t.x.hi, .int .i64 t.y.lo, .int .i64 t.y.hi, .int .i64 t.s.lo, .int .i64 t.s.hi, .int .i64 t.d.lo, .int .i64 t.d.hi] 45)
          replace k4 := k4.alloc (.cells #[.int .i64 t.x.lo, .int .i64 t.x.hi, .int .i64 t.y.lo, .int .i64 t.y.hi, .int .i64 t.s.lo, .int .i64 t.s.hi, .int .i64 t.d.lo, .int .i64 t.d.hi] 45)
          replace hb := hb.alloc hb.size (.cells #[.int .i64 t.x.lo, .int .i64 t.x.hi, .int .i64 t.y.lo, .int .i64 t.y.hi, .int .i64 t.s.lo, .int .i64 t.s.hi, .int .i64 t.d.lo, .int .i64 t.d.hi] 45)
          obtain ⟨c3, f3, l3⟩ := k3.rules
          obtain ⟨c8, f8, l8⟩ := k8.rules
          go_wp2_with fail
          refine (htu _).mono ?_
          rintro e w4 ⟨rfl, hb1⟩
          clear c3 f3 l3 c8 f8 l8 k8
          replace k4 := k4.below hb1
          replace hb := hb.trans (hb1.mono hb.size)
          clear hb1 htu
          have kz := (k4.set8 (.int .i64 0) (.int .i64 0) (.int .i64 0) (.int .i64 0) (.int .i64 0) (.int .i64 0) (.int .i64 0) (.int .i64 0) ).alloc (.cells #[.int .i64 T.x.lo, .int .i64 T.x.hi, .int .i64 T.y.lo, .int .i64 T.y.hi, .int .i64 T.s.lo, .int .i64 T.s.hi, .int .i64 T.d.lo, .int .i64 T.d.hi] 45)
          have bz0 := below_set8 (g := w.heap.size + 1 + 1) hb (by omega) (.int .i64 0) (.int .i64 0) (.int .i64 0) (.int .i64 0) (.int .i64 0) (.int .i64 0) (.int .i64 0) (.int .i64 0) 
          have bz := bz0.alloc bz0.size (.cells #[.int .i64 T.x.lo, .int .i64 T.x.hi, .int .i64 T.y.lo, .int .i64 T.y.hi, .int .i64 T.s.lo, .int .i64 T.s.hi, .int .i64 T.d.lo, .int .i64 T.d.hi] 45)
          obtain ⟨wz, hwz⟩ : ∃ x, x = (set8 w4 (w.heap.size + 1 + 1) (.int .i64 0) (.int .i64 0) (.int .i64 0) (.int .i64 0) (.int .i64 0) (.int .i64 0) (.int .i64 0) (.int .i64 0) ).alloc (.cells #[.int .i64 T.x.lo, .int .i64 T.x.hi, .int .i64 T.y.lo, .int .i64 T.y.hi, .int .i64 T.s.lo, .int .i64 T.s.hi, .int .i64 T.d.lo, .int .i64 T.d.hi] 45) := ⟨_, rfl⟩
          rw [← hwz] at kz bz
          simp only [set8] at hwz
          obtain ⟨c4, f4, l4⟩ := k4.rules
          go_wp2
          rw [← hwz]
          clear hwz c4 f4 l4
          obtain ⟨c4, f4, l4⟩ := kz.rules
          exact bodyPost_ret (v := .tuple #[.agg #[.int .i64 0, .int .i64 0, .int .i64 0, .int .i64 0, .int .i64 0, .int .i64 0, .int .i64 0, .int .i64 0], .int .i64 7]) (by simp [results, Tryz.results18, go_sem, c4]) rfl ⟨rfl, bz⟩
    · have hkh : chkHdg h = 35 := by simp [chkHdg, hh]
      have hv : turnedR r h = (noReg, 35) := by simp [turnedR, hr, hh]
      rw [hv]
      simp only [hkh] at hhd
      simp only [regA, noReg]
      clear hti hv hkh hk hr hh
      go_enter Tryz.func18, Tryz.ntmps18
      go_wp2_with fail
      refine (hchk _).mono ?_
      rintro e w1 ⟨rfl, hb1⟩
      have k2 := (((Blk.new w 45 #[.int .i64 r.x.lo, .int .i64 r.x.hi, .int .i64 r.y.lo, .int .i64 r.y.hi, .int .i64 r.s.lo, .int .i64 r.s.hi, .int .i64 r.d.lo, .int .i64 r.d.hi]).alloc (.cells #[.int .i64 h.p, .int .i64 h.q, .int .i64 h.c] 47)).alloc (.cells #[.int .i64 0, .int .i64 0, .int .i64 0, .int .i64 0, .int .i64 0, .int .i64 0, .int .i64 0, .int .i64 0] 45)).below hb1
      have k3 : Blk w1 (w.heap.size + 1) 47 #[.int .i64 h.p, .int .i64 h.q, .int .i64 h.c] := ((Blk.newAt (by simp)).alloc _).below hb1
      have k4 : Blk w1 (w.heap.size + 1 + 1) 45 #[.int .i64 0, .int .i64 0, .int .i64 0, .int .i64 0, .int .i64 0, .int .i64 0, .int .i64 0, .int .i64 0] := (Blk.newAt (by simp)).below hb1
      have hb := ((((Below.refl w.heap.size w).alloc (Nat.le_refl _) _).alloc (by simp) _).alloc (by simp; omega) _).trans (hb1.mono (by simp; omega))
      clear hb1 hchk
      obtain ⟨c3, f3, l3⟩ := k3.rules
      go_wp2_with fail
      refine (hhd _).mono ?_
      rintro e w2 ⟨rfl, hb1⟩
      clear c3 f3 l3
      replace k2 := k2.below hb1
      replace k3 := k3.below hb1
      replace k4 := k4.below hb1
      replace hb := hb.trans (hb1.mono hb.size)
      clear hb1 hhd
      have kz := k4.set8 (.int .i64 0) (.int .i64 0) (.int .i64 0) (.int .i64 0) (.int .i64 0) (.int .i64 0) (.int .i64 0) (.int .i64 0) 
      have bz := below_set8 (g := w.heap.size + 1 + 1) hb (by omega) (.int .i64 0) (.int .i64 0) (.int .i64 0) (.int .i64 0) (.int .i64 0) (.int .i64 0) (.int .i64 0) (.int .i64 0) 
      obtain ⟨wz, hwz⟩ : ∃ x, x = set8 w2 (w.heap.size + 1 + 1) (.int .i64 0) (.int .i64 0) (.int .i64 0) (.int .i64 0) (.int .i64 0) (.int .i64 0) (.int .i64 0) (.int .i64 0)  := ⟨_, rfl⟩
      rw [← hwz] at kz bz
      simp only [set8] at hwz
      obtain ⟨c4, f4, l4⟩ := k4.rules
      go_wp2
      rw [← hwz]
      clear hwz c4 f4 l4
      obtain ⟨c4, f4, l4⟩ := kz.rules
      exact bodyPost_ret (v := .tuple #[.agg #[.int .i64 0, .int .i64 0, .int .i64 0, .int .i64 0, .int .i64 0, .int .i64 0, .int .i64 0, .int .i64 0], .int .i64 35]) (by simp [results, Tryz.results18, go_sem, c4]) rfl ⟨rfl, bz⟩
  · have hk : chkReg r = 11 := by simp [chkReg, hr]
    have hv : turnedR r h = (noReg, 11) := by simp [turnedR, hr]
    rw [hv]
    simp only [hk] at hchk
    simp only [regA, noReg]
    clear hti hhd hv hk hr
    go_enter Tryz.func18, Tryz.ntmps18
    go_wp2_with fail
    refine (hchk _).mono ?_
    rintro e w1 ⟨rfl, hb1⟩
    have k2 := (((Blk.new w 45 #[.int .i64 r.x.lo, .int .i64 r.x.hi, .int .i64 r.y.lo, .int .i64 r.y.hi, .int .i64 r.s.lo, .int .i64 r.s.hi, .int .i64 r.d.lo, .int .i64 r.d.hi]).alloc (.cells #[.int .i64 h.p, .int .i64 h.q, .int .i64 h.c] 47)).alloc (.cells #[.int .i64 0, .int .i64 0, .int .i64 0, .int .i64 0, .int .i64 0, .int .i64 0, .int .i64 0, .int .i64 0] 45)).below hb1
    have k3 : Blk w1 (w.heap.size + 1) 47 #[.int .i64 h.p, .int .i64 h.q, .int .i64 h.c] := ((Blk.newAt (by simp)).alloc _).below hb1
    have k4 : Blk w1 (w.heap.size + 1 + 1) 45 #[.int .i64 0, .int .i64 0, .int .i64 0, .int .i64 0, .int .i64 0, .int .i64 0, .int .i64 0, .int .i64 0] := (Blk.newAt (by simp)).below hb1
    have hb := ((((Below.refl w.heap.size w).alloc (Nat.le_refl _) _).alloc (by simp) _).alloc (by simp; omega) _).trans (hb1.mono (by simp; omega))
    clear hb1 hchk
    have kz := k4.set8 (.int .i64 0) (.int .i64 0) (.int .i64 0) (.int .i64 0) (.int .i64 0) (.int .i64 0) (.int .i64 0) (.int .i64 0) 
    have bz := below_set8 (g := w.heap.size + 1 + 1) hb (by omega) (.int .i64 0) (.int .i64 0) (.int .i64 0) (.int .i64 0) (.int .i64 0) (.int .i64 0) (.int .i64 0) (.int .i64 0) 
    obtain ⟨wz, hwz⟩ : ∃ x, x = set8 w1 (w.heap.size + 1 + 1) (.int .i64 0) (.int .i64 0) (.int .i64 0) (.int .i64 0) (.int .i64 0) (.int .i64 0) (.int .i64 0) (.int .i64 0)  := ⟨_, rfl⟩
    rw [← hwz] at kz bz
    simp only [set8] at hwz
    obtain ⟨c4, f4, l4⟩ := k4.rules
    go_wp2
    rw [← hwz]
    clear hwz c4 f4 l4
    obtain ⟨c4, f4, l4⟩ := kz.rules
    exact bodyPost_ret (v := .tuple #[.agg #[.int .i64 0, .int .i64 0, .int .i64 0, .int .i64 0, .int .i64 0, .int .i64 0, .int .i64 0, .int .i64 0], .int .i64 11]) (by simp [results, Tryz.results18, go_sem, c4]) rfl ⟨rfl, bz⟩
end Go.Proofs.YtjiaepphnddpoaaGreat
namespace Go.Proofs.YtjiaepphnddpoaaGreat
open Go.RowKit Go.Shelf
theorem rootS_bd {n : Int} (h : 0 ≤ n) : 0 ≤ rootS n ∧ rootS n * rootS n ≤ n := by
  obtain ⟨m, rfl⟩ : ∃ m : Nat, n = m := ⟨n.toNat, by omega⟩
  unfold rootS
  rw [Int.toNat_natCast]
  obtain ⟨h1, _⟩ := isq_spec m
  exact ⟨by omega, by exact_mod_cast h1⟩
theorem shortS_bd {len m : Int} (h1 : 0 ≤ len) (h2 : len ≤ 1000) (h3 : 0 ≤ m) : 0 ≤ shortS len m ∧ shortS len m ≤ 1000 := by
  have m1 : min m len * min m len ≤ len * len := sq_le (by omega) (by omega)
  have m2 : len * len ≤ 1000 * 1000 := sq_le h1 h2
  have m3 : 0 ≤ min m len * min m len := Int.mul_nonneg (by omega) (by omega)
  obtain ⟨r1, r2⟩ := rootS_bd (show 0 ≤ len * len - min m len * min m len by omega)
  refine ⟨r1, ?_⟩
  show rootS _ ≤ _
  rcases Int.lt_or_le 1000 (rootS (len * len - min m len * min m len)) with h | h
  · have := sq_le (show (0 : Int) ≤ 1001 by omega) (show 1001 ≤ rootS (len * len - min m len * min m len) by omega)
    omega
  · exact h
theorem sec_len {s : Strm} (ho : okStrm s = true) (k : Nat) : 0 ≤ (s.sec k).len ∧ (s.sec k).len ≤ 1000 := by
  by_cases hk : k < s.secs.length
  · have := ok_sec ho hk
    obtain ⟨k0, k1, _⟩ := of_decide_eq_true this
    omega
  · have : s.sec k = sec0 := by unfold Strm.sec; rw [List.getD_eq_getElem?_getD, List.getElem?_eq_none (by omega)]; rfl
    rw [this]; decide
theorem farS_bd {s : Strm} (ho : okStrm s = true) : ∀ k : Nat, 0 ≤ farS s k ∧ farS s k ≤ 1000 * k
  | 0 => by simp [farS]
  | k + 1 => by
    have := farS_bd ho k
    have := sec_len ho k
    simp only [farS]
    push_cast
    omega
theorem bend_hi {s : Strm} {bs : List Bnd} (hh : headOk s) (hl : bs.all (okBnd 16384) = true) (k : Nat) : 0 ≤ ((bendL s bs).getD k ⟨0, 0⟩).hi ∧ ((bendL s bs).getD k ⟨0, 0⟩).hi ≤ 32768 := by
  rw [List.getD_eq_getElem?_getD]
  cases h : (bendL s bs)[k]? with
  | none => decide
  | some b => have := bendL_bd hh hl h; simp; omega
theorem nearS_bd {s : Strm} {bs : List Bnd} (ho : okStrm s = true) (hl : bs.all (okBnd 16384) = true) : ∀ k : Nat, 0 ≤ nearS s bs k ∧ nearS s bs k ≤ 1000 * k
  | 0 => by simp [nearS]
  | k + 1 => by
    have := nearS_bd ho hl k
    have h1 := sec_len ho k
    have := shortS_bd h1.1 h1.2 (bend_hi (ok_head ho) hl k).1
    simp only [nearS]
    push_cast
    omega
def nodesTo (s : Strm) (bs : List Bnd) (k : Nat) : List Reg := (List.range k).map (nodeR s bs)
theorem nodesTo_succ (s : Strm) (bs : List Bnd) (k : Nat) : nodesTo s bs (k + 1) = nodesTo s bs k ++ [nodeR s bs k] := by
  unfold nodesTo; rw [List.range_succ, List.map_append]; rfl
theorem Tryz.infoReg : (Tryz.prog.info? 45).map (fun i => (i.zero, i.size, i.bytes)) = some (some (.agg #[.int .i64 0, .int .i64 0, .int .i64 0, .int .i64 0, .int .i64 0, .int .i64 0, .int .i64 0, .int .i64 0]), 8, 64) := by kernel_rfl
theorem ownsRow_set8 {w : World} {base : Nat} {e : TypeId} {size : Nat} {v : Value} {n : Nat} {xs : List Value} {g : Nat} (h : w.ownsRow base e size v n xs) (hg : v.ownBlock ≠ some g) (v0 v1 v2 v3 v4 v5 v6 v7 : Value) : (set8 w g v0 v1 v2 v3 v4 v5 v6 v7).ownsRow base e size v n xs :=
  ownsRow_setCell (ownsRow_setCell (ownsRow_setCell (ownsRow_setCell (ownsRow_setCell (ownsRow_setCell (ownsRow_setCell (ownsRow_setCell h (p := ⟨g, 0, none⟩) hg v0) (p := ⟨g, 1, none⟩) hg v1) (p := ⟨g, 2, none⟩) hg v2) (p := ⟨g, 3, none⟩) hg v3) (p := ⟨g, 4, none⟩) hg v4) (p := ⟨g, 5, none⟩) hg v5) (p := ⟨g, 6, none⟩) hg v6) (p := ⟨g, 7, none⟩) hg v7
def OwnRegs (w0 : World) (n : Nat) (L : List Reg) (e : Ending) (w' : World) : Prop :=
  ∃ O co, e = .returned (.slice O n co) ∧ SlAt w' w0.heap.size 8 Reg.cells O n co L ∧ Below w0.heap.size w0 w'
set_option maxRecDepth 100000 in
set_option maxHeartbeats 4000000 in
theorem nodes_any (s : Strm) (A O : Option Addr) (n c co B1 B : Nat) (bs : List Bnd) (w : World) (ho : okStrm s = true) (hl : okOffs s bs = true) (hss : SlAt w B1 5 Sec.cells A n c s.secs) (hs : SlAt w B 2 Bnd.cells O n co bs) :
    Calls Tryz.prog 81 #[.agg #[.int .i64 s.head, .slice A n c, .int .i64 s.lane.lo, .int .i64 s.lane.hi, .int .i64 s.bend], .slice O n co] w (OwnRegs w n (nodesL s bs)) := by
  have hh := Lib.hid (ok_head ho)
  have hla := Lib.hid (okOffs_all hl)
  have hbl := Lib.hid hs.len
  have hsl := Lib.hid hss.len
  have hn8 : n ≤ 8 := by have := hh.out; unfold headOk at this; have := hsl.out; omega
  replace ho := Lib.hid ho
  replace hl := Lib.hid hl
  go_enter Tryz.func81, Tryz.ntmps81
  go_wp2_with fail
  refine (bends_any s A O n c n co B bs _ hh.out hla.out (hs.alloc _)).mono ?_
  rintro e w1 ⟨O', co', rfl, hown, hr, hb1⟩
  have k2 := (Blk.new w _ _).below hb1
  have b1 := ((Below.refl w.heap.size w).alloc (Nat.le_refl _) _).trans (hb1.mono (by simp))
  have hss1 := (hss.alloc _).below hb1
  have hs1 := (hs.alloc _).below hb1
  have hbdl := Lib.hid (show (bendL s bs).length = n by rw [bendL, eachL_length]; exact hbl.out)
  clear hown hb1 hss hs
  go_wp2_with fail
  go_loopw [5, 6, 7, 15] (fun v f q i wr => ∃ k : Nat, i = .int .i64 k ∧ k ≤ n ∧ f = .int .i64 (farS s k) ∧ q = .int .i64 (nearS s bs k) ∧ wr.ownsRow w1.heap.size 45 8 v k ((nodesTo s bs k).flatMap Reg.cells) ∧ Below w1.heap.size w1 wr) (fun v f q i wr => n - (intOf i).toNat)
  case atStart =>
    exact ⟨0, rfl, Nat.zero_le _, rfl, rfl, ⟨rfl, .inl ⟨rfl, rfl⟩⟩, Below.refl _ _⟩
  case round =>
    obtain ⟨k, rfl, hk, rfl, rfl, hown, hb⟩ := hrel
    by_cases hlt : k < n
    · have hk0 : (0 : Int) ≤ (k : Int) := by omega
      have hk1 : (k : Int) < (n : Int) := by omega
      obtain ⟨y, hy⟩ := some_of_lt hbdl.out hlt
      have hyd : (bendL s bs).getD k ⟨0, 0⟩ = y := by rw [List.getD_eq_getElem?_getD, hy]; rfl
      obtain ⟨z, hz⟩ := some_of_lt hbl.out hlt
      have hzd : bs.getD k ⟨0, 0⟩ = z := by rw [List.getD_eq_getElem?_getD, hz]; rfl
      have hks : k < s.secs.length := by have := hsl.out; omega
      obtain ⟨bb, ob, hO, -, hbbl, e0, e1⟩ := hr.bnd hy
      obtain ⟨bs_, os_, hA, -, hsbl, g0, -⟩ := hss1.sec (sec_at s hks)
      obtain ⟨bz, oz, hOz, -, hzbl, z0, z1⟩ := hs1.bnd hz
      replace e0 := (hb.cell (by dsimp only; omega)).trans e0
      replace e1 := (hb.cell (by dsimp only; omega)).trans e1
      have hyb := bend_hi hh.out hla.out k
      rw [hyd] at hyb
      have hsb := sec_len ho.out k
      have hfb := farS_bd ho.out k
      have hnb := nearS_bd ho.out hla.out k
      have hshb := shortS_bd hsb.1 hsb.2 hyb.1
      have hfs : Hid (farS s (k + 1) = farS s k + (s.sec k).len) := rfl
      have hns : Hid (nearS s bs (k + 1) = nearS s bs k + shortS (s.sec k).len y.hi) := by show nearS s bs k + shortS (s.sec k).len ((bendL s bs).getD k ⟨0, 0⟩).hi = _; rw [hyd]
      have hnode : Hid (nodeR s bs k = (tightR { allReg with x := ⟨-(farS s k + (s.sec k).len), -(nearS s bs k + shortS (s.sec k).len y.hi)⟩, y := z }).1) := by
        show nodeR s bs k = _
        unfold nodeR
        rw [hzd, hfs.out, hns.out]
      have hshort := fun W => shortest_any (s.sec k).len y.hi W hsb.1 hsb.2 hyb.1 (by omega)
      have t1 := IntWalk.i64_in (farS s k + (s.sec k).len) (by omega)
      have t2 := IntWalk.i64_in (nearS s bs k + shortS (s.sec k).len y.hi) (by omega)
      have t3 := IntWalk.i64_in (-(farS s k + (s.sec k).len)) (by omega)
      have t4 := IntWalk.i64_in (-(nearS s bs k + shortS (s.sec k).len y.hi)) (by omega)
      replace hy := Lib.hid hy
      replace hz := Lib.hid hz
      clear hyd hzd
      generalize shortS (s.sec k).len y.hi = sh at *
      generalize (s.sec k).len = ln at *
      generalize farS s k = fa at *
      generalize nearS s bs k = ne at *
      subst hO
      subst hA
      subst hOz
      have k2w := k2.belowB hb k2.lt
      have g0w := (hb.cell (p := ⟨bs_, os_ + k * 5, none⟩) hsbl).trans g0
      obtain ⟨c2, f2, l2⟩ := k2w.rules
      have lsb : bs_ < wr.heap.size := by have := hb.size; omega
      have lbz : bz < w1.heap.size := Nat.lt_of_lt_of_le hzbl (Nat.le_refl _)
      go_wp2_with fail
      clear c2 f2 l2
      have k9 := Blk.new wr 24 #[.int .i64 y.lo, .int .i64 y.hi]
      have k2a := k2w.alloc (.cells #[.int .i64 y.lo, .int .i64 y.hi] 24)
      have g0a := (World.cell?_alloc_lt wr (.cells #[.int .i64 y.lo, .int .i64 y.hi] 24) ⟨bs_, os_ + k * 5, none⟩ lsb).trans g0w
      have hba := hb.alloc hb.size (.cells #[.int .i64 y.lo, .int .i64 y.hi] 24)
      have howna := hown.alloc (.cells #[.int .i64 y.lo, .int .i64 y.hi] 24)
      have lwr : w1.heap.size ≤ wr.heap.size := hb.size
      clear hb hown k2w g0w e0 e1
      generalize hWA : wr.alloc (.cells #[.int .i64 y.lo, .int .i64 y.hi] 24) = WA at *
      clear hWA
      refine wp_held_np (fun w' : World => (∀ j, w'.cell? ⟨w.heap.size, j, none⟩ = #[Value.int .i64 s.head, .slice (some ⟨bs_, os_, none⟩) n c, .int .i64 s.lane.lo, .int .i64 s.lane.hi, .int .i64 s.bend][j]?) ∧ (∀ j, w'.cell? ⟨wr.heap.size, j, none⟩ = #[Value.int .i64 y.lo, .int .i64 y.hi][j]?) ∧ w'.cell? ⟨bs_, os_ + k * 5, none⟩ = some (.int .i64 ln)) (by kernel_rfl) ?_
      have hS : (fun w' : World => (∀ j, w'.cell? ⟨w.heap.size, j, none⟩ = #[Value.int .i64 s.head, .slice (some ⟨bs_, os_, none⟩) n c, .int .i64 s.lane.lo, .int .i64 s.lane.hi, .int .i64 s.bend][j]?) ∧ (∀ j, w'.cell? ⟨wr.heap.size, j, none⟩ = #[Value.int .i64 y.lo, .int .i64 y.hi][j]?) ∧ w'.cell? ⟨bs_, os_ + k * 5, none⟩ = some (.int .i64 ln)) WA.drew := ⟨k2a.cell, k9.cell, g0a⟩
      replace hba := hba.drew
      replace howna : WA.drew.ownsRow _ _ _ _ _ _ := howna
      clear k2a k9 g0a
      generalize WA.drew = W at *
      refine held_take (i := 0) (v := ?_) 29 rfl rfl (by kernel_rfl) (by kernel_rfl) (by kernel_rfl) (fun _ _ _ h => h) (Or.inl ⟨by rfl, ?_⟩) hS ?_
      rotate_left 1
      · intro w' hSw
        try dsimp only at hSw
        obtain ⟨q1, q2, q3⟩ := hSw
        go_simp
        all_goals with_reducible rfl
      try simp only [Act.put, List.setIfInBounds_toArray, List.set_cons_zero, List.set_cons_succ]
      refine held_take (i := 1) (v := ?_) 30 rfl rfl (by kernel_rfl) (by kernel_rfl) (by kernel_rfl) (fun _ _ _ h => h) (Or.inl ⟨by rfl, ?_⟩) hS ?_
      rotate_left 1
      · intro w' hSw
        try dsimp only at hSw
        obtain ⟨q1, q2, q3⟩ := hSw
        go_simp
        all_goals with_reducible rfl
      try simp only [Act.put, List.setIfInBounds_toArray, List.set_cons_zero, List.set_cons_succ]
      refine held_take (i := 2) (v := ?_) 31 rfl rfl (by kernel_rfl) (by kernel_rfl) (by kernel_rfl) (fun _ _ _ h => h) (Or.inl ⟨by rfl, ?_⟩) hS ?_
      rotate_left 1
      · intro w' hSw
        try dsimp only at hSw
        obtain ⟨q1, q2, q3⟩ := hSw
        go_simp
        all_goals with_reducible rfl
      try simp only [Act.put, List.setIfInBounds_toArray, List.set_cons_zero, List.set_cons_succ]
      refine held_take (i := 3) (v := ?_) 32 rfl rfl (by kernel_rfl) (by kernel_rfl) (by kernel_rfl) (fun _ _ _ h => h) (Or.inl ⟨by rfl, ?_⟩) hS ?_
      rotate_left 1
      · intro w' hSw
        try dsimp only at hSw
        obtain ⟨q1, q2, q3⟩ := hSw
        go_simp
        all_goals with_reducible rfl
      try simp only [Act.put, List.setIfInBounds_toArray, List.set_cons_zero, List.set_cons_succ]
      refine held_take (i := 4) (v := ?_) 33 rfl rfl (by kernel_rfl) (by kernel_rfl) (by kernel_rfl) (fun _ _ _ h => h) (Or.inl ⟨by rfl, ?_⟩) hS ?_
      rotate_left 1
      · intro w' hSw
        try dsimp only at hSw
        obtain ⟨q1, q2, q3⟩ := hSw
        go_simp
        all_goals with_reducible rfl
      try simp only [Act.put, List.setIfInBounds_toArray, List.set_cons_zero, List.set_cons_succ]
      refine held_take (i := 5) (v := ?_) 34 rfl rfl (by kernel_rfl) (by kernel_rfl) (by kernel_rfl) (fun _ _ _ h => h) (Or.inl ⟨by rfl, ?_⟩) hS ?_
      rotate_left 1
      · intro w' hSw
        try dsimp only at hSw
        obtain ⟨q1, q2, q3⟩ := hSw
        go_simp
        all_goals with_reducible rfl
      try simp only [Act.put, List.setIfInBounds_toArray, List.set_cons_zero, List.set_cons_succ]
      refine held_take (i := 6) (v := ?_) 35 rfl rfl (by kernel_rfl) (by kernel_rfl) (by kernel_rfl) (fun _ _ _ h => h) (Or.inl ⟨by rfl, ?_⟩) hS ?_
      rotate_left 1
      · intro w' hSw
        try dsimp only at hSw
        obtain ⟨q1, q2, q3⟩ := hSw
        go_simp
        all_goals with_reducible rfl
      try simp only [Act.put, List.setIfInBounds_toArray, List.set_cons_zero, List.set_cons_succ]
      refine held_take (i := 7) (v := ?_) 36 rfl rfl (by kernel_rfl) (by kernel_rfl) (by kernel_rfl) (fun _ _ _ h => h) (Or.inl ⟨by rfl, ?_⟩) hS ?_
      rotate_left 1
      · intro w' hSw
        try dsimp only at hSw
        obtain ⟨q1, q2, q3⟩ := hSw
        go_simp
        all_goals with_reducible rfl
      try simp only [Act.put, List.setIfInBounds_toArray, List.set_cons_zero, List.set_cons_succ]
      refine held_take (i := 8) (v := ?_) 37 rfl rfl (by kernel_rfl) (by kernel_rfl) (by kernel_rfl) (fun _ _ _ h => h) (Or.inl ⟨by rfl, ?_⟩) hS ?_
      rotate_left 1
      · intro w' hSw
        try dsimp only at hSw
        obtain ⟨q1, q2, q3⟩ := hSw
        go_simp
        all_goals with_reducible rfl
      try simp only [Act.put, List.setIfInBounds_toArray, List.set_cons_zero, List.set_cons_succ]
      refine held_take (i := 9) (v := ?_) 38 rfl rfl (by kernel_rfl) (by kernel_rfl) (by kernel_rfl) (fun _ _ _ h => h) (Or.inl ⟨by rfl, ?_⟩) hS ?_
      rotate_left 1
      · intro w' hSw
        try dsimp only at hSw
        obtain ⟨q1, q2, q3⟩ := hSw
        go_simp
        all_goals with_reducible rfl
      try simp only [Act.put, List.setIfInBounds_toArray, List.set_cons_zero, List.set_cons_succ]
      refine held_one (i := 10) (by kernel_rfl) rfl rfl (fun K hK => ?_)
      go_simp
      refine (hshort _).mono ?_
      rintro e w' ⟨rfl, rfl⟩
      refine hK _ _ hS ?_
      clear hK K
      try simp only [Act.put, List.setIfInBounds_toArray, List.set_cons_zero, List.set_cons_succ]
      refine held_take (i := 11) (v := ?_) 40 rfl rfl (by kernel_rfl) (by kernel_rfl) (by kernel_rfl) (fun _ _ _ h => h) (Or.inl ⟨by rfl, ?_⟩) hS ?_
      rotate_left 1
      · intro w' hSw
        try dsimp only at hSw
        obtain ⟨q1, q2, q3⟩ := hSw
        go_simp
        all_goals with_reducible rfl
      try simp only [Act.put, List.setIfInBounds_toArray, List.set_cons_zero, List.set_cons_succ]
      refine held_take (i := 12) (v := ?_) 7 rfl rfl (by kernel_rfl) (by kernel_rfl) (by kernel_rfl) (fun _ _ _ h => h) (Or.inl ⟨by rfl, ?_⟩) hS ?_
      rotate_left 1
      · intro w' hSw
        try dsimp only at hSw
        obtain ⟨q1, q2, q3⟩ := hSw
        go_simp
        all_goals with_reducible rfl
      try simp only [Act.put, List.setIfInBounds_toArray, List.set_cons_zero, List.set_cons_succ]
      refine wpAnyH_done (by kernel_rfl) (noPanic_normal ?_) _
      clear hS hshort
      have hall := fun W => All_any W
      simp only [regA, allReg] at hall
      go_wp2_with fail
      refine (hall _).mono ?_
      rintro e w3 ⟨rfl, hb3⟩
      clear hall
      replace howna := ownsRow_below howna hb3
      replace hba := hba.trans (hb3.mono hba.size)
      clear hb3
      have lw3 := hba.size
      have howna0 := howna
      go_wp2_with fail
      have k10 := Blk.new w3 45 #[.int .i64 (-32768), .int .i64 32768, .int .i64 (-32768), .int .i64 32768, .int .i64 (-65536), .int .i64 65536, .int .i64 (-65536), .int .i64 65536]
      replace howna := howna.alloc (.cells #[.int .i64 (-32768), .int .i64 32768, .int .i64 (-32768), .int .i64 32768, .int .i64 (-65536), .int .i64 65536, .int .i64 (-65536), .int .i64 65536] 45)
      replace hba := hba.alloc hba.size (.cells #[.int .i64 (-32768), .int .i64 32768, .int .i64 (-32768), .int .i64 32768, .int .i64 (-65536), .int .i64 65536, .int .i64 (-65536), .int .i64 65536] 45)
      generalize hV0 : w3.alloc (.cells #[.int .i64 (-32768), .int .i64 32768, .int .i64 (-32768), .int .i64 32768, .int .i64 (-65536), .int .i64 65536, .int .i64 (-65536), .int .i64 65536] 45) = V0 at *
      clear hV0
      refine wp_held_np (fun w' : World => w'.cell? ⟨bz, oz + k * 2, none⟩ = some (.int .i64 z.lo) ∧ w'.cell? ⟨bz, oz + k * 2 + 1, none⟩ = some (.int .i64 z.hi)) (by kernel_rfl) ?_
      replace hba := hba.drew
      replace howna : V0.drew.ownsRow _ _ _ _ _ _ := howna
      replace k10 := k10.drew
      generalize V0.drew = V at *
      have hS : (fun w' : World => w'.cell? ⟨bz, oz + k * 2, none⟩ = some (.int .i64 z.lo) ∧ w'.cell? ⟨bz, oz + k * 2 + 1, none⟩ = some (.int .i64 z.hi)) V := ⟨(hba.cell (p := ⟨bz, oz + k * 2, none⟩) lbz).trans z0, (hba.cell (p := ⟨bz, oz + k * 2 + 1, none⟩) lbz).trans z1⟩
      refine held_take (i := 0) (v := ?_) 42 rfl rfl (by kernel_rfl) (by kernel_rfl) (by kernel_rfl) (fun _ _ _ h => h) (Or.inl ⟨by rfl, ?_⟩) hS ?_
      rotate_left 1
      · intro w' hSw
        try dsimp only at hSw
        obtain ⟨q1, q2⟩ := hSw
        go_simp
        all_goals with_reducible rfl
      try simp only [Act.put, List.setIfInBounds_toArray, List.set_cons_zero, List.set_cons_succ]
      refine held_take (i := 1) (v := ?_) 43 rfl rfl (by kernel_rfl) (by kernel_rfl) (by kernel_rfl) (fun _ _ _ h => h) (Or.inl ⟨by rfl, ?_⟩) hS ?_
      rotate_left 1
      · intro w' hSw
        try dsimp only at hSw
        obtain ⟨q1, q2⟩ := hSw
        go_simp
        all_goals with_reducible rfl
      try simp only [Act.put, List.setIfInBounds_toArray, List.set_cons_zero, List.set_cons_succ]
      refine held_take (i := 2) (v := ?_) 44 rfl rfl (by kernel_rfl) (by kernel_rfl) (by kernel_rfl) (fun _ _ _ h => h) (Or.inl ⟨by rfl, ?_⟩) hS ?_
      rotate_left 1
      · intro w' hSw
        try dsimp only at hSw
        obtain ⟨q1, q2⟩ := hSw
        go_simp
        all_goals with_reducible rfl
      try simp only [Act.put, List.setIfInBounds_toArray, List.set_cons_zero, List.set_cons_succ]
      refine held_take (i := 3) (v := ?_) 45 rfl rfl (by kernel_rfl) (by kernel_rfl) (by kernel_rfl) (fun _ _ _ h => h) (Or.inl ⟨by rfl, ?_⟩) hS ?_
      rotate_left 1
      · intro w' hSw
        try dsimp only at hSw
        obtain ⟨q1, q2⟩ := hSw
        go_simp
        all_goals with_reducible rfl
      try simp only [Act.put, List.setIfInBounds_toArray, List.set_cons_zero, List.set_cons_succ]
      refine held_take (i := 4) (v := ?_) 46 rfl rfl (by kernel_rfl) (by kernel_rfl) (by kernel_rfl) (fun _ _ _ h => h) (Or.inl ⟨by rfl, ?_⟩) hS ?_
      rotate_left 1
      · intro w' hSw
        try dsimp only at hSw
        obtain ⟨q1, q2⟩ := hSw
        go_simp
        all_goals with_reducible rfl
      try simp only [Act.put, List.setIfInBounds_toArray, List.set_cons_zero, List.set_cons_succ]
      refine held_take (i := 5) (v := ?_) 47 rfl rfl (by kernel_rfl) (by kernel_rfl) (by kernel_rfl) (fun _ _ _ h => h) (Or.inl ⟨by rfl, ?_⟩) hS ?_
      rotate_left 1
      · intro w' hSw
        try dsimp only at hSw
        obtain ⟨q1, q2⟩ := hSw
        go_simp
        all_goals with_reducible rfl
      try simp only [Act.put, List.setIfInBounds_toArray, List.set_cons_zero, List.set_cons_succ]
      refine held_take (i := 6) (v := ?_) 48 rfl rfl (by kernel_rfl) (by kernel_rfl) (by kernel_rfl) (fun _ _ _ h => h) (Or.inl ⟨by rfl, ?_⟩) hS ?_
      rotate_left 1
      · intro w' hSw
        try dsimp only at hSw
        obtain ⟨q1, q2⟩ := hSw
        go_simp
        all_goals with_reducible rfl
      try simp only [Act.put, List.setIfInBounds_toArray, List.set_cons_zero, List.set_cons_succ]
      refine held_take (i := 7) (v := ?_) 49 rfl rfl (by kernel_rfl) (by kernel_rfl) (by kernel_rfl) (fun _ _ _ h => h) (Or.inl ⟨by rfl, ?_⟩) hS ?_
      rotate_left 1
      · intro w' hSw
        try dsimp only at hSw
        obtain ⟨q1, q2⟩ := hSw
        go_simp
        all_goals with_reducible rfl
      try simp only [Act.put, List.setIfInBounds_toArray, List.set_cons_zero, List.set_cons_succ]
      refine held_take (i := 8) (v := ?_) 50 rfl rfl (by kernel_rfl) (by kernel_rfl) (by kernel_rfl) (fun _ _ _ h => h) (Or.inl ⟨by rfl, ?_⟩) hS ?_
      rotate_left 1
      · intro w' hSw
        try dsimp only at hSw
        obtain ⟨q1, q2⟩ := hSw
        go_simp
        all_goals with_reducible rfl
      try simp only [Act.put, List.setIfInBounds_toArray, List.set_cons_zero, List.set_cons_succ]
      refine held_take (i := 9) (v := ?_) 51 rfl rfl (by kernel_rfl) (by kernel_rfl) (by kernel_rfl) (fun _ _ _ h => h) (Or.inl ⟨by rfl, ?_⟩) hS ?_
      rotate_left 1
      · intro w' hSw
        try dsimp only at hSw
        obtain ⟨q1, q2⟩ := hSw
        go_simp
        all_goals with_reducible rfl
      try simp only [Act.put, List.setIfInBounds_toArray, List.set_cons_zero, List.set_cons_succ]
      have hvne : u5.ownBlock ≠ some w3.heap.size := fun e => by
        have := howna0.lt _ e
        omega
      have k10a := (k10.set_ 0 (.int .i64 (-(fa + ln)))).set_ 1 (.int .i64 (-(ne + sh)))
      have hbb := (hba.setCell (p := ⟨w3.heap.size, 0, none⟩) lw3 (.int .i64 (-(fa + ln)))).setCell (p := ⟨w3.heap.size, 1, none⟩) lw3 (.int .i64 (-(ne + sh)))
      have hownb := ownsRow_setCell (ownsRow_setCell howna (p := ⟨w3.heap.size, 0, none⟩) hvne (.int .i64 (-(fa + ln)))) (p := ⟨w3.heap.size, 1, none⟩) hvne (.int .i64 (-(ne + sh)))
      obtain ⟨c10, f10, l10⟩ := k10.rules
      refine held_one (i := 10) (by kernel_rfl) rfl rfl (fun K hK => ?_)
      go_simp
      refine hK _ _ ⟨(hbb.cell (p := ⟨bz, oz + k * 2, none⟩) lbz).trans z0, (hbb.cell (p := ⟨bz, oz + k * 2 + 1, none⟩) lbz).trans z1⟩ ?_
      clear hK K c10 f10 l10 hS k10 hba howna
      simp only [List.setIfInBounds_toArray, List.set_cons_zero, List.set_cons_succ] at k10a
      generalize (V.setCell ⟨w3.heap.size, 0, none⟩ (.int .i64 (-(fa + ln)))).setCell ⟨w3.heap.size, 1, none⟩ (.int .i64 (-(ne + sh))) = V1 at *
      have hS : (fun w' : World => w'.cell? ⟨bz, oz + k * 2, none⟩ = some (.int .i64 z.lo) ∧ w'.cell? ⟨bz, oz + k * 2 + 1, none⟩ = some (.int .i64 z.hi)) V1 := ⟨(hbb.cell (p := ⟨bz, oz + k * 2, none⟩) lbz).trans z0, (hbb.cell (p := ⟨bz, oz + k * 2 + 1, none⟩) lbz).trans z1⟩
      try simp only [Act.put, List.setIfInBounds_toArray, List.set_cons_zero, List.set_cons_succ]
      refine held_take (i := 11) (v := ?_) 52 rfl rfl (by kernel_rfl) (by kernel_rfl) (by kernel_rfl) (fun _ _ _ h => h) (Or.inl ⟨by rfl, ?_⟩) hS ?_
      rotate_left 1
      · intro w' hSw
        try dsimp only at hSw
        obtain ⟨q1, q2⟩ := hSw
        go_simp
        all_goals with_reducible rfl
      try simp only [Act.put, List.setIfInBounds_toArray, List.set_cons_zero, List.set_cons_succ]
      have k10b := (k10a.set_ 2 (.int .i64 z.lo)).set_ 3 (.int .i64 z.hi)
      have hbc := (hbb.setCell (p := ⟨w3.heap.size, 2, none⟩) lw3 (.int .i64 z.lo)).setCell (p := ⟨w3.heap.size, 3, none⟩) lw3 (.int .i64 z.hi)
      have hownc := ownsRow_setCell (ownsRow_setCell hownb (p := ⟨w3.heap.size, 2, none⟩) hvne (.int .i64 z.lo)) (p := ⟨w3.heap.size, 3, none⟩) hvne (.int .i64 z.hi)
      obtain ⟨c10, f10, l10⟩ := k10a.rules
      refine held_one (i := 12) (by kernel_rfl) rfl rfl (fun K hK => ?_)
      go_simp
      refine hK _ _ ⟨(hbc.cell (p := ⟨bz, oz + k * 2, none⟩) lbz).trans z0, (hbc.cell (p := ⟨bz, oz + k * 2 + 1, none⟩) lbz).trans z1⟩ ?_
      clear hK K c10 f10 l10 hS k10a hbb hownb
      simp only [List.setIfInBounds_toArray, List.set_cons_zero, List.set_cons_succ] at k10b
      generalize (V1.setCell ⟨w3.heap.size, 2, none⟩ (.int .i64 z.lo)).setCell ⟨w3.heap.size, 3, none⟩ (.int .i64 z.hi) = V2 at *
      refine wpAnyH_done (by kernel_rfl) (noPanic_normal ?_) _
      have hti := fun W => Tight_any { allReg with x := ⟨-(fa + ln), -(ne + sh)⟩, y := z } W
      simp only [← hnode.out] at hti
      simp only [regA, allReg] at hti
      obtain ⟨R, hR⟩ : ∃ R, nodeR s bs k = R := ⟨_, rfl⟩
      simp only [hR] at hti
      replace hR := Lib.hid hR
      obtain ⟨c10, f10, l10⟩ := k10b.rules
      go_wp2_with fail
      refine (hti _).mono ?_
      rintro e w6 ⟨rfl, hb6⟩
      clear hti c10 f10 l10
      have k10c := k10b.below hb6
      have hownd := ownsRow_below hownc hb6
      have hbd := hbc.trans (hb6.mono hbc.size)
      clear k10b hownc hbc hb6
      have k10d := k10c.set8 (.int .i64 R.x.lo) (.int .i64 R.x.hi) (.int .i64 R.y.lo) (.int .i64 R.y.hi) (.int .i64 R.s.lo) (.int .i64 R.s.hi) (.int .i64 R.d.lo) (.int .i64 R.d.hi)
      have hbe := below_set8 (g := w3.heap.size) hbd lw3 (.int .i64 R.x.lo) (.int .i64 R.x.hi) (.int .i64 R.y.lo) (.int .i64 R.y.hi) (.int .i64 R.s.lo) (.int .i64 R.s.hi) (.int .i64 R.d.lo) (.int .i64 R.d.hi)
      have howne := ownsRow_set8 (g := w3.heap.size) hownd hvne (.int .i64 R.x.lo) (.int .i64 R.x.hi) (.int .i64 R.y.lo) (.int .i64 R.y.hi) (.int .i64 R.s.lo) (.int .i64 R.s.hi) (.int .i64 R.d.lo) (.int .i64 R.d.hi)
      obtain ⟨c10, f10, l10⟩ := k10c.rules
      have hsz8 : (set8 w6 w3.heap.size (.int .i64 R.x.lo) (.int .i64 R.x.hi) (.int .i64 R.y.lo) (.int .i64 R.y.hi) (.int .i64 R.s.lo) (.int .i64 R.s.hi) (.int .i64 R.d.lo) (.int .i64 R.d.hi)).heap.size = w6.heap.size := by simp [set8, World.setCell]
      have hnews : ∀ (j : Nat) (u : Value), (Reg.cells R)[j]? = some u → ((set8 w6 w3.heap.size (.int .i64 R.x.lo) (.int .i64 R.x.hi) (.int .i64 R.y.lo) (.int .i64 R.y.hi) (.int .i64 R.s.lo) (.int .i64 R.s.hi) (.int .i64 R.d.lo) (.int .i64 R.d.hi)).alloc (.cells #[.int .i64 R.x.lo, .int .i64 R.x.hi, .int .i64 R.y.lo, .int .i64 R.y.hi, .int .i64 R.s.lo, .int .i64 R.s.hi, .int .i64 R.d.lo, .int .i64 R.d.hi] 45)).cell? ((⟨w6.heap.size, 0, none⟩ : Addr).add j) = some u :=
        World.news_of_block (cs := #[.int .i64 R.x.lo, .int .i64 R.x.hi, .int .i64 R.y.lo, .int .i64 R.y.hi, .int .i64 R.s.lo, .int .i64 R.s.hi, .int .i64 R.d.lo, .int .i64 R.d.hi]) (t := 45) (fr := (0, 0)) (by rw [← hsz8]; exact World.alloc_heap_new _ _)
      have hownf := howne.alloc (.cells #[.int .i64 R.x.lo, .int .i64 R.x.hi, .int .i64 R.y.lo, .int .i64 R.y.hi, .int .i64 R.s.lo, .int .i64 R.s.hi, .int .i64 R.d.lo, .int .i64 R.d.hi] 45)
      have hbf := hbe.alloc hbe.size (.cells #[.int .i64 R.x.lo, .int .i64 R.x.hi, .int .i64 R.y.lo, .int .i64 R.y.hi, .int .i64 R.s.lo, .int .i64 R.s.hi, .int .i64 R.d.lo, .int .i64 R.d.hi] 45)
      have hszf : ((set8 w6 w3.heap.size (.int .i64 R.x.lo) (.int .i64 R.x.hi) (.int .i64 R.y.lo) (.int .i64 R.y.hi) (.int .i64 R.s.lo) (.int .i64 R.s.hi) (.int .i64 R.d.lo) (.int .i64 R.d.hi)).alloc (.cells #[.int .i64 R.x.lo, .int .i64 R.x.hi, .int .i64 R.y.lo, .int .i64 R.y.hi, .int .i64 R.s.lo, .int .i64 R.s.hi, .int .i64 R.d.lo, .int .i64 R.d.hi] 45)).heap.size = w6.heap.size + 1 := by rw [World.size_alloc, hsz8]
      clear k10c hownd hbd k10d howne hbe
      obtain ⟨i0, hi0, hz0, hz1, hz2⟩ := info_parts Tryz.infoReg
      have hnx := Lib.hid (nodesTo_succ s bs k)
      have hbig1 : Hid (k + 1 ≤ maxLen) := by show k + 1 ≤ maxLen; unfold maxLen; omega
      have hbig2 : Hid ((k + 1) * 64 ≤ 140737488355328) := by show (k + 1) * 64 ≤ 140737488355328; omega
      have hone : Hid (∀ u ∈ Reg.cells R, u.oneCell' = true) := by show ∀ u ∈ Reg.cells R, u.oneCell' = true; intro u hu; simp [Reg.cells] at hu; rcases hu with rfl | rfl | rfl | rfl | rfl | rfl | rfl | rfl <;> rfl
      go_wp2_with (at_builtin; refine wpList_append_lies _ rfl (.tmp 58) (.tmp 60) 62 rfl w1.heap.size 45 i0 (.agg #[.int .i64 0, .int .i64 0, .int .i64 0, .int .i64 0, .int .i64 0, .int .i64 0, .int .i64 0, .int .i64 0]) 8 64 Tryz.underlying62 hi0 hz0 hz1 hz2 rfl (by decide) u5 k ((nodesTo s bs k).flatMap Reg.cells) rfl hownf ⟨w6.heap.size, 0, none⟩ 1 1 (Reg.cells R) rfl rfl hnews hone.out (by decide) hbig1.out hbig2.out hbf.size (w6.heap.size + 1) hszf ?_; intro g cap w7 hown7 hgrow hlies hlt7)
      have hbg : Below w1.heap.size _ w7 := ⟨hgrow.os, hgrow.tape, hgrow.output, hgrow.size, fun b hb => hgrow.block b (Nat.lt_of_lt_of_le hb hbf.size) (fun e => by have := (howna0.lt _ e.symm).1; omega)⟩
      have hbh := hbf.trans hbg
      go_roundw
      case rel =>
        refine ⟨k + 1, by go_num, by omega, by rw [hfs.out], by rw [hns.out], ?_, hbh⟩
        rw [hnx.out, hR.out, List.flatMap_append]
        simpa using hown7
      case measure => simp [intOf]; omega
    · obtain rfl : k = n := by omega
      go_wp2
      go_ret
      obtain ⟨O2, c2, e2, h2⟩ := SlAt.of_own (enc := Reg.cells) hown (by omega) (nodesTo s bs k) rfl (fun _ => rfl) (by simp [nodesTo])
      have hnl : nodesTo s bs k = nodesL s bs := by unfold nodesTo nodesL; rw [hbl.out]
      rw [hnl] at h2
      exact ⟨O2, c2, by rw [e2]; rfl, h2.mono b1.size, b1.trans (hb.mono b1.size)⟩
set_option maxRecDepth 100000 in
set_option maxHeartbeats 1000000 in
theorem Nodes_any (s : Strm) (A O : Option Addr) (n c no co B1 B : Nat) (bs : List Bnd) (w : World) (hss : SlAt w B1 5 Sec.cells A n c s.secs) (hs : SlAt w B 2 Bnd.cells O no co bs) :
    Calls Tryz.prog 27 #[.agg #[.int .i64 s.head, .slice A n c, .int .i64 s.lane.lo, .int .i64 s.lane.hi, .int .i64 s.bend], .slice O no co] w (RetSl 8 Reg.cells (nodesR s bs) w) := by
  by_cases h1 : errB s bs = 0
  · obtain ⟨e1, e2⟩ := errB_zero h1
    have hno : no = n := by have := okOffs_len e2; have := hs.len; have := hss.len; omega
    subst hno
    have hv : nodesR s bs = (nodesL s bs, 0) := by simp [nodesR, h1]
    rw [hv]
    have hnl : (nodesL s bs).length = no := by simp [nodesL, hs.len]
    replace h1 := Lib.hid h1
    replace hnl := Lib.hid hnl
    clear hv
    go_enter Tryz.func27, Tryz.ntmps27
    go_wp2_with fail
    refine (checked_any s A O no c no co B1 B bs _ (hss.alloc _) (hs.alloc _)).mono ?_
    rintro e w1 ⟨r1, -, hb1⟩
    obtain rfl := r1 h1.out
    clear r1
    have b1 := ((Below.refl w.heap.size w).alloc (Nat.le_refl _) _).trans (hb1.mono (by simp))
    have hss1 := ((hss.alloc _).below hb1).alloc (.cells #[.int .i64 s.head, .slice A no c, .int .i64 s.lane.lo, .int .i64 s.lane.hi, .int .i64 s.bend] 102)
    have hs1 := ((hs.alloc _).below hb1).alloc (.cells #[.int .i64 s.head, .slice A no c, .int .i64 s.lane.lo, .int .i64 s.lane.hi, .int .i64 s.bend] 102)
    have b1a := b1.alloc b1.size (.cells #[.int .i64 s.head, .slice A no c, .int .i64 s.lane.lo, .int .i64 s.lane.hi, .int .i64 s.bend] 102)
    go_wp2_with fail
    refine (nodes_any s A O no c co B1 B bs _ e1 e2 hss1 hs1).mono ?_
    rintro e w2 ⟨O', co', rfl, hr, hb2⟩
    go_wp2
    go_ret2
    exact ⟨O', no, co', rfl, hr.mono b1a.size, b1a.trans (hb2.mono b1a.size)⟩
  · have hv : nodesR s bs = ([], errB s bs) := by simp [nodesR, h1]
    rw [hv]
    have h1' : (errB s bs != 0) = true := by rw [bne_iff_ne]; exact h1
    clear hv
    go_enter Tryz.func27, Tryz.ntmps27
    go_wp2_with fail
    refine (checked_any s A O n c no co B1 B bs _ (hss.alloc _) (hs.alloc _)).mono ?_
    rintro e w1 ⟨-, r2, hb1⟩
    obtain rfl := r2 h1
    clear r2
    have b1 := ((Below.refl w.heap.size w).alloc (Nat.le_refl _) _).trans (hb1.mono (by simp))
    go_wp2
    go_ret2
    exact RetSl.none_ (Below.alloc b1 b1.size _)
end Go.Proofs.YtjiaepphnddpoaaGreat
namespace Go.Proofs.YtjiaepphnddpoaaGreat
open Go.RowKit Go.Shelf
theorem Fastest_any (s : Strm) (A O D C : Option Addr) (n c no co nd cd nc cc : Nat) (bs : List Bnd) (l : List Wat) (ch : List Int) (w : World) (hss : SlAt w 0 5 Sec.cells A n c s.secs) (hs : SlAt w 0 2 Bnd.cells O no co bs) (hd : SlAt w 0 4 Wat.cells D nd cd l) (hcs : SlAt w 0 1 ivs C nc cc ch) :
    Calls Tryz.prog 22 #[.agg #[.int .i64 s.head, .slice A n c, .int .i64 s.lane.lo, .int .i64 s.lane.hi, .int .i64 s.bend], .slice O no co, .slice D nd cd, .slice C nc cc] w (RetFast (fastR s bs l ch) w) := by
  by_cases h1 : errBW s bs l = 0
  · obtain rfl := errBW_n h1 hss hs
    by_cases h3 : 1 ≤ l.length ∧ l.length ≤ 6 ∧ 1 ≤ ch.length ∧ ch.length ≤ 4
    · cases h4 : okSpeeds ch
      · exact Fastest_spd s A O D C _ c co nd cd nc cc bs l ch w hss hs hd hcs h1 h3 h4
      · exact Fastest_run s A O D C _ c co nd cd nc cc bs l ch w hss hs hd hcs h1 h3 h4
    · exact Fastest_lim s A O D C _ c co nd cd nc cc bs l ch w hss hs hd hcs h1 h3
  · exact Fastest_err s A O D C n c no co nd cd nc cc bs l ch w hss hs hd hcs h1
theorem short0 : shortS 100 7 = 99 := by
  unfold shortS rootS
  rw [show ((100 : Int) * 100 - min 7 100 * min 7 100).toNat = 9951 from by decide, isq_eq (n := 9951) (r := 99) (by decide) (by decide)]; rfl
theorem short1 : shortS 100 16 = 98 := by
  unfold shortS rootS
  rw [show ((100 : Int) * 100 - min 16 100 * min 16 100).toNat = 9744 from by decide, isq_eq (n := 9744) (r := 98) (by decide) (by decide)]; rfl
theorem nearS_succ (s : Strm) (bs : List Bnd) (k : Nat) : nearS s bs (k + 1) = nearS s bs k + shortS (s.sec k).len ((bendL s bs).getD k ⟨0, 0⟩).hi := rfl
theorem near0 : nearS cable0 [⟨4, 7⟩, ⟨16, 20⟩] 1 = 99 := by
  rw [nearS, show (cable0.sec 0).len = 100 from rfl, show ((bendL cable0 [⟨4, 7⟩, ⟨16, 20⟩]).getD 0 ⟨0, 0⟩).hi = 7 from by decide +kernel, short0]; rfl
theorem b16 : ((bendL cable0 [⟨4, 7⟩, ⟨16, 20⟩]).getD 1 ⟨0, 0⟩).hi = 16 := by decide +kernel
theorem l100 : (cable0.sec 1).len = 100 := by decide +kernel
theorem near1' (k : Nat) (hk : k = 1) : nearS cable0 [⟨4, 7⟩, ⟨16, 20⟩] (k + 1) = 197 := by
  rw [nearS_succ]
  subst hk
  rw [near0, l100, b16, short1]
  decide
theorem nodesL_two (s : Strm) (a b : Bnd) : nodesL s [a, b] = [nodeR s [a, b] 0, nodeR s [a, b] 1] := rfl
theorem errB0 : errB cable0 [⟨4, 7⟩, ⟨16, 20⟩] = 0 := by decide +kernel
theorem nodeR_of (s : Strm) (bs : List Bnd) (k : Nat) (f n : Int) (y : Bnd) (hf : farS s (k + 1) = f) (hn : nearS s bs (k + 1) = n) (hy : bs.getD k ⟨0, 0⟩ = y) : nodeR s bs k = (tightR { allReg with x := ⟨-f, -n⟩, y := y }).1 := by
  unfold nodeR; rw [hf, hn, hy]
theorem node0 : nodeR cable0 [⟨4, 7⟩, ⟨16, 20⟩] 0 = ⟨⟨-100, -99⟩, ⟨4, 7⟩, ⟨-96, -92⟩, ⟨-107, -103⟩⟩ :=
  (nodeR_of _ _ 0 100 99 ⟨4, 7⟩ (by decide) near0 rfl).trans (by decide +kernel)
theorem node1 : nodeR cable0 [⟨4, 7⟩, ⟨16, 20⟩] 1 = ⟨⟨-200, -197⟩, ⟨16, 20⟩, ⟨-184, -177⟩, ⟨-220, -213⟩⟩ :=
  (nodeR_of _ _ 1 200 197 ⟨16, 20⟩ (by decide) (near1' 1 rfl) rfl).trans (by decide +kernel)
theorem nodesR_of (s : Strm) (a b : Bnd) (x y : Reg) (h : errB s [a, b] = 0) (h0 : nodeR s [a, b] 0 = x) (h1 : nodeR s [a, b] 1 = y) : nodesR s [a, b] = ([x, y], 0) := by
  unfold nodesR; rw [if_pos h, nodesL_two, h0, h1]
theorem nodes0 : nodesR cable0 [⟨4, 7⟩, ⟨16, 20⟩] = ([⟨⟨-100, -99⟩, ⟨4, 7⟩, ⟨-96, -92⟩, ⟨-107, -103⟩⟩, ⟨⟨-200, -197⟩, ⟨16, 20⟩, ⟨-184, -177⟩, ⟨-220, -213⟩⟩], 0) := nodesR_of _ _ _ _ _ errB0 node0 node1
theorem turned0 : turnedR ⟨⟨-100, -99⟩, ⟨4, 7⟩, ⟨-200, 200⟩, ⟨-200, 200⟩⟩ ⟨3, 4, 5⟩ = (⟨⟨-66, -62⟩, ⟨-78, -75⟩, ⟨-142, -139⟩, ⟨10, 15⟩⟩, 0) := by decide +kernel
set_option maxRecDepth 100000 in
set_option maxHeartbeats 4000000 in
theorem works_any (w : World) : Calls Tryz.prog 17 #[] w fun e w' => e = .returned (.bool true) ∧ Below w.heap.size w w' := by
  have b := Below.refl w.heap.size w
  go_enter Tryz.func17, Tryz.ntmps17
  go_wp2_with fail
  refine (cable_any _).mono ?_
  rintro e w1 ⟨A1, rfl, hc1, hb⟩
  replace b := b.trans (hb.mono b.size)
  replace hc1 := hc1.mono (Nat.zero_le _)
  clear hb
  replace hc1 := hc1.alloc (.cells #[.int .i64 10, .int .i64 20] 3)
  have i1 := (SlAt.of_blk (enc := ivs) (s := 1) (Blk.new w1 3 #[.int .i64 10, .int .i64 20]) (fun _ => rfl) [(10 : Int), (20 : Int)] rfl (by decide)).mono (Nat.zero_le _)
  replace b := b.alloc b.size (.cells #[.int .i64 10, .int .i64 20] 3)
  replace hc1 := hc1.alloc (.cells #[.int .i64 4, .int .i64 (-3)] 3)
  replace i1 := i1.alloc (.cells #[.int .i64 4, .int .i64 (-3)] 3)
  have i2 := (SlAt.of_blk (enc := ivs) (s := 1) (Blk.new (w1.alloc (.cells #[.int .i64 10, .int .i64 20] 3)) 3 #[.int .i64 4, .int .i64 (-3)]) (fun _ => rfl) [(4 : Int), (-3 : Int)] rfl (by decide)).mono (Nat.zero_le _)
  simp only [World.size_alloc] at i2
  replace b := b.alloc b.size (.cells #[.int .i64 4, .int .i64 (-3)] 3)
  have hC := Step_any cable0 A1 _ _ 2 2 2 2 2 2 0 0 0 [10, 20] [4, -3] _ hc1 i1 i2
  rw [show stepR cable0 [10, 20] [4, -3] = ([9, 14], 0) from by decide +kernel] at hC
  go_wp2_with fail
  refine (hC).mono ?_
  rintro e w2 ⟨O_ra, n_ra, c_ra, rfl, ra, hb⟩
  replace hc1 := hc1.below hb
  replace i1 := i1.below hb
  replace i2 := i2.below hb
  replace b := b.trans (hb.mono b.size)
  replace ra := ra.mono (Nat.zero_le _)
  clear hb
  clear hC
  clear hc1
  clear i1
  clear i2
  go_wp2_with fail
  refine (cable_any _).mono ?_
  rintro e w3 ⟨A2, rfl, hc2, hb⟩
  replace ra := ra.below hb
  replace b := b.trans (hb.mono b.size)
  replace hc2 := hc2.mono (Nat.zero_le _)
  clear hb
  replace ra := ra.alloc (.cells #[.int .i64 10, .int .i64 30] 3)
  replace hc2 := hc2.alloc (.cells #[.int .i64 10, .int .i64 30] 3)
  have i1 := (SlAt.of_blk (enc := ivs) (s := 1) (Blk.new w3 3 #[.int .i64 10, .int .i64 30]) (fun _ => rfl) [(10 : Int), (30 : Int)] rfl (by decide)).mono (Nat.zero_le _)
  replace b := b.alloc b.size (.cells #[.int .i64 10, .int .i64 30] 3)
  replace ra := ra.alloc (.cells #[.int .i64 0, .int .i64 0] 3)
  replace hc2 := hc2.alloc (.cells #[.int .i64 0, .int .i64 0] 3)
  replace i1 := i1.alloc (.cells #[.int .i64 0, .int .i64 0] 3)
  have i2 := (SlAt.of_blk (enc := ivs) (s := 1) (Blk.new (w3.alloc (.cells #[.int .i64 10, .int .i64 30] 3)) 3 #[.int .i64 0, .int .i64 0]) (fun _ => rfl) [(0 : Int), (0 : Int)] rfl (by decide)).mono (Nat.zero_le _)
  simp only [World.size_alloc] at i2
  replace b := b.alloc b.size (.cells #[.int .i64 0, .int .i64 0] 3)
  have hC := Step_any cable0 A2 _ _ 2 2 2 2 2 2 0 0 0 [10, 30] [0, 0] _ hc2 i1 i2
  rw [show stepR cable0 [10, 30] [0, 0] = ([5, 20], 0) from by decide +kernel] at hC
  go_wp2_with fail
  refine (hC).mono ?_
  rintro e w4 ⟨O_rb, n_rb, c_rb, rfl, rb, hb⟩
  replace ra := ra.below hb
  replace hc2 := hc2.below hb
  replace i1 := i1.below hb
  replace i2 := i2.below hb
  replace b := b.trans (hb.mono b.size)
  replace rb := rb.mono (Nat.zero_le _)
  clear hb
  clear hC
  clear hc2
  clear i1
  clear i2
  go_wp2_with fail
  refine (cable_any _).mono ?_
  rintro e w5 ⟨A3, rfl, hc3, hb⟩
  replace ra := ra.below hb
  replace rb := rb.below hb
  replace b := b.trans (hb.mono b.size)
  replace hc3 := hc3.mono (Nat.zero_le _)
  clear hb
  go_wp2_with fail
  refine (first_any _).mono ?_
  rintro e w6 ⟨F1, rfl, hf1, hb⟩
  replace ra := ra.below hb
  replace rb := rb.below hb
  replace hc3 := hc3.below hb
  replace b := b.trans (hb.mono b.size)
  replace hf1 := hf1.mono (Nat.zero_le _)
  clear hb
  have hC := Enclose_any cable0 A3 F1 2 2 2 2 0 0 [⟨10, 10⟩, ⟨20, 24⟩] ⟨-1, 2⟩ _ hc3 hf1
  rw [show encR cable0 [⟨10, 10⟩, ⟨20, 24⟩] ⟨-1, 2⟩ = ([⟨4, 7⟩, ⟨16, 20⟩], 0) from by decide +kernel] at hC
  go_wp2_with fail
  refine (hC).mono ?_
  rintro e w7 ⟨O_rc, n_rc, c_rc, rfl, rc, hb⟩
  replace ra := ra.below hb
  replace rb := rb.below hb
  replace hc3 := hc3.below hb
  replace hf1 := hf1.below hb
  replace b := b.trans (hb.mono b.size)
  replace rc := rc.mono (Nat.zero_le _)
  clear hb
  clear hC
  clear hc3
  clear hf1
  go_wp2_with fail
  refine (cable_any _).mono ?_
  rintro e w8 ⟨A4, rfl, hc4, hb⟩
  replace ra := ra.below hb
  replace rb := rb.below hb
  replace rc := rc.below hb
  replace b := b.trans (hb.mono b.size)
  replace hc4 := hc4.mono (Nat.zero_le _)
  clear hb
  go_wp2_with fail
  refine (after_any _).mono ?_
  rintro e w9 ⟨F2, rfl, hf2, hb⟩
  replace ra := ra.below hb
  replace rb := rb.below hb
  replace rc := rc.below hb
  replace hc4 := hc4.below hb
  replace b := b.trans (hb.mono b.size)
  replace hf2 := hf2.mono (Nat.zero_le _)
  clear hb
  have hC := Bends_any cable0 A4 F2 2 2 2 2 0 0 [⟨4, 7⟩, ⟨16, 20⟩] _ hc4 hf2
  rw [show bendR cable0 [⟨4, 7⟩, ⟨16, 20⟩] = ([⟨4, 7⟩, ⟨9, 16⟩], 0) from by decide +kernel] at hC
  go_wp2_with fail
  refine (hC).mono ?_
  rintro e w10 ⟨O_rd, n_rd, c_rd, rfl, rd, hb⟩
  replace ra := ra.below hb
  replace rb := rb.below hb
  replace rc := rc.below hb
  replace hc4 := hc4.below hb
  replace hf2 := hf2.below hb
  replace b := b.trans (hb.mono b.size)
  replace rd := rd.mono (Nat.zero_le _)
  clear hb
  clear hC
  clear hc4
  clear hf2
  replace ra := ra.alloc (.cells #[.int .i64 9, .int .i64 14] 3)
  replace rb := rb.alloc (.cells #[.int .i64 9, .int .i64 14] 3)
  replace rc := rc.alloc (.cells #[.int .i64 9, .int .i64 14] 3)
  replace rd := rd.alloc (.cells #[.int .i64 9, .int .i64 14] 3)
  have i1 := (SlAt.of_blk (enc := ivs) (s := 1) (Blk.new w10 3 #[.int .i64 9, .int .i64 14]) (fun _ => rfl) [(9 : Int), (14 : Int)] rfl (by decide)).mono (Nat.zero_le _)
  replace b := b.alloc b.size (.cells #[.int .i64 9, .int .i64 14] 3)
  have hC := Alike_any O_ra _ n_ra c_ra 2 2 0 0 _ [9, 14] _ ra i1
  rw [decide_eq_true rfl] at hC
  go_wp2_with fail
  refine (hC).mono ?_
  rintro e w11 ⟨rfl, hb⟩
  replace ra := ra.below hb
  replace rb := rb.below hb
  replace rc := rc.below hb
  replace rd := rd.below hb
  replace i1 := i1.below hb
  replace b := b.trans (hb.mono b.size)
  clear hb
  clear hC
  clear ra
  clear i1
  replace rb := rb.alloc (.cells #[.int .i64 5, .int .i64 20] 3)
  replace rc := rc.alloc (.cells #[.int .i64 5, .int .i64 20] 3)
  replace rd := rd.alloc (.cells #[.int .i64 5, .int .i64 20] 3)
  have i1 := (SlAt.of_blk (enc := ivs) (s := 1) (Blk.new w11 3 #[.int .i64 5, .int .i64 20]) (fun _ => rfl) [(5 : Int), (20 : Int)] rfl (by decide)).mono (Nat.zero_le _)
  replace b := b.alloc b.size (.cells #[.int .i64 5, .int .i64 20] 3)
  have hC := Alike_any O_rb _ n_rb c_rb 2 2 0 0 _ [5, 20] _ rb i1
  rw [decide_eq_true rfl] at hC
  go_wp2_with fail
  refine (hC).mono ?_
  rintro e w12 ⟨rfl, hb⟩
  replace rb := rb.below hb
  replace rc := rc.below hb
  replace rd := rd.below hb
  replace i1 := i1.below hb
  replace b := b.trans (hb.mono b.size)
  clear hb
  clear hC
  clear rb
  clear i1
  go_wp2_with fail
  refine (after_any _).mono ?_
  rintro e w13 ⟨F3, rfl, hf3, hb⟩
  replace rc := rc.below hb
  replace rd := rd.below hb
  replace b := b.trans (hb.mono b.size)
  replace hf3 := hf3.mono (Nat.zero_le _)
  clear hb
  have hC := alikeB_any O_rc F3 n_rc c_rc 2 2 0 0 _ [⟨4, 7⟩, ⟨16, 20⟩] _ rc hf3
  rw [decide_eq_true rfl] at hC
  go_wp2_with fail
  refine (hC).mono ?_
  rintro e w14 ⟨rfl, hb⟩
  replace rc := rc.below hb
  replace rd := rd.below hb
  replace hf3 := hf3.below hb
  replace b := b.trans (hb.mono b.size)
  clear hb
  clear hC
  clear rc
  clear hf3
  replace rd := rd.alloc (.cells #[.int .i64 4, .int .i64 7, .int .i64 9, .int .i64 16] 24)
  have i1 := (SlAt.of_blk (enc := Bnd.cells) (s := 2) (Blk.new w14 24 #[.int .i64 4, .int .i64 7, .int .i64 9, .int .i64 16]) (fun _ => rfl) [⟨4, 7⟩, ⟨9, 16⟩] rfl (by decide)).mono (Nat.zero_le _)
  replace b := b.alloc b.size (.cells #[.int .i64 4, .int .i64 7, .int .i64 9, .int .i64 16] 24)
  have hC := alikeB_any O_rd _ n_rd c_rd 2 2 0 0 _ [⟨4, 7⟩, ⟨9, 16⟩] _ rd i1
  rw [decide_eq_true rfl] at hC
  go_wp2_with fail
  refine (hC).mono ?_
  rintro e w15 ⟨rfl, hb⟩
  replace rd := rd.below hb
  replace i1 := i1.below hb
  replace b := b.trans (hb.mono b.size)
  clear hb
  clear hC
  clear rd
  clear i1
  go_wp2_with fail
  refine (cable_any _).mono ?_
  rintro e w16 ⟨A5, rfl, hc5, hb⟩
  replace b := b.trans (hb.mono b.size)
  replace hc5 := hc5.mono (Nat.zero_le _)
  clear hb
  go_wp2_with fail
  refine (after_any _).mono ?_
  rintro e w17 ⟨F4, rfl, hf4, hb⟩
  replace hc5 := hc5.below hb
  replace b := b.trans (hb.mono b.size)
  replace hf4 := hf4.mono (Nat.zero_le _)
  clear hb
  have hC := Pulls_any cable0 A5 F4 2 2 2 2 0 0 [⟨4, 7⟩, ⟨16, 20⟩] 30 ⟨-10, 0⟩ _ hc5 hf4
  rw [show pullR cable0 [⟨4, 7⟩, ⟨16, 20⟩] 30 ⟨-10, 0⟩ = ([⟨4535, 8062⟩, ⟨2727, 4848⟩], 0) from by decide +kernel] at hC
  go_wp2_with fail
  refine (hC).mono ?_
  rintro e w18 ⟨O_rp, n_rp, c_rp, rfl, rp, hb⟩
  replace hc5 := hc5.below hb
  replace hf4 := hf4.below hb
  replace b := b.trans (hb.mono b.size)
  replace rp := rp.mono (Nat.zero_le _)
  clear hb
  clear hC
  clear hc5
  clear hf4
  replace rp := rp.alloc (.cells #[.int .i64 (-1), .int .i64 2, .int .i64 (-10), .int .i64 0] 88)
  have wh := (SlAt.of_blk (enc := Wat.cells) (s := 4) (Blk.new w18 88 #[.int .i64 (-1), .int .i64 2, .int .i64 (-10), .int .i64 0]) (fun _ => rfl) [⟨⟨-1, 2⟩, ⟨-10, 0⟩⟩] rfl (by decide)).mono (Nat.zero_le _)
  replace b := b.alloc b.size (.cells #[.int .i64 (-1), .int .i64 2, .int .i64 (-10), .int .i64 0] 88)
  replace rp := rp.alloc (.cells #[.int .i64 (-1), .int .i64 2, .int .i64 0, .int .i64 0] 88)
  replace wh := wh.alloc (.cells #[.int .i64 (-1), .int .i64 2, .int .i64 0, .int .i64 0] 88)
  have ws := (SlAt.of_blk (enc := Wat.cells) (s := 4) (Blk.new (w18.alloc (.cells #[.int .i64 (-1), .int .i64 2, .int .i64 (-10), .int .i64 0] 88)) 88 #[.int .i64 (-1), .int .i64 2, .int .i64 0, .int .i64 0]) (fun _ => rfl) [⟨⟨-1, 2⟩, ⟨0, 0⟩⟩] rfl (by decide)).mono (Nat.zero_le _)
  simp only [World.size_alloc] at ws
  replace b := b.alloc b.size (.cells #[.int .i64 (-1), .int .i64 2, .int .i64 0, .int .i64 0] 88)
  go_wp2_with fail
  refine (cable_any _).mono ?_
  rintro e w19 ⟨A6, rfl, hc6, hb⟩
  replace rp := rp.below hb
  replace wh := wh.below hb
  replace ws := ws.below hb
  replace b := b.trans (hb.mono b.size)
  replace hc6 := hc6.mono (Nat.zero_le _)
  clear hb
  go_wp2_with fail
  refine (first_any _).mono ?_
  rintro e w20 ⟨F5, rfl, hf5, hb⟩
  replace rp := rp.below hb
  replace wh := wh.below hb
  replace ws := ws.below hb
  replace hc6 := hc6.below hb
  replace b := b.trans (hb.mono b.size)
  replace hf5 := hf5.mono (Nat.zero_le _)
  clear hb
  replace rp := rp.alloc (.cells #[.int .i64 30] 3)
  replace wh := wh.alloc (.cells #[.int .i64 30] 3)
  replace ws := ws.alloc (.cells #[.int .i64 30] 3)
  replace hc6 := hc6.alloc (.cells #[.int .i64 30] 3)
  replace hf5 := hf5.alloc (.cells #[.int .i64 30] 3)
  have i1 := (SlAt.of_blk (enc := ivs) (s := 1) (Blk.new w20 3 #[.int .i64 30]) (fun _ => rfl) [(30 : Int)] rfl (by decide)).mono (Nat.zero_le _)
  replace b := b.alloc b.size (.cells #[.int .i64 30] 3)
  have hC := Watch_any cable0 A6 F5 _ _ 2 2 2 2 1 1 1 1 [⟨10, 10⟩, ⟨20, 24⟩] [⟨⟨-1, 2⟩, ⟨-10, 0⟩⟩] [30] _ hc6 hf5 wh i1
  rw [show watchR cable0 [⟨10, 10⟩, ⟨20, 24⟩] [⟨⟨-1, 2⟩, ⟨-10, 0⟩⟩] [30] = ((-1, 0), 0) from by decide +kernel] at hC
  go_wp2_with fail
  refine (hC).mono ?_
  rintro e w21 ⟨rfl, hb⟩
  replace rp := rp.below hb
  replace wh := wh.below hb
  replace ws := ws.below hb
  replace hc6 := hc6.below hb
  replace hf5 := hf5.below hb
  replace i1 := i1.below hb
  replace b := b.trans (hb.mono b.size)
  clear hb
  clear hC
  clear hc6
  clear hf5
  clear i1
  replace rp := rp.alloc (.cells #[.int .i64 (-1), .int .i64 0] 35)
  replace wh := wh.alloc (.cells #[.int .i64 (-1), .int .i64 0] 35)
  replace ws := ws.alloc (.cells #[.int .i64 (-1), .int .i64 0] 35)
  have kw := Blk.new w21 35 #[.int .i64 (-1), .int .i64 0]
  replace b := b.alloc b.size (.cells #[.int .i64 (-1), .int .i64 0] 35)
  obtain ⟨c_kw, f_kw, l_kw⟩ := kw.rules
  go_wp2_with fail
  refine (cable_any _).mono ?_
  rintro e w22 ⟨A7, rfl, hc7, hb⟩
  clear c_kw f_kw l_kw
  replace rp := rp.below hb
  replace wh := wh.below hb
  replace ws := ws.below hb
  replace kw := kw.below hb
  replace b := b.trans (hb.mono b.size)
  replace hc7 := hc7.mono (Nat.zero_le _)
  clear hb
  obtain ⟨c_kw, f_kw, l_kw⟩ := kw.rules
  go_wp2_with fail
  refine (first_any _).mono ?_
  rintro e w23 ⟨F6, rfl, hf6, hb⟩
  clear c_kw f_kw l_kw
  replace rp := rp.below hb
  replace wh := wh.below hb
  replace ws := ws.below hb
  replace hc7 := hc7.below hb
  replace kw := kw.below hb
  replace b := b.trans (hb.mono b.size)
  replace hf6 := hf6.mono (Nat.zero_le _)
  clear hb
  replace rp := rp.alloc (.cells #[.int .i64 20] 3)
  replace wh := wh.alloc (.cells #[.int .i64 20] 3)
  replace ws := ws.alloc (.cells #[.int .i64 20] 3)
  replace hc7 := hc7.alloc (.cells #[.int .i64 20] 3)
  replace hf6 := hf6.alloc (.cells #[.int .i64 20] 3)
  replace kw := kw.alloc (.cells #[.int .i64 20] 3)
  have i1 := (SlAt.of_blk (enc := ivs) (s := 1) (Blk.new w23 3 #[.int .i64 20]) (fun _ => rfl) [(20 : Int)] rfl (by decide)).mono (Nat.zero_le _)
  replace b := b.alloc b.size (.cells #[.int .i64 20] 3)
  have hC := Keeps_any cable0 A7 F6 _ _ 2 2 2 2 1 1 1 1 [⟨10, 10⟩, ⟨20, 24⟩] [⟨⟨-1, 2⟩, ⟨0, 0⟩⟩] [20] _ hc7 hf6 ws i1
  rw [show keepsR cable0 [⟨10, 10⟩, ⟨20, 24⟩] [⟨⟨-1, 2⟩, ⟨0, 0⟩⟩] [20] = (true, 0) from by decide +kernel] at hC
  obtain ⟨c_kw, f_kw, l_kw⟩ := kw.rules
  go_wp2_with fail
  refine (hC).mono ?_
  rintro e w24 ⟨rfl, hb⟩
  clear c_kw f_kw l_kw
  replace rp := rp.below hb
  replace wh := wh.below hb
  replace ws := ws.below hb
  replace hc7 := hc7.below hb
  replace hf6 := hf6.below hb
  replace i1 := i1.below hb
  replace kw := kw.below hb
  replace b := b.trans (hb.mono b.size)
  clear hb
  clear hC
  clear hc7
  clear hf6
  clear i1
  clear ws
  obtain ⟨c_kw, f_kw, l_kw⟩ := kw.rules
  go_wp2_with fail
  refine (cable_any _).mono ?_
  rintro e w25 ⟨A8, rfl, hc8, hb⟩
  clear c_kw f_kw l_kw
  replace rp := rp.below hb
  replace wh := wh.below hb
  replace kw := kw.below hb
  replace b := b.trans (hb.mono b.size)
  replace hc8 := hc8.mono (Nat.zero_le _)
  clear hb
  obtain ⟨c_kw, f_kw, l_kw⟩ := kw.rules
  go_wp2_with fail
  refine (first_any _).mono ?_
  rintro e w26 ⟨F7, rfl, hf7, hb⟩
  clear c_kw f_kw l_kw
  replace rp := rp.below hb
  replace wh := wh.below hb
  replace hc8 := hc8.below hb
  replace kw := kw.below hb
  replace b := b.trans (hb.mono b.size)
  replace hf7 := hf7.mono (Nat.zero_le _)
  clear hb
  replace rp := rp.alloc (.cells #[.int .i64 10, .int .i64 20, .int .i64 30] 3)
  replace wh := wh.alloc (.cells #[.int .i64 10, .int .i64 20, .int .i64 30] 3)
  replace hc8 := hc8.alloc (.cells #[.int .i64 10, .int .i64 20, .int .i64 30] 3)
  replace hf7 := hf7.alloc (.cells #[.int .i64 10, .int .i64 20, .int .i64 30] 3)
  replace kw := kw.alloc (.cells #[.int .i64 10, .int .i64 20, .int .i64 30] 3)
  have i1 := (SlAt.of_blk (enc := ivs) (s := 1) (Blk.new w26 3 #[.int .i64 10, .int .i64 20, .int .i64 30]) (fun _ => rfl) [(10 : Int), (20 : Int), (30 : Int)] rfl (by decide)).mono (Nat.zero_le _)
  replace b := b.alloc b.size (.cells #[.int .i64 10, .int .i64 20, .int .i64 30] 3)
  have hC := Fastest_any cable0 A8 F7 _ _ 2 2 2 2 1 1 3 3 [⟨10, 10⟩, ⟨20, 24⟩] [⟨⟨-1, 2⟩, ⟨-10, 0⟩⟩] [10, 20, 30] _ hc8 hf7 wh i1
  rw [show fastR cable0 [⟨10, 10⟩, ⟨20, 24⟩] [⟨⟨-1, 2⟩, ⟨-10, 0⟩⟩] [10, 20, 30] = ([1], 20, 0) from by decide +kernel] at hC
  obtain ⟨c_kw, f_kw, l_kw⟩ := kw.rules
  go_wp2_with fail
  refine (hC).mono ?_
  rintro e w27 ⟨O_rf, n_rf, c_rf, rfl, rf, hb⟩
  clear c_kw f_kw l_kw
  replace rp := rp.below hb
  replace wh := wh.below hb
  replace hc8 := hc8.below hb
  replace hf7 := hf7.below hb
  replace i1 := i1.below hb
  replace kw := kw.below hb
  replace b := b.trans (hb.mono b.size)
  replace rf := rf.mono (Nat.zero_le _)
  clear hb
  clear hC
  clear hc8
  clear hf7
  clear i1
  clear wh
  replace rp := rp.alloc (.cells #[.int .i64 4535, .int .i64 8062, .int .i64 2727, .int .i64 4848] 24)
  replace rf := rf.alloc (.cells #[.int .i64 4535, .int .i64 8062, .int .i64 2727, .int .i64 4848] 24)
  replace kw := kw.alloc (.cells #[.int .i64 4535, .int .i64 8062, .int .i64 2727, .int .i64 4848] 24)
  have i1 := (SlAt.of_blk (enc := Bnd.cells) (s := 2) (Blk.new w27 24 #[.int .i64 4535, .int .i64 8062, .int .i64 2727, .int .i64 4848]) (fun _ => rfl) [⟨4535, 8062⟩, ⟨2727, 4848⟩] rfl (by decide)).mono (Nat.zero_le _)
  replace b := b.alloc b.size (.cells #[.int .i64 4535, .int .i64 8062, .int .i64 2727, .int .i64 4848] 24)
  have hC := alikeB_any O_rp _ n_rp c_rp 2 2 0 0 _ [⟨4535, 8062⟩, ⟨2727, 4848⟩] _ rp i1
  rw [decide_eq_true rfl] at hC
  obtain ⟨c_kw, f_kw, l_kw⟩ := kw.rules
  go_wp2_with fail
  refine (hC).mono ?_
  rintro e w28 ⟨rfl, hb⟩
  clear c_kw f_kw l_kw
  replace rp := rp.below hb
  replace rf := rf.below hb
  replace i1 := i1.below hb
  replace kw := kw.below hb
  replace b := b.trans (hb.mono b.size)
  clear hb
  clear hC
  clear rp
  clear i1
  obtain ⟨cq, fq, lq⟩ := kw.rules
  replace rf := rf.alloc (.cells #[.int .i64 1] 3)
  replace kw := kw.alloc (.cells #[.int .i64 1] 3)
  have i1 := (SlAt.of_blk (enc := ivs) (s := 1) (Blk.new w28 3 #[.int .i64 1]) (fun _ => rfl) [(1 : Int)] rfl (by decide)).mono (Nat.zero_le _)
  replace b := b.alloc b.size (.cells #[.int .i64 1] 3)
  have hC := Alike_any O_rf _ n_rf c_rf 1 1 0 0 _ [1] _ rf i1
  rw [decide_eq_true rfl] at hC
  obtain ⟨c_kw, f_kw, l_kw⟩ := kw.rules
  go_wp2_with fail
  refine (hC).mono ?_
  rintro e w29 ⟨rfl, hb⟩
  clear c_kw f_kw l_kw
  replace rf := rf.below hb
  replace i1 := i1.below hb
  replace kw := kw.below hb
  replace b := b.trans (hb.mono b.size)
  clear hb
  clear hC
  clear rf
  clear i1
  clear kw
  go_wp2_with fail
  refine (cable_any _).mono ?_
  rintro e w30 ⟨A9, rfl, hc9, hb⟩
  replace b := b.trans (hb.mono b.size)
  replace hc9 := hc9.mono (Nat.zero_le _)
  clear hb
  go_wp2_with fail
  refine (after_any _).mono ?_
  rintro e w31 ⟨F8, rfl, hf8, hb⟩
  replace hc9 := hc9.below hb
  replace b := b.trans (hb.mono b.size)
  replace hf8 := hf8.mono (Nat.zero_le _)
  clear hb
  have hC := Nodes_any cable0 A9 F8 2 2 2 2 0 0 [⟨4, 7⟩, ⟨16, 20⟩] _ hc9 hf8
  rw [nodes0] at hC
  go_wp2_with fail
  refine (hC).mono ?_
  rintro e w32 ⟨O_rn, n_rn, c_rn, rfl, rn, hb⟩
  replace hc9 := hc9.below hb
  replace hf8 := hf8.below hb
  replace b := b.trans (hb.mono b.size)
  replace rn := rn.mono (Nat.zero_le _)
  clear hb
  clear hC
  clear hc9
  clear hf8
  have hC := fun W => Turned_any ⟨⟨-100, -99⟩, ⟨4, 7⟩, ⟨-200, 200⟩, ⟨-200, 200⟩⟩ ⟨3, 4, 5⟩ W
  rw [turned0] at hC
  simp only [regA] at hC
  go_wp2_with fail
  refine (hC _).mono ?_
  rintro e w33 ⟨rfl, hb⟩
  replace rn := rn.below hb
  replace b := b.trans (hb.mono b.size)
  clear hb
  clear hC
  obtain rfl : n_rn = 2 := rn.len.symm
  replace rn := rn.alloc (.cells #[.int .i64 (-66), .int .i64 (-62), .int .i64 (-78), .int .i64 (-75), .int .i64 (-142), .int .i64 (-139), .int .i64 10, .int .i64 15] 45)
  have kt := Blk.new w33 45 #[.int .i64 (-66), .int .i64 (-62), .int .i64 (-78), .int .i64 (-75), .int .i64 (-142), .int .i64 (-139), .int .i64 10, .int .i64 15]
  replace b := b.alloc b.size (.cells #[.int .i64 (-66), .int .i64 (-62), .int .i64 (-78), .int .i64 (-75), .int .i64 (-142), .int .i64 (-139), .int .i64 10, .int .i64 15] 45)
  obtain ⟨bn, on, hA, -, -, x0, x1, -⟩ := rn.reg (k := 0) rfl
  obtain ⟨bn2, on2, hA2, -, -, y0, y1, y2, y3, -⟩ := rn.reg (k := 1) rfl
  subst hA
  cases hA2
  simp only [Nat.zero_mul, Nat.one_mul, Nat.add_zero] at x0 x1 y0 y1 y2 y3
  obtain ⟨c_kt, f_kt, l_kt⟩ := kt.rules
  go_wp2
  go_ret
  exact ⟨rfl, b⟩
end Go.Proofs.YtjiaepphnddpoaaGreat
