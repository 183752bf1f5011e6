/-
  The tight region.
-/
import Derived.Test.YtjiaepphnddpoaaGreatG7
namespace Go.Proofs.YtjiaepphnddpoaaGreat
set_option linter.unusedSimpArgs false
set_option linter.unusedVariables false
open Go.RowKit Go.Shelf

set_option maxRecDepth 100000 in
set_option maxHeartbeats 1000000 in
theorem tight_any (r : Reg) (w : World) (hr : okReg r = true) :
    Calls Tryz.prog 110 #[.agg (regA r)] w fun e w' => e = .returned (.tuple #[.agg (regA (doneR (tightO r)).1), .int .i64 (doneR (tightO r)).2]) ∧ Below w.heap.size w w' := by
  have hst : ∀ (a : Addr) (fn : Fn) (b c : Array Value) (m : Mode) (w : World), (store a (.func fn b c) m).run Tryz.prog w = stored Tryz.prog w a (.func fn b c) m := fun _ _ _ _ _ _ => run_store _ _ _ _ _ rfl
  have hend := fun W => ends_any r W
  simp only [regA] at hend
  have hhull := fun A c gf b off W h1 h2 h3 => hull_any r A c gf b off W hr h1 h2 h3
  cases ht : tightO r with
  | none =>
    rw [ht] at hhull
    simp only [optR, Option.getD_none, Option.getD_some, Option.isSome_none, Option.isSome_some] at hhull
    simp only [doneR]
    simp only [regA] at hhull ⊢
    replace hhull := Lib.hid hhull
    clear ht
    go_enter Tryz.func110, Tryz.ntmps110
    go_wp2_with fail
    refine (hend _).mono ?_
    clear hend
    rintro e w1 ⟨rfl, rfl⟩
    go_wp2_with fail
    have k2 := (((Blk.newAt (w := w.alloc (.cells #[.int .i64 r.x.lo, .int .i64 r.x.hi, .int .i64 r.y.lo, .int .i64 r.y.hi, .int .i64 r.s.lo, .int .i64 r.s.hi, .int .i64 r.d.lo, .int .i64 r.d.hi] 171)) (g := w.heap.size + 1) (t := 171) (cs := #[.int .i64 0, .int .i64 0, .int .i64 0, .int .i64 0, .int .i64 0, .int .i64 0, .int .i64 0, .int .i64 0]) (by simp)).alloc (.cells #[.int .i64 r.x.lo, .int .i64 r.x.hi, .int .i64 r.y.lo, .int .i64 r.y.hi, .int .i64 r.s.lo, .int .i64 r.s.hi, .int .i64 r.d.lo, .int .i64 r.d.hi] 171)).alloc (.cells #[.func (.func 178) #[] #[.pointer (some ⟨w.heap.size + 1 + 1, 0, none⟩)]] 208))
    have b0 : Below w.heap.size w ((((w.alloc (.cells #[.int .i64 r.x.lo, .int .i64 r.x.hi, .int .i64 r.y.lo, .int .i64 r.y.hi, .int .i64 r.s.lo, .int .i64 r.s.hi, .int .i64 r.d.lo, .int .i64 r.d.hi] 171)).alloc (.cells #[.int .i64 0, .int .i64 0, .int .i64 0, .int .i64 0, .int .i64 0, .int .i64 0, .int .i64 0, .int .i64 0] 171)).alloc (.cells #[.int .i64 r.x.lo, .int .i64 r.x.hi, .int .i64 r.y.lo, .int .i64 r.y.hi, .int .i64 r.s.lo, .int .i64 r.s.hi, .int .i64 r.d.lo, .int .i64 r.d.hi] 171)).alloc (.cells #[.func (.func 178) #[] #[.pointer (some ⟨w.heap.size + 1 + 1, 0, none⟩)]] 208)) :=
      ((((Below.refl _ _).alloc (Nat.le_refl _) _).alloc (by simp) _).alloc (by simp; omega) _).alloc (by simp; omega) _
    have k3 : Blk ((((w.alloc (.cells #[.int .i64 r.x.lo, .int .i64 r.x.hi, .int .i64 r.y.lo, .int .i64 r.y.hi, .int .i64 r.s.lo, .int .i64 r.s.hi, .int .i64 r.d.lo, .int .i64 r.d.hi] 171)).alloc (.cells #[.int .i64 0, .int .i64 0, .int .i64 0, .int .i64 0, .int .i64 0, .int .i64 0, .int .i64 0, .int .i64 0] 171)).alloc (.cells #[.int .i64 r.x.lo, .int .i64 r.x.hi, .int .i64 r.y.lo, .int .i64 r.y.hi, .int .i64 r.s.lo, .int .i64 r.s.hi, .int .i64 r.d.lo, .int .i64 r.d.hi] 171)).alloc (.cells #[.func (.func 178) #[] #[.pointer (some ⟨w.heap.size + 1 + 1, 0, none⟩)]] 208)) (w.heap.size + 1 + 1 + 1) 208 #[.func (.func 178) #[] #[.pointer (some ⟨w.heap.size + 1 + 1, 0, none⟩)]] := Blk.newAt (by simp)
    refine (hhull.out _ 1 (w.heap.size + 1 + 1) (w.heap.size + 1 + 1 + 1) 0 _ rfl (k3.cell 0) ((Blk.newAt (by simp)).alloc _)).mono ?_
    rintro e w2 ⟨rfl, hb2⟩
    replace k2 := k2.below hb2
    replace b0 := b0.trans (hb2.mono b0.size)
    clear k3 hb2 hhull
    have k4 := Blk.new w2 171 #[.int .i64 noReg.x.lo, .int .i64 noReg.x.hi, .int .i64 noReg.y.lo, .int .i64 noReg.y.hi, .int .i64 noReg.s.lo, .int .i64 noReg.s.hi, .int .i64 noReg.d.lo, .int .i64 noReg.d.hi]
    have kz := (k2.set8 (.int .i64 noReg.x.lo) (.int .i64 noReg.x.hi) (.int .i64 noReg.y.lo) (.int .i64 noReg.y.hi) (.int .i64 noReg.s.lo) (.int .i64 noReg.s.hi) (.int .i64 noReg.d.lo) (.int .i64 noReg.d.hi)).alloc (.cells #[.int .i64 noReg.x.lo, .int .i64 noReg.x.hi, .int .i64 noReg.y.lo, .int .i64 noReg.y.hi, .int .i64 noReg.s.lo, .int .i64 noReg.s.hi, .int .i64 noReg.d.lo, .int .i64 noReg.d.hi] 171)
    have bz0 := below_set8 (g := w.heap.size + 1) b0 (by omega) (.int .i64 noReg.x.lo) (.int .i64 noReg.x.hi) (.int .i64 noReg.y.lo) (.int .i64 noReg.y.hi) (.int .i64 noReg.s.lo) (.int .i64 noReg.s.hi) (.int .i64 noReg.d.lo) (.int .i64 noReg.d.hi)
    have bz := bz0.alloc bz0.size (.cells #[.int .i64 noReg.x.lo, .int .i64 noReg.x.hi, .int .i64 noReg.y.lo, .int .i64 noReg.y.hi, .int .i64 noReg.s.lo, .int .i64 noReg.s.hi, .int .i64 noReg.d.lo, .int .i64 noReg.d.hi] 171)
    obtain ⟨wz, hwz⟩ : ∃ x, x = (set8 w2 (w.heap.size + 1) (.int .i64 noReg.x.lo) (.int .i64 noReg.x.hi) (.int .i64 noReg.y.lo) (.int .i64 noReg.y.hi) (.int .i64 noReg.s.lo) (.int .i64 noReg.s.hi) (.int .i64 noReg.d.lo) (.int .i64 noReg.d.hi)).alloc (.cells #[.int .i64 noReg.x.lo, .int .i64 noReg.x.hi, .int .i64 noReg.y.lo, .int .i64 noReg.y.hi, .int .i64 noReg.s.lo, .int .i64 noReg.s.hi, .int .i64 noReg.d.lo, .int .i64 noReg.d.hi] 171) := ⟨_, rfl⟩
    rw [← hwz] at kz bz
    simp only [set8, noReg] at hwz
    try simp only [noReg] at k4
    obtain ⟨c2, f2, l2⟩ := k2.rules
    obtain ⟨c4, f4, l4⟩ := k4.rules
    clear k4 k2 b0 bz0
    go_wp2
    try simp only [noReg]
    rw [← hwz]
    clear hwz c2 f2 l2 c4 f4 l4
    obtain ⟨c2, f2, l2⟩ := kz.rules
    exact bodyPost_ret (v := .tuple #[.agg #[.int .i64 noReg.x.lo, .int .i64 noReg.x.hi, .int .i64 noReg.y.lo, .int .i64 noReg.y.hi, .int .i64 noReg.s.lo, .int .i64 noReg.s.hi, .int .i64 noReg.d.lo, .int .i64 noReg.d.hi], .int .i64 4]) (by simp [results, Tryz.results110, go_sem, c2, noReg]) rfl ⟨rfl, bz⟩
  | some R =>
    rw [ht] at hhull
    simp only [optR, Option.getD_none, Option.getD_some, Option.isSome_none, Option.isSome_some] at hhull
    simp only [doneR]
    simp only [regA] at hhull ⊢
    replace hhull := Lib.hid hhull
    clear ht
    go_enter Tryz.func110, Tryz.ntmps110
    go_wp2_with fail
    refine (hend _).mono ?_
    clear hend
    rintro e w1 ⟨rfl, rfl⟩
    go_wp2_with fail
    have k2 := (((Blk.newAt (w := w.alloc (.cells #[.int .i64 r.x.lo, .int .i64 r.x.hi, .int .i64 r.y.lo, .int .i64 r.y.hi, .int .i64 r.s.lo, .int .i64 r.s.hi, .int .i64 r.d.lo, .int .i64 r.d.hi] 171)) (g := w.heap.size + 1) (t := 171) (cs := #[.int .i64 0, .int .i64 0, .int .i64 0, .int .i64 0, .int .i64 0, .int .i64 0, .int .i64 0, .int .i64 0]) (by simp)).alloc (.cells #[.int .i64 r.x.lo, .int .i64 r.x.hi, .int .i64 r.y.lo, .int .i64 r.y.hi, .int .i64 r.s.lo, .int .i64 r.s.hi, .int .i64 r.d.lo, .int .i64 r.d.hi] 171)).alloc (.cells #[.func (.func 178) #[] #[.pointer (some ⟨w.heap.size + 1 + 1, 0, none⟩)]] 208))
    have b0 : Below w.heap.size w ((((w.alloc (.cells #[.int .i64 r.x.lo, .int .i64 r.x.hi, .int .i64 r.y.lo, .int .i64 r.y.hi, .int .i64 r.s.lo, .int .i64 r.s.hi, .int .i64 r.d.lo, .int .i64 r.d.hi] 171)).alloc (.cells #[.int .i64 0, .int .i64 0, .int .i64 0, .int .i64 0, .int .i64 0, .int .i64 0, .int .i64 0, .int .i64 0] 171)).alloc (.cells #[.int .i64 r.x.lo, .int .i64 r.x.hi, .int .i64 r.y.lo, .int .i64 r.y.hi, .int .i64 r.s.lo, .int .i64 r.s.hi, .int .i64 r.d.lo, .int .i64 r.d.hi] 171)).alloc (.cells #[.func (.func 178) #[] #[.pointer (some ⟨w.heap.size + 1 + 1, 0, none⟩)]] 208)) :=
      ((((Below.refl _ _).alloc (Nat.le_refl _) _).alloc (by simp) _).alloc (by simp; omega) _).alloc (by simp; omega) _
    have k3 : Blk ((((w.alloc (.cells #[.int .i64 r.x.lo, .int .i64 r.x.hi, .int .i64 r.y.lo, .int .i64 r.y.hi, .int .i64 r.s.lo, .int .i64 r.s.hi, .int .i64 r.d.lo, .int .i64 r.d.hi] 171)).alloc (.cells #[.int .i64 0, .int .i64 0, .int .i64 0, .int .i64 0, .int .i64 0, .int .i64 0, .int .i64 0, .int .i64 0] 171)).alloc (.cells #[.int .i64 r.x.lo, .int .i64 r.x.hi, .int .i64 r.y.lo, .int .i64 r.y.hi, .int .i64 r.s.lo, .int .i64 r.s.hi, .int .i64 r.d.lo, .int .i64 r.d.hi] 171)).alloc (.cells #[.func (.func 178) #[] #[.pointer (some ⟨w.heap.size + 1 + 1, 0, none⟩)]] 208)) (w.heap.size + 1 + 1 + 1) 208 #[.func (.func 178) #[] #[.pointer (some ⟨w.heap.size + 1 + 1, 0, none⟩)]] := Blk.newAt (by simp)
    refine (hhull.out _ 1 (w.heap.size + 1 + 1) (w.heap.size + 1 + 1 + 1) 0 _ rfl (k3.cell 0) ((Blk.newAt (by simp)).alloc _)).mono ?_
    rintro e w2 ⟨rfl, hb2⟩
    replace k2 := k2.below hb2
    replace b0 := b0.trans (hb2.mono b0.size)
    clear k3 hb2 hhull
    have k4 := Blk.new w2 171 #[.int .i64 R.x.lo, .int .i64 R.x.hi, .int .i64 R.y.lo, .int .i64 R.y.hi, .int .i64 R.s.lo, .int .i64 R.s.hi, .int .i64 R.d.lo, .int .i64 R.d.hi]
    have kz := (k2.set8 (.int .i64 R.x.lo) (.int .i64 R.x.hi) (.int .i64 R.y.lo) (.int .i64 R.y.hi) (.int .i64 R.s.lo) (.int .i64 R.s.hi) (.int .i64 R.d.lo) (.int .i64 R.d.hi)).alloc (.cells #[.int .i64 R.x.lo, .int .i64 R.x.hi, .int .i64 R.y.lo, .int .i64 R.y.hi, .int .i64 R.s.lo, .int .i64 R.s.hi, .int .i64 R.d.lo, .int .i64 R.d.hi] 171)
    have bz0 := below_set8 (g := w.heap.size + 1) b0 (by omega) (.int .i64 R.x.lo) (.int .i64 R.x.hi) (.int .i64 R.y.lo) (.int .i64 R.y.hi) (.int .i64 R.s.lo) (.int .i64 R.s.hi) (.int .i64 R.d.lo) (.int .i64 R.d.hi)
    have bz := bz0.alloc bz0.size (.cells #[.int .i64 R.x.lo, .int .i64 R.x.hi, .int .i64 R.y.lo, .int .i64 R.y.hi, .int .i64 R.s.lo, .int .i64 R.s.hi, .int .i64 R.d.lo, .int .i64 R.d.hi] 171)
    obtain ⟨wz, hwz⟩ : ∃ x, x = (set8 w2 (w.heap.size + 1) (.int .i64 R.x.lo) (.int .i64 R.x.hi) (.int .i64 R.y.lo) (.int .i64 R.y.hi) (.int .i64 R.s.lo) (.int .i64 R.s.hi) (.int .i64 R.d.lo) (.int .i64 R.d.hi)).alloc (.cells #[.int .i64 R.x.lo, .int .i64 R.x.hi, .int .i64 R.y.lo, .int .i64 R.y.hi, .int .i64 R.s.lo, .int .i64 R.s.hi, .int .i64 R.d.lo, .int .i64 R.d.hi] 171) := ⟨_, rfl⟩
    rw [← hwz] at kz bz
    simp only [set8, noReg] at hwz
    try simp only [noReg] at k4
    obtain ⟨c2, f2, l2⟩ := k2.rules
    obtain ⟨c4, f4, l4⟩ := k4.rules
    clear k4 k2 b0 bz0
    go_wp2
    try simp only [noReg]
    rw [← hwz]
    clear hwz c2 f2 l2 c4 f4 l4
    obtain ⟨c2, f2, l2⟩ := kz.rules
    exact bodyPost_ret (v := .tuple #[.agg #[.int .i64 R.x.lo, .int .i64 R.x.hi, .int .i64 R.y.lo, .int .i64 R.y.hi, .int .i64 R.s.lo, .int .i64 R.s.hi, .int .i64 R.d.lo, .int .i64 R.d.hi], .int .i64 0]) (by simp [results, Tryz.results110, go_sem, c2, noReg]) rfl ⟨rfl, bz⟩
set_option maxRecDepth 100000 in
set_option maxHeartbeats 1000000 in
theorem Tight_any (r : Reg) (w : World) :
    Calls Tryz.prog 63 #[.agg (regA r)] w fun e w' => e = .returned (.tuple #[.agg (regA (tightR r).1), .int .i64 (tightR r).2]) ∧ Below w.heap.size w w' := by
  have hchk := fun W => rCheck_any r W
  by_cases hr : okReg r = true
  · have hv : tightR r = doneR (tightO r) := by simp [tightR, hr]
    have hk : chkReg r = 0 := by simp [chkReg, hr]
    have hti := fun W => tight_any r W hr
    have hbo := fun W => rbounds_any r W
    rw [hv]
    simp only [hk] at hchk
    clear hv hk hr
    obtain ⟨R, hR⟩ : ∃ R, doneR (tightO r) = R := ⟨_, rfl⟩
    have hde : (if R.2 = 0 then R.1 else noReg) = R.1 := by subst hR; cases tightO r <;> rfl
    rw [hR]
    simp only [hR] at hti
    obtain ⟨R, er⟩ := R
    clear hR
    simp only [regA] at hchk hti hbo ⊢
    have hdo := fun W => done_any R er W
    simp only [hde, regA] at hdo
    clear hde
    go_enter Tryz.func63, Tryz.ntmps63
    go_wp2_with fail
    refine (hchk _).mono ?_
    rintro e w1 ⟨rfl, hb1⟩
    have k1 := ((Blk.new w 45 #[.int .i64 r.x.lo, .int .i64 r.x.hi, .int .i64 r.y.lo, .int .i64 r.y.hi, .int .i64 r.s.lo, .int .i64 r.s.hi, .int .i64 r.d.lo, .int .i64 r.d.hi]).alloc (.cells #[.int .i64 0, .int .i64 0, .int .i64 0, .int .i64 0, .int .i64 0, .int .i64 0, .int .i64 0, .int .i64 0] 45)).below hb1
    have k2 := (Blk.new (w.alloc (.cells #[.int .i64 r.x.lo, .int .i64 r.x.hi, .int .i64 r.y.lo, .int .i64 r.y.hi, .int .i64 r.s.lo, .int .i64 r.s.hi, .int .i64 r.d.lo, .int .i64 r.d.hi] 45)) 45 #[.int .i64 0, .int .i64 0, .int .i64 0, .int .i64 0, .int .i64 0, .int .i64 0, .int .i64 0, .int .i64 0]).below hb1
    rw [World.size_alloc] at k2
    have b0 := (((Below.refl w.heap.size w).alloc (Nat.le_refl _) _).alloc (by simp) _).trans (hb1.mono (by simp; omega))
    clear hb1 hchk
    obtain ⟨c1, f1, l1⟩ := k1.rules
    go_wp2_with fail
    refine (hbo _).mono ?_
    rintro e w2 ⟨rfl, hb2⟩
    replace k2 := k2.below hb2
    replace b0 := b0.trans (hb2.mono b0.size)
    clear c1 f1 l1 k1 hb2 hbo
    go_wp2_with fail
    refine (hti _).mono ?_
    rintro e w3 ⟨rfl, hb2⟩
    replace k2 := k2.below hb2
    replace b0 := b0.trans (hb2.mono b0.size)
    clear hb2 hti
    go_wp2_with fail
    refine (hdo _).mono ?_
    rintro e w4 ⟨rfl, hb2⟩
    replace k2 := k2.below hb2
    replace b0 := b0.trans (hb2.mono b0.size)
    clear hb2 hdo
    have kz := k2.set8 (.int .i64 R.x.lo) (.int .i64 R.x.hi) (.int .i64 R.y.lo) (.int .i64 R.y.hi) (.int .i64 R.s.lo) (.int .i64 R.s.hi) (.int .i64 R.d.lo) (.int .i64 R.d.hi)
    have bz := below_set8 (g := w.heap.size + 1) b0 (by omega) (.int .i64 R.x.lo) (.int .i64 R.x.hi) (.int .i64 R.y.lo) (.int .i64 R.y.hi) (.int .i64 R.s.lo) (.int .i64 R.s.hi) (.int .i64 R.d.lo) (.int .i64 R.d.hi)
    obtain ⟨wz, hwz⟩ : ∃ x, x = set8 w4 (w.heap.size + 1) (.int .i64 R.x.lo) (.int .i64 R.x.hi) (.int .i64 R.y.lo) (.int .i64 R.y.hi) (.int .i64 R.s.lo) (.int .i64 R.s.hi) (.int .i64 R.d.lo) (.int .i64 R.d.hi) := ⟨_, rfl⟩
    rw [← hwz] at kz bz
    simp only [set8] at hwz
    obtain ⟨c2, f2, l2⟩ := k2.rules
    clear k2 b0
    go_wp2
    rw [← hwz]
    clear hwz c2 f2 l2
    obtain ⟨c2, f2, l2⟩ := kz.rules
    exact bodyPost_ret (v := .tuple #[.agg #[.int .i64 R.x.lo, .int .i64 R.x.hi, .int .i64 R.y.lo, .int .i64 R.y.hi, .int .i64 R.s.lo, .int .i64 R.s.hi, .int .i64 R.d.lo, .int .i64 R.d.hi], .int .i64 er]) (by simp [results, Tryz.results63, go_sem, c2]) rfl ⟨rfl, bz⟩
  · have hv : tightR r = (noReg, 11) := by simp [tightR, hr]
    have hk : chkReg r = 11 := by simp [chkReg, hr]
    rw [hv]
    simp only [hk] at hchk
    simp only [regA, noReg] at hchk ⊢
    clear hv hk hr
    go_enter Tryz.func63, Tryz.ntmps63
    go_wp2_with fail
    refine (hchk _).mono ?_
    rintro e w1 ⟨rfl, hb1⟩
    have k2 := (Blk.new (w.alloc (.cells #[.int .i64 r.x.lo, .int .i64 r.x.hi, .int .i64 r.y.lo, .int .i64 r.y.hi, .int .i64 r.s.lo, .int .i64 r.s.hi, .int .i64 r.d.lo, .int .i64 r.d.hi] 45)) 45 #[.int .i64 0, .int .i64 0, .int .i64 0, .int .i64 0, .int .i64 0, .int .i64 0, .int .i64 0, .int .i64 0]).below hb1
    rw [World.size_alloc] at k2
    have b0 := (((Below.refl w.heap.size w).alloc (Nat.le_refl _) _).alloc (by simp) _).trans (hb1.mono (by simp; omega))
    clear hb1 hchk
    have kz := k2.set8 (.int .i64 noReg.x.lo) (.int .i64 noReg.x.hi) (.int .i64 noReg.y.lo) (.int .i64 noReg.y.hi) (.int .i64 noReg.s.lo) (.int .i64 noReg.s.hi) (.int .i64 noReg.d.lo) (.int .i64 noReg.d.hi)
    have bz := below_set8 (g := w.heap.size + 1) b0 (by omega) (.int .i64 noReg.x.lo) (.int .i64 noReg.x.hi) (.int .i64 noReg.y.lo) (.int .i64 noReg.y.hi) (.int .i64 noReg.s.lo) (.int .i64 noReg.s.hi) (.int .i64 noReg.d.lo) (.int .i64 noReg.d.hi)
    simp only [noReg] at kz bz
    obtain ⟨wz, hwz⟩ : ∃ x, x = set8 w1 (w.heap.size + 1) (.int .i64 0) (.int .i64 0) (.int .i64 0) (.int .i64 0) (.int .i64 0) (.int .i64 0) (.int .i64 0) (.int .i64 0)  := ⟨_, rfl⟩
    rw [← hwz] at kz bz
    simp only [set8] at hwz
    obtain ⟨c2, f2, l2⟩ := k2.rules
    clear k2 b0
    go_wp2
    rw [← hwz]
    clear hwz c2 f2 l2
    obtain ⟨c2, f2, l2⟩ := kz.rules
    exact bodyPost_ret (v := .tuple #[.agg #[.int .i64 0, .int .i64 0, .int .i64 0, .int .i64 0, .int .i64 0, .int .i64 0, .int .i64 0, .int .i64 0], .int .i64 11]) (by simp [results, Tryz.results63, go_sem, c2]) rfl ⟨rfl, bz⟩
end Go.Proofs.YtjiaepphnddpoaaGreat
