/-
  Walks in region: Check, All, done, CheckPoint, inside.
-/
import Derived.Test.YthjdjpcomocffaaGreatG1
namespace Go.Proofs.YthjdjpcomocffaaGreat
open Go.RowKit Go.Shelf

def okRTo (r : Reg) : Nat → Bool
  | 0 => true
  | 1 => okBnd 32768 r.x
  | 2 => okBnd 32768 r.x && okBnd 32768 r.y
  | 3 => okBnd 32768 r.x && okBnd 32768 r.y && okBnd 65536 r.s
  | _ => okBnd 32768 r.x && okBnd 32768 r.y && okBnd 65536 r.s && okBnd 65536 r.d
theorem eg_fits : ∀ args w, (callFunc 70 args).run Tryz.prog w = .ok (.enter 70 args) w := enters_of Tryz.func70 (by kernel_rfl) rfl
set_option maxRecDepth 100000 in
set_option maxHeartbeats 2000000 in
theorem rCheck_any (r : Reg) (w : World) :
    Calls Tryz.prog 42 #[.agg (regA r)] w fun e w' => e = .returned (.int .i64 (chkReg r)) ∧ Below w.heap.size w w' := by
  have i0 : ∀ (a b c d a' b' c' d' : Value) w, (Instr.index 134 (.agg #[a, a', b, b', c, c', d, d']) (.int .i64 0)).run Tryz.prog w = .ok (.agg #[a, a']) w := fun _ _ _ _ _ _ _ _ _ => by kernel_rfl
  have i1 : ∀ (a b c d a' b' c' d' : Value) w, (Instr.index 134 (.agg #[a, a', b, b', c, c', d, d']) (.int .i64 1)).run Tryz.prog w = .ok (.agg #[b, b']) w := fun _ _ _ _ _ _ _ _ _ => by kernel_rfl
  have i2 : ∀ (a b c d a' b' c' d' : Value) w, (Instr.index 134 (.agg #[a, a', b, b', c, c', d, d']) (.int .i64 2)).run Tryz.prog w = .ok (.agg #[c, c']) w := fun _ _ _ _ _ _ _ _ _ => by kernel_rfl
  have i3 : ∀ (a b c d a' b' c' d' : Value) w, (Instr.index 134 (.agg #[a, a', b, b', c, c', d, d']) (.int .i64 3)).run Tryz.prog w = .ok (.agg #[d, d']) w := fun _ _ _ _ _ _ _ _ _ => by kernel_rfl
  have hst : ∀ (a : Addr) (fn : Fn) (b c : Array Value) (m : Mode) (w : World), (store a (.func fn b c) m).run Tryz.prog w = stored Tryz.prog w a (.func fn b c) m := fun _ _ _ _ _ _ => run_store _ _ _ _ _ rfl
  have hchk : Hid (chkReg r = if okRTo r 4 = true then 0 else 11) := rfl
  obtain ⟨er, her⟩ : ∃ er, er = chkReg r := ⟨_, rfl⟩
  rw [← her] at hchk ⊢
  simp only [regA]
  go_enter Tryz.func42, Tryz.ntmps42
  go_wp2_with fail
  refine (rbounds_any r _).mono ?_
  rintro e w1 ⟨rfl, hb1⟩
  have k3 := (Blk.new _ _ _).below hb1
  rw [World.size_alloc] at k3
  have b1 := (((Below.refl w.heap.size w).alloc (Nat.le_refl _) _).alloc (by simp) _).trans (hb1.mono (by simp; omega))
  go_wp2_with fail
  clear hb1
  go_loopw [13] (fun j wr => ∃ k : Nat, j = jv k ∧ k ≤ 4 ∧ okRTo r k = true ∧ Blk wr (w.heap.size + 1) 132 #[.func (.func 70) #[.int .i64 32768] #[], .func (.func 70) #[.int .i64 32768] #[], .func (.func 70) #[.int .i64 65536] #[], .func (.func 70) #[.int .i64 65536] #[]] ∧ Below w.heap.size w wr) (fun j wr => 4 - (intOf j).toNat)
  case atStart => exact ⟨0, rfl, by omega, rfl, k3, b1⟩
  case round =>
    obtain ⟨k, rfl, hk, hok, k3, hb⟩ := hrel
    match k, hk with
    | 0, _ =>
      have hfit := fun W => fits_any 32768 r.x W (by omega) (by omega)
      rw [show jv 0 = .int .i64 0 from rfl]
      replace hok := Lib.hid hok
      have k5 := Blk.new wr 24 #[.int .i64 r.x.lo, .int .i64 r.x.hi]
      have k3a := k3.alloc (.cells #[.int .i64 r.x.lo, .int .i64 r.x.hi] 24)
      have ba := hb.alloc hb.size (.cells #[.int .i64 r.x.lo, .int .i64 r.x.hi] 24)
      cases hq : okBnd 32768 r.x
      · simp only [hq] at hfit
        replace hq := Lib.hid hq
        go_wp2_with fail
        clear b1
        generalize wr.alloc (.cells #[.int .i64 r.x.lo, .int .i64 r.x.hi] 24) = wa at *
        obtain ⟨c3, f3, l3⟩ := k3a.rules
        obtain ⟨c5, f5, l5⟩ := k5.rules
        go_region_with (first | (refine (hfit _).mono ?_; rintro e w' ⟨rfl, hbx⟩; replace hbx := below_of_drew hbx; clear c3 f3 l3 c5 f5 l5))
        all_goals
          have b2 := ba.trans (hbx.mono ba.size)
          go_wp2
          go_ret
          exact ⟨ret_int (by rw [hchk.out, if_neg (by simp [okRTo, hq.out])]), b2⟩
      · simp only [hq] at hfit
        replace hq := Lib.hid hq
        go_wp2_with fail
        clear b1
        generalize wr.alloc (.cells #[.int .i64 r.x.lo, .int .i64 r.x.hi] 24) = wa at *
        obtain ⟨c3, f3, l3⟩ := k3a.rules
        obtain ⟨c5, f5, l5⟩ := k5.rules
        go_region_with (first | (refine (hfit _).mono ?_; rintro e w' ⟨rfl, hbx⟩; replace hbx := below_of_drew hbx; clear c3 f3 l3 c5 f5 l5))
        all_goals
          have b2 := ba.trans (hbx.mono ba.size)
          have k3b := k3a.below hbx
          go_wp2
          go_roundw
          case rel => exact ⟨0 + 1, rfl, by omega, by simp [okRTo, hq.out] <;> simpa [okRTo] using hok.out, k3b, b2⟩
          case measure => simp [intOf]
    | 1, _ =>
      have hfit := fun W => fits_any 32768 r.y W (by omega) (by omega)
      rw [show jv 1 = .int .i64 1 from rfl]
      replace hok := Lib.hid hok
      have k5 := Blk.new wr 24 #[.int .i64 r.y.lo, .int .i64 r.y.hi]
      have k3a := k3.alloc (.cells #[.int .i64 r.y.lo, .int .i64 r.y.hi] 24)
      have ba := hb.alloc hb.size (.cells #[.int .i64 r.y.lo, .int .i64 r.y.hi] 24)
      cases hq : okBnd 32768 r.y
      · simp only [hq] at hfit
        replace hq := Lib.hid hq
        go_wp2_with fail
        clear b1
        generalize wr.alloc (.cells #[.int .i64 r.y.lo, .int .i64 r.y.hi] 24) = wa at *
        obtain ⟨c3, f3, l3⟩ := k3a.rules
        obtain ⟨c5, f5, l5⟩ := k5.rules
        go_region_with (first | (refine (hfit _).mono ?_; rintro e w' ⟨rfl, hbx⟩; replace hbx := below_of_drew hbx; clear c3 f3 l3 c5 f5 l5))
        all_goals
          have b2 := ba.trans (hbx.mono ba.size)
          go_wp2
          go_ret
          exact ⟨ret_int (by rw [hchk.out, if_neg (by simp [okRTo, hq.out])]), b2⟩
      · simp only [hq] at hfit
        replace hq := Lib.hid hq
        go_wp2_with fail
        clear b1
        generalize wr.alloc (.cells #[.int .i64 r.y.lo, .int .i64 r.y.hi] 24) = wa at *
        obtain ⟨c3, f3, l3⟩ := k3a.rules
        obtain ⟨c5, f5, l5⟩ := k5.rules
        go_region_with (first | (refine (hfit _).mono ?_; rintro e w' ⟨rfl, hbx⟩; replace hbx := below_of_drew hbx; clear c3 f3 l3 c5 f5 l5))
        all_goals
          have b2 := ba.trans (hbx.mono ba.size)
          have k3b := k3a.below hbx
          go_wp2
          go_roundw
          case rel => exact ⟨1 + 1, rfl, by omega, by simp [okRTo, hq.out] <;> simpa [okRTo] using hok.out, k3b, b2⟩
          case measure => simp [intOf]
    | 2, _ =>
      have hfit := fun W => fits_any 65536 r.s W (by omega) (by omega)
      rw [show jv 2 = .int .i64 2 from rfl]
      replace hok := Lib.hid hok
      have k5 := Blk.new wr 24 #[.int .i64 r.s.lo, .int .i64 r.s.hi]
      have k3a := k3.alloc (.cells #[.int .i64 r.s.lo, .int .i64 r.s.hi] 24)
      have ba := hb.alloc hb.size (.cells #[.int .i64 r.s.lo, .int .i64 r.s.hi] 24)
      cases hq : okBnd 65536 r.s
      · simp only [hq] at hfit
        replace hq := Lib.hid hq
        go_wp2_with fail
        clear b1
        generalize wr.alloc (.cells #[.int .i64 r.s.lo, .int .i64 r.s.hi] 24) = wa at *
        obtain ⟨c3, f3, l3⟩ := k3a.rules
        obtain ⟨c5, f5, l5⟩ := k5.rules
        go_region_with (first | (refine (hfit _).mono ?_; rintro e w' ⟨rfl, hbx⟩; replace hbx := below_of_drew hbx; clear c3 f3 l3 c5 f5 l5))
        all_goals
          have b2 := ba.trans (hbx.mono ba.size)
          go_wp2
          go_ret
          exact ⟨ret_int (by rw [hchk.out, if_neg (by simp [okRTo, hq.out])]), b2⟩
      · simp only [hq] at hfit
        replace hq := Lib.hid hq
        go_wp2_with fail
        clear b1
        generalize wr.alloc (.cells #[.int .i64 r.s.lo, .int .i64 r.s.hi] 24) = wa at *
        obtain ⟨c3, f3, l3⟩ := k3a.rules
        obtain ⟨c5, f5, l5⟩ := k5.rules
        go_region_with (first | (refine (hfit _).mono ?_; rintro e w' ⟨rfl, hbx⟩; replace hbx := below_of_drew hbx; clear c3 f3 l3 c5 f5 l5))
        all_goals
          have b2 := ba.trans (hbx.mono ba.size)
          have k3b := k3a.below hbx
          go_wp2
          go_roundw
          case rel => exact ⟨2 + 1, rfl, by omega, by simp [okRTo, hq.out] <;> simpa [okRTo] using hok.out, k3b, b2⟩
          case measure => simp [intOf]
    | 3, _ =>
      have hfit := fun W => fits_any 65536 r.d W (by omega) (by omega)
      rw [show jv 3 = .int .i64 3 from rfl]
      replace hok := Lib.hid hok
      have k5 := Blk.new wr 24 #[.int .i64 r.d.lo, .int .i64 r.d.hi]
      have k3a := k3.alloc (.cells #[.int .i64 r.d.lo, .int .i64 r.d.hi] 24)
      have ba := hb.alloc hb.size (.cells #[.int .i64 r.d.lo, .int .i64 r.d.hi] 24)
      cases hq : okBnd 65536 r.d
      · simp only [hq] at hfit
        replace hq := Lib.hid hq
        go_wp2_with fail
        clear b1
        generalize wr.alloc (.cells #[.int .i64 r.d.lo, .int .i64 r.d.hi] 24) = wa at *
        obtain ⟨c3, f3, l3⟩ := k3a.rules
        obtain ⟨c5, f5, l5⟩ := k5.rules
        go_region_with (first | (refine (hfit _).mono ?_; rintro e w' ⟨rfl, hbx⟩; replace hbx := below_of_drew hbx; clear c3 f3 l3 c5 f5 l5))
        all_goals
          have b2 := ba.trans (hbx.mono ba.size)
          go_wp2
          go_ret
          exact ⟨ret_int (by rw [hchk.out, if_neg (by simp [okRTo, hq.out])]), b2⟩
      · simp only [hq] at hfit
        replace hq := Lib.hid hq
        go_wp2_with fail
        clear b1
        generalize wr.alloc (.cells #[.int .i64 r.d.lo, .int .i64 r.d.hi] 24) = wa at *
        obtain ⟨c3, f3, l3⟩ := k3a.rules
        obtain ⟨c5, f5, l5⟩ := k5.rules
        go_region_with (first | (refine (hfit _).mono ?_; rintro e w' ⟨rfl, hbx⟩; replace hbx := below_of_drew hbx; clear c3 f3 l3 c5 f5 l5))
        all_goals
          have b2 := ba.trans (hbx.mono ba.size)
          have k3b := k3a.below hbx
          go_wp2
          go_roundw
          case rel => exact ⟨3 + 1, rfl, by omega, by simp [okRTo, hq.out] <;> simpa [okRTo] using hok.out, k3b, b2⟩
          case measure => simp [intOf]
    | 4, _ =>
      rw [show jv 4 = .int .i64 4 from rfl]
      rw [if_pos hok] at hchk
      clear hok
      go_wp2
      go_ret
      exact ⟨ret_int hchk.out.symm, hb⟩
def regV (r : Reg) : Value := .agg (regA r)
set_option maxRecDepth 100000 in
set_option maxHeartbeats 1000000 in
theorem All_any (w : World) : Calls Tryz.prog 79 #[] w fun e w' => e = .returned (.agg (regA allReg)) ∧ Below w.heap.size w w' := by
  simp only [regA, allReg]
  go_enter Tryz.func79, Tryz.ntmps79
  go_wp2_with fail
  refine (region_any allReg _).mono ?_
  rintro e w1 ⟨rfl, hb1⟩
  simp only [allReg]
  have k0 := (((Blk.new w _ _).alloc _).alloc _).below hb1
  have b1 := ((((Below.refl w.heap.size w).alloc (Nat.le_refl _) _).alloc (by simp) _).alloc (by simp; omega) _).trans (hb1.mono (by simp; omega))
  obtain ⟨c0, f0, l0⟩ := k0.rules
  have kz := k0.set8 (.int .i64 (-32768)) (.int .i64 32768) (.int .i64 (-32768)) (.int .i64 32768) (.int .i64 (-65536)) (.int .i64 65536) (.int .i64 (-65536)) (.int .i64 65536)
  have bz := below_set8 (g := w.heap.size) b1 (Nat.le_refl _) (.int .i64 (-32768)) (.int .i64 32768) (.int .i64 (-32768)) (.int .i64 32768) (.int .i64 (-65536)) (.int .i64 65536) (.int .i64 (-65536)) (.int .i64 65536)
  obtain ⟨wz, hwz⟩ : ∃ x, x = set8 w1 w.heap.size (.int .i64 (-32768)) (.int .i64 32768) (.int .i64 (-32768)) (.int .i64 32768) (.int .i64 (-65536)) (.int .i64 65536) (.int .i64 (-65536)) (.int .i64 65536) := ⟨_, rfl⟩
  rw [← hwz] at kz bz
  simp only [set8] at hwz
  go_wp2
  rw [← hwz]
  clear hwz c0 f0 l0
  obtain ⟨c0, f0, l0⟩ := kz.rules
  exact bodyPost_ret (v := .agg #[.int .i64 (-32768), .int .i64 32768, .int .i64 (-32768), .int .i64 32768, .int .i64 (-65536), .int .i64 65536, .int .i64 (-65536), .int .i64 65536]) (by simp [results, Tryz.results79, go_sem, c0]) rfl ⟨rfl, bz⟩
set_option maxRecDepth 100000 in
set_option maxHeartbeats 1000000 in
theorem done_any (f : Reg) (er : Int) (w : World) : Calls Tryz.prog 72 #[.agg (regA f), .int .i64 er] w fun e w' => e = .returned (.tuple #[.agg (regA (if er = 0 then f else noReg)), .int .i64 er]) ∧ Below w.heap.size w w' := by
  by_cases h : er = 0
  · subst h
    rw [if_pos rfl]
    simp only [regA]
    go_enter Tryz.func72, Tryz.ntmps72
    go_wp2_with fail
    refine (region_any f _).mono ?_
    rintro e w1 ⟨rfl, hb1⟩
    have k0 := (Blk.new _ _ _).below hb1
    rw [World.size_alloc] at k0
    have b1 := (((Below.refl w.heap.size w).alloc (Nat.le_refl _) _).alloc (by simp) _).trans (hb1.mono (by simp; omega))
    obtain ⟨c0, f0, l0⟩ := k0.rules
    have kz := k0.set8 (.int .i64 f.x.lo) (.int .i64 f.x.hi) (.int .i64 f.y.lo) (.int .i64 f.y.hi) (.int .i64 f.s.lo) (.int .i64 f.s.hi) (.int .i64 f.d.lo) (.int .i64 f.d.hi)
    have bz := below_set8 (g := w.heap.size + 1) b1 (by omega) (.int .i64 f.x.lo) (.int .i64 f.x.hi) (.int .i64 f.y.lo) (.int .i64 f.y.hi) (.int .i64 f.s.lo) (.int .i64 f.s.hi) (.int .i64 f.d.lo) (.int .i64 f.d.hi)
    obtain ⟨wz, hwz⟩ : ∃ x, x = set8 w1 (w.heap.size + 1) (.int .i64 f.x.lo) (.int .i64 f.x.hi) (.int .i64 f.y.lo) (.int .i64 f.y.hi) (.int .i64 f.s.lo) (.int .i64 f.s.hi) (.int .i64 f.d.lo) (.int .i64 f.d.hi) := ⟨_, rfl⟩
    rw [← hwz] at kz bz
    simp only [set8] at hwz
    go_wp2
    rw [← hwz]
    clear hwz c0 f0 l0
    obtain ⟨c0, f0, l0⟩ := kz.rules
    exact bodyPost_ret (v := .tuple #[.agg #[.int .i64 f.x.lo, .int .i64 f.x.hi, .int .i64 f.y.lo, .int .i64 f.y.hi, .int .i64 f.s.lo, .int .i64 f.s.hi, .int .i64 f.d.lo, .int .i64 f.d.hi], .int .i64 0]) (by simp [results, Tryz.results72, go_sem, c0]) rfl ⟨rfl, bz⟩
  · have h' : (er != 0) = true := by rw [bne_iff_ne]; exact h
    rw [if_neg h]
    replace h := Lib.hid h
    simp only [regA, noReg]
    obtain ⟨wz, hwz⟩ : ∃ x, x = (w.alloc (.cells #[.int .i64 f.x.lo, .int .i64 f.x.hi, .int .i64 f.y.lo, .int .i64 f.y.hi, .int .i64 f.s.lo, .int .i64 f.s.hi, .int .i64 f.d.lo, .int .i64 f.d.hi] 134)).alloc (.cells #[.int .i64 0, .int .i64 0, .int .i64 0, .int .i64 0, .int .i64 0, .int .i64 0, .int .i64 0, .int .i64 0] 58) := ⟨_, rfl⟩
    have k1 : Blk wz (w.heap.size + 1) 58 #[.int .i64 0, .int .i64 0, .int .i64 0, .int .i64 0, .int .i64 0, .int .i64 0, .int .i64 0, .int .i64 0] := by rw [hwz]; exact Blk.newAt (by simp)
    have b1 : Below w.heap.size w wz := by rw [hwz]; exact ((Below.refl _ _).alloc (Nat.le_refl _) _).alloc (by simp) _
    go_enter Tryz.func72, Tryz.ntmps72
    go_wp2
    rw [← hwz]
    clear hwz
    obtain ⟨c0, f0, l0⟩ := k1.rules
    exact bodyPost_ret (v := .tuple #[.agg #[.int .i64 0, .int .i64 0, .int .i64 0, .int .i64 0, .int .i64 0, .int .i64 0, .int .i64 0, .int .i64 0], .int .i64 er]) (by simp [results, Tryz.results72, go_sem, c0]) rfl ⟨rfl, b1⟩
end Go.Proofs.YthjdjpcomocffaaGreat
