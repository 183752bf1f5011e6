/-
  Walks in region: CheckPoint, first, inside, Has (of a place that lies in the region), Move.
-/
import Derived.Test.YthjdjpcomocffaaGreatA1
import Derived.Test.YthjdjpcomocffaaGreatM7
import Derived.ChangeKeysEq
namespace Go.Proofs.YthjdjpcomocffaaGreat
open Go.RowKit Go.Shelf
set_option linter.unusedSimpArgs false
set_option linter.unusedVariables false

set_option maxHeartbeats 400000 in
theorem into_any (m n : Int) (w : World) (h0 : 0 ≤ m) (h1 : m ≤ 1000000) :
    Calls Tryz.prog 77 #[.int .i64 m, .int .i64 n] w fun e w' => e = .returned (.int .i64 (intoL m n)) ∧ w = w' := by
  have hmax := max2_int
  have hmin := min2_int
  have t := IntWalk.i64_in (-m) (by omega)
  go_enter Tryz.func77, Tryz.ntmps77
  go_wp2
  go_ret
  exact ⟨rfl, rfl⟩
theorem into_in {m n : Int} (h : -m ≤ n ∧ n ≤ m) : intoL m n = n := by unfold intoL; omega
theorem into_out {m n : Int} (h0 : 0 ≤ m) (h : ¬ (-m ≤ n ∧ n ≤ m)) : ¬ intoL m n = n := by unfold intoL; omega
def inPl (n : Int) : Prop := -32768 ≤ n ∧ n ≤ 32768
set_option maxRecDepth 100000 in
set_option maxHeartbeats 1000000 in
theorem CheckPoint_any (p : Pnt) (w : World) :
    Calls Tryz.prog 45 #[.agg #[.int .i64 p.x, .int .i64 p.y]] w fun e w' => e = .returned (.int .i64 (chkPnt p)) ∧ Below w.heap.size w w' := by
  have i0 : ∀ (a b : Value) w, (Instr.index 96 (.agg #[a, b]) (.int .i64 0)).run Tryz.prog w = .ok a w := fun _ _ _ => by kernel_rfl
  have i1 : ∀ (a b : Value) w, (Instr.index 96 (.agg #[a, b]) (.int .i64 1)).run Tryz.prog w = .ok b w := fun _ _ _ => by kernel_rfl
  have hI := fun n W => into_any 32768 n W (by omega) (by omega)
  have hv1 : Hid (¬ inPl p.x → chkPnt p = 10) := by show _ → _; intro h; unfold inPl at h; unfold chkPnt okPnt; rw [if_neg]; simp; omega
  have hv2 : Hid (¬ inPl p.y → chkPnt p = 10) := by show _ → _; intro h; unfold inPl at h; unfold chkPnt okPnt; rw [if_neg]; simp; omega
  have hv0 : Hid (inPl p.x → inPl p.y → chkPnt p = 0) := by show _ → _ → _; intro h h'; unfold inPl at h h'; unfold chkPnt okPnt; rw [if_pos]; simp; omega
  obtain ⟨er, her⟩ : ∃ er, er = chkPnt p := ⟨_, rfl⟩
  rw [← her] at hv1 hv2 hv0 ⊢
  clear her
  have hb0 := (Below.refl w.heap.size w).alloc (Nat.le_refl _) (.cells #[.int .i64 p.x, .int .i64 p.y] 65)
  go_enter Tryz.func45, Tryz.ntmps45
  go_wp2_with fail
  generalize w.alloc (.cells #[.int .i64 p.x, .int .i64 p.y] 65) = W at *
  go_loopw [10] (fun j wr => ∃ k : Nat, j = jv k ∧ k ≤ 2 ∧ (1 ≤ k → inPl p.x) ∧ (2 ≤ k → inPl p.y) ∧ wr = W) (fun j wr => 2 - (intOf j).toNat)
  case atStart => exact ⟨0, rfl, by omega, fun h => by omega, fun h => by omega, (by trivial)⟩
  case round =>
    obtain ⟨k, rfl, hk, hx, hy, rfl⟩ := hrel
    replace hx := Lib.hid hx
    replace hy := Lib.hid hy
    match k, hk with
    | 0, _ =>
      rw [show jv 0 = .int .i64 0 from rfl]
      by_cases hq : inPl p.x
      · have e1 := into_in (m := 32768) (n := p.x) hq
        have hI1 := hI p.x
        simp only [e1] at hI1
        clear e1
        go_wp2_with fail
        refine (hI1 _).mono ?_
        rintro e w' ⟨rfl, rfl⟩
        go_wp2_with fail
        go_roundw
        case rel => exact ⟨1, rfl, by omega, fun _ => hq, fun h => by omega, (by trivial)⟩
        case measure => simp [intOf]
      · have e1 := into_out (m := 32768) (n := p.x) (by omega) hq
        have hI1 := hI p.x
        generalize intoL 32768 p.x = z at *
        have e2 : (z != p.x) = true := by rw [bne_iff_ne]; exact e1
        have hz := hv1.out hq
        go_wp2_with fail
        refine (hI1 _).mono ?_
        rintro e w' ⟨rfl, rfl⟩
        clear hI1
        replace hz := Lib.hid hz
        go_wp2
        go_ret
        exact ⟨ret_int hz.out.symm, hb0⟩
    | 1, _ =>
      rw [show jv 1 = .int .i64 1 from rfl]
      by_cases hq : inPl p.y
      · have e1 := into_in (m := 32768) (n := p.y) hq
        have hI1 := hI p.y
        simp only [e1] at hI1
        clear e1
        go_wp2_with fail
        refine (hI1 _).mono ?_
        rintro e w' ⟨rfl, rfl⟩
        go_wp2_with fail
        go_roundw
        case rel => exact ⟨2, rfl, by omega, fun _ => hx.out (by omega), fun _ => hq, (by trivial)⟩
        case measure => simp [intOf]
      · have e1 := into_out (m := 32768) (n := p.y) (by omega) hq
        have hI1 := hI p.y
        generalize intoL 32768 p.y = z at *
        have e2 : (z != p.y) = true := by rw [bne_iff_ne]; exact e1
        have hz := hv2.out hq
        go_wp2_with fail
        refine (hI1 _).mono ?_
        rintro e w' ⟨rfl, rfl⟩
        clear hI1
        replace hz := Lib.hid hz
        go_wp2
        go_ret
        exact ⟨ret_int hz.out.symm, hb0⟩
    | 2, _ =>
      rw [show jv 2 = .int .i64 2 from rfl]
      have hz := Lib.hid (hv0.out (hx.out (by omega)) (hy.out (by omega)))
      go_wp2
      go_ret
      exact ⟨ret_int hz.out.symm, hb0⟩
/-! The first error of several. -/
def firstE : List Int → Int
  | [] => 0
  | e :: l => if e = 0 then firstE l else e
def allZ (l : List Int) (k : Nat) : Prop := ∀ i, i < k → l.getD i 0 = 0
theorem firstE_hit : ∀ {l : List Int} {k : Nat} {x : Int}, allZ l k → l[k]? = some x → x ≠ 0 → firstE l = x
  | [], k, x, _, h, _ => by simp at h
  | a :: l, 0, x, _, h, hx => by simp at h; subst h; rw [firstE, if_neg hx]
  | a :: l, k + 1, x, hz, h, hx => by
    have h0 : a = 0 := hz 0 (by omega)
    rw [firstE, if_pos h0]
    exact firstE_hit (l := l) (k := k) (fun i hi => hz (i + 1) (by omega)) (by simpa using h) hx
theorem firstE_none : ∀ {l : List Int}, allZ l l.length → firstE l = 0
  | [], _ => rfl
  | a :: l, hz => by
    have h0 : a = 0 := hz 0 (by simp)
    rw [firstE, if_pos h0]
    exact firstE_none fun i hi => hz (i + 1) (by simpa using hi)
set_option maxRecDepth 100000 in
set_option maxHeartbeats 1000000 in
theorem firstE_any (A : Option Addr) (n c B : Nat) (l : List Int) (w : World) (hs : SlAt w B 1 ivs A n c l) :
    Calls Tryz.prog 104 #[.slice A n c] w fun e w' => e = .returned (.int .i64 (firstE l)) ∧ w = w' := by
  have hl := Lib.hid hs.len
  have hn := hs.le
  go_enter Tryz.func104, Tryz.ntmps104
  go_wp2_with fail
  go_loopw [7] (fun j wr => ∃ k : Nat, j = .int .i64 k ∧ k ≤ n ∧ allZ l k ∧ wr = w) (fun j wr => n - (intOf j).toNat)
  case atStart => exact ⟨0, rfl, Nat.zero_le _, fun i hi => by omega, (by trivial)⟩
  case round =>
    obtain ⟨k, rfl, hk, hz, rfl⟩ := hrel
    by_cases hlt : k < n
    · obtain ⟨x, hx⟩ := some_of_lt hl.out hlt
      obtain ⟨b, off, rfl, -, hbl, e0⟩ := hs.int hx
      have hk0 : (0 : Int) ≤ (k : Int) := by omega
      have hk1 : (k : Int) < (n : Int) := by omega
      by_cases hx0 : x = 0
      · subst hx0
        have hz2 : allZ l (k + 1) := fun i hi => by
          by_cases h : i < k
          · exact hz i h
          · obtain rfl : i = k := by omega
            rw [List.getD_eq_getElem?_getD, hx]; rfl
        replace hx := Lib.hid hx
        replace hz := Lib.hid hz
        go_wp2_with fail
        go_roundw
        case rel => exact ⟨k + 1, by go_num, by omega, hz2, (by trivial)⟩
        case measure => simp [intOf]; omega
      · have hv := Lib.hid (firstE_hit hz hx hx0)
        have hx1 : (x != 0) = true := by rw [bne_iff_ne]; exact hx0
        replace hx := Lib.hid hx
        replace hz := Lib.hid hz
        go_wp2
        go_ret
        exact ⟨ret_int hv.out.symm, rfl⟩
    · obtain rfl : k = n := by omega
      have hv : Hid (firstE l = 0) := firstE_none (by rw [hl.out]; exact hz)
      replace hz := Lib.hid hz
      go_wp2
      go_ret
      exact ⟨ret_int hv.out.symm, rfl⟩
/-! What lies in the plane. -/
set_option maxRecDepth 100000 in
set_option maxHeartbeats 1000000 in
theorem rinside_any (f : Reg) (w : World) :
    Calls Tryz.prog 80 #[.agg (regA f)] w fun e w' => e = .returned (.tuple #[.agg (regA (insideR f).1), .int .i64 (insideR f).2]) ∧ Below w.heap.size w w' := by
  have hfx := fun W => fits_any 32768 f.x W (by omega) (by omega)
  have hfy := fun W => fits_any 32768 f.y W (by omega) (by omega)
  have hrg := fun W => region_any f W
  obtain ⟨w1, hw1⟩ : ∃ w1, w1 = (w.alloc (.cells #[.int .i64 f.x.lo, .int .i64 f.x.hi, .int .i64 f.y.lo, .int .i64 f.y.hi, .int .i64 f.s.lo, .int .i64 f.s.hi, .int .i64 f.d.lo, .int .i64 f.d.hi] 134)).alloc (.cells #[.int .i64 0, .int .i64 0, .int .i64 0, .int .i64 0, .int .i64 0, .int .i64 0, .int .i64 0, .int .i64 0] 58) := ⟨_, rfl⟩
  have k1 : Blk w1 w.heap.size 134 #[.int .i64 f.x.lo, .int .i64 f.x.hi, .int .i64 f.y.lo, .int .i64 f.y.hi, .int .i64 f.s.lo, .int .i64 f.s.hi, .int .i64 f.d.lo, .int .i64 f.d.hi] := by rw [hw1]; exact (Blk.new _ _ _).alloc _
  have k2 : Blk w1 (w.heap.size + 1) 58 #[.int .i64 0, .int .i64 0, .int .i64 0, .int .i64 0, .int .i64 0, .int .i64 0, .int .i64 0, .int .i64 0] := by rw [hw1]; exact Blk.newAt (by simp)
  have hb : Below w.heap.size w w1 := by rw [hw1]; exact ((Below.refl _ _).alloc (Nat.le_refl _) _).alloc (by simp) _
  cases hx : okBnd 32768 f.x
  · have hv : insideR f = (noReg, 7) := by simp [insideR, hx]
    rw [hv]
    simp only [hx] at hfx
    simp only [regA, noReg]
    clear hv hx hfy hrg
    go_enter Tryz.func80, Tryz.ntmps80
    go_wp2_with fail
    rw [← hw1]
    clear hw1
    refine (hfx _).mono ?_
    rintro e w2 ⟨rfl, hb1⟩
    replace k1 := k1.below hb1
    replace k2 := k2.below hb1
    replace hb := hb.trans (hb1.mono hb.size)
    clear hb1
    have kz := k2.set8 (.int .i64 0) (.int .i64 0) (.int .i64 0) (.int .i64 0) (.int .i64 0) (.int .i64 0) (.int .i64 0) (.int .i64 0)
    have bz := below_set8 (g := w.heap.size + 1) hb (by omega) (.int .i64 0) (.int .i64 0) (.int .i64 0) (.int .i64 0) (.int .i64 0) (.int .i64 0) (.int .i64 0) (.int .i64 0)
    obtain ⟨wz, hwz⟩ : ∃ x, x = set8 w2 (w.heap.size + 1) (.int .i64 0) (.int .i64 0) (.int .i64 0) (.int .i64 0) (.int .i64 0) (.int .i64 0) (.int .i64 0) (.int .i64 0) := ⟨_, rfl⟩
    rw [← hwz] at kz bz
    simp only [set8] at hwz
    obtain ⟨c2, f2, l2⟩ := k2.rules
    clear k2 hb
    go_wp2
    rw [← hwz]
    clear hwz c2 f2 l2
    obtain ⟨c2, f2, l2⟩ := kz.rules
    exact bodyPost_ret (v := .tuple #[.agg #[.int .i64 0, .int .i64 0, .int .i64 0, .int .i64 0, .int .i64 0, .int .i64 0, .int .i64 0, .int .i64 0], .int .i64 7]) (by simp [results, Tryz.results80, go_sem, c2]) rfl ⟨rfl, bz⟩
  · cases hy : okBnd 32768 f.y
    · have hv : insideR f = (noReg, 7) := by simp [insideR, hx, hy]
      rw [hv]
      simp only [hx] at hfx
      simp only [hy] at hfy
      simp only [regA, noReg]
      clear hv hx hy hrg
      go_enter Tryz.func80, Tryz.ntmps80
      go_wp2_with fail
      rw [← hw1]
      clear hw1
      refine (hfx _).mono ?_
      rintro e w2 ⟨rfl, hb1⟩
      replace k1 := k1.below hb1
      replace k2 := k2.below hb1
      replace hb := hb.trans (hb1.mono hb.size)
      clear hb1
      obtain ⟨c1, f1, l1⟩ := k1.rules
      go_wp2_with fail
      clear c1 f1 l1
      refine (hfy _).mono ?_
      rintro e w3 ⟨rfl, hb1⟩
      replace k1 := k1.below hb1
      replace k2 := k2.below hb1
      replace hb := hb.trans (hb1.mono hb.size)
      clear hb1
      have kz := k2.set8 (.int .i64 0) (.int .i64 0) (.int .i64 0) (.int .i64 0) (.int .i64 0) (.int .i64 0) (.int .i64 0) (.int .i64 0)
      have bz := below_set8 (g := w.heap.size + 1) hb (by omega) (.int .i64 0) (.int .i64 0) (.int .i64 0) (.int .i64 0) (.int .i64 0) (.int .i64 0) (.int .i64 0) (.int .i64 0)
      obtain ⟨wz, hwz⟩ : ∃ x, x = set8 w3 (w.heap.size + 1) (.int .i64 0) (.int .i64 0) (.int .i64 0) (.int .i64 0) (.int .i64 0) (.int .i64 0) (.int .i64 0) (.int .i64 0) := ⟨_, rfl⟩
      rw [← hwz] at kz bz
      simp only [set8] at hwz
      obtain ⟨c2, f2, l2⟩ := k2.rules
      clear k2 hb
      go_wp2
      rw [← hwz]
      clear hwz c2 f2 l2
      obtain ⟨c2, f2, l2⟩ := kz.rules
      exact bodyPost_ret (v := .tuple #[.agg #[.int .i64 0, .int .i64 0, .int .i64 0, .int .i64 0, .int .i64 0, .int .i64 0, .int .i64 0, .int .i64 0], .int .i64 7]) (by simp [results, Tryz.results80, go_sem, c2]) rfl ⟨rfl, bz⟩
    · have hv : insideR f = (f, 0) := by simp [insideR, hx, hy]
      rw [hv]
      simp only [hx] at hfx
      simp only [hy] at hfy
      simp only [regA]
      clear hv hx hy
      go_enter Tryz.func80, Tryz.ntmps80
      go_wp2_with fail
      rw [← hw1]
      clear hw1
      refine (hfx _).mono ?_
      rintro e w2 ⟨rfl, hb1⟩
      replace k1 := k1.below hb1
      replace k2 := k2.below hb1
      replace hb := hb.trans (hb1.mono hb.size)
      clear hb1
      obtain ⟨c1, f1, l1⟩ := k1.rules
      go_wp2_with fail
      clear c1 f1 l1
      refine (hfy _).mono ?_
      rintro e w3 ⟨rfl, hb1⟩
      replace k1 := k1.below hb1
      replace k2 := k2.below hb1
      replace hb := hb.trans (hb1.mono hb.size)
      clear hb1
      obtain ⟨c1, f1, l1⟩ := k1.rules
      go_wp2_with fail
      clear c1 f1 l1
      refine (hrg _).mono ?_
      rintro e w4 ⟨rfl, hb1⟩
      replace k1 := k1.below hb1
      replace k2 := k2.below hb1
      replace hb := hb.trans (hb1.mono hb.size)
      clear hb1
      have kz := k2.set8 (.int .i64 f.x.lo) (.int .i64 f.x.hi) (.int .i64 f.y.lo) (.int .i64 f.y.hi) (.int .i64 f.s.lo) (.int .i64 f.s.hi) (.int .i64 f.d.lo) (.int .i64 f.d.hi)
      have bz := below_set8 (g := w.heap.size + 1) hb (by omega) (.int .i64 f.x.lo) (.int .i64 f.x.hi) (.int .i64 f.y.lo) (.int .i64 f.y.hi) (.int .i64 f.s.lo) (.int .i64 f.s.hi) (.int .i64 f.d.lo) (.int .i64 f.d.hi)
      obtain ⟨wz, hwz⟩ : ∃ x, x = set8 w4 (w.heap.size + 1) (.int .i64 f.x.lo) (.int .i64 f.x.hi) (.int .i64 f.y.lo) (.int .i64 f.y.hi) (.int .i64 f.s.lo) (.int .i64 f.s.hi) (.int .i64 f.d.lo) (.int .i64 f.d.hi) := ⟨_, rfl⟩
      rw [← hwz] at kz bz
      simp only [set8] at hwz
      obtain ⟨c2, f2, l2⟩ := k2.rules
      clear k2 hb
      go_wp2
      rw [← hwz]
      clear hwz c2 f2 l2
      obtain ⟨c2, f2, l2⟩ := kz.rules
      exact bodyPost_ret (v := .tuple #[.agg #[.int .i64 f.x.lo, .int .i64 f.x.hi, .int .i64 f.y.lo, .int .i64 f.y.hi, .int .i64 f.s.lo, .int .i64 f.s.hi, .int .i64 f.d.lo, .int .i64 f.d.hi], .int .i64 0]) (by simp [results, Tryz.results80, go_sem, c2]) rfl ⟨rfl, bz⟩
theorem okPnt_mid {p : Pnt} (h : okPnt p = true) : -1000000 ≤ p.x ∧ p.x ≤ 1000000 ∧ -1000000 ≤ p.y ∧ p.y ≤ 1000000 := by
  have := of_decide_eq_true h; omega
theorem ofP_mid {p : Pnt} (h : okPnt p = true) : midR (ofP p) := by
  have := of_decide_eq_true h
  unfold midR midB ofP still
  dsimp only
  omega
theorem eq_four (r : Reg) (w : World) : (Op.equalIn 10000 134 (.agg (regA r)) (.agg (regA r))).run Tryz.prog w = .ok true w := by
  have hc : Tryz.prog.cellsOf 24 = 2 := by kernel_rfl
  obtain ⟨i0, hi0, hz0, hz1, hz2⟩ := info_parts Tryz.infoBnd
  rw [show (10000 : Nat) = 9999 + 1 from rfl, run_equalIn_array w 9999 _ _ Tryz.underlying134 hi0, hc]
  have e : List.range 4 = [0, 1, 2, 3] := rfl
  rw [e]
  clear hi0 hz0 hz1 hz2 hc
  simp only [regA, Op.eqItems]
  go_simp
set_option maxRecDepth 100000 in
set_option maxHeartbeats 2000000 in
theorem Move_any (r t : Reg) (p : Pnt) (w : World) (hr : okReg r = true) (hp : okPnt p = true) (ht : tightO r = some t) :
    Calls Tryz.prog 47 #[.agg (regA r), .agg #[.int .i64 p.x, .int .i64 p.y]] w fun e w' => e = .returned (.tuple #[.agg (regA (insideR (zipR plusB t (ofP p))).1), .int .i64 (insideR (zipR plusB t (ofP p))).2]) ∧ Below w.heap.size w w' := by
  have hchk := fun W => rCheck_any r W
  have hk : chkReg r = 0 := by simp [chkReg, hr]
  simp only [hk] at hchk
  have hbo := fun W => rbounds_any r W
  have hti := fun W => tight_any r W hr
  simp only [ht, doneR] at hti
  have hof := fun W => of_any p W (okPnt_mid hp)
  have hmt := okReg_mid (tight_ok hr ht)
  have hco := fun W => combined_any t (ofP p) plusB 83 W eg_plusB hmt (ofP_mid hp) op_plusB
  obtain ⟨f, hf⟩ : ∃ f, zipR plusB t (ofP p) = f := ⟨_, rfl⟩
  simp only [hf] at hco ⊢
  have hins := fun W => rinside_any f W
  obtain ⟨⟨R, er⟩, hR⟩ : ∃ R, insideR f = R := ⟨_, rfl⟩
  simp only [hR] at hins ⊢
  have hpx := of_decide_eq_true hp
  have hix := fun W => into_any 65536 p.x W (by omega) (by omega)
  have hiy := fun W => into_any 65536 p.y W (by omega) (by omega)
  simp only [into_in (m := 65536) (n := p.x) (by omega)] at hix
  simp only [into_in (m := 65536) (n := p.y) (by omega)] at hiy
  simp only [regA] at hchk hbo hti hco hins ⊢
  clear hk hf hR hmt hpx
  replace hr := Lib.hid hr
  replace hp := Lib.hid hp
  replace ht := Lib.hid ht
  obtain ⟨w1, hw1⟩ : ∃ w1, w1 = ((w.alloc (.cells #[.int .i64 r.x.lo, .int .i64 r.x.hi, .int .i64 r.y.lo, .int .i64 r.y.hi, .int .i64 r.s.lo, .int .i64 r.s.hi, .int .i64 r.d.lo, .int .i64 r.d.hi] 58)).alloc (.cells #[.int .i64 p.x, .int .i64 p.y] 65)).alloc (.cells #[.int .i64 0, .int .i64 0, .int .i64 0, .int .i64 0, .int .i64 0, .int .i64 0, .int .i64 0, .int .i64 0] 58) := ⟨_, rfl⟩
  have k1 : Blk w1 w.heap.size 58 #[.int .i64 r.x.lo, .int .i64 r.x.hi, .int .i64 r.y.lo, .int .i64 r.y.hi, .int .i64 r.s.lo, .int .i64 r.s.hi, .int .i64 r.d.lo, .int .i64 r.d.hi] := by rw [hw1]; exact ((Blk.new _ _ _).alloc _).alloc _
  have k2 : Blk w1 (w.heap.size + 1) 65 #[.int .i64 p.x, .int .i64 p.y] := by rw [hw1]; exact (Blk.newAt (by simp)).alloc _
  have k4 : Blk w1 (w.heap.size + 1 + 1) 58 #[.int .i64 0, .int .i64 0, .int .i64 0, .int .i64 0, .int .i64 0, .int .i64 0, .int .i64 0, .int .i64 0] := by rw [hw1]; exact Blk.newAt (by simp)
  have hb : Below w.heap.size w w1 := by rw [hw1]; exact (((Below.refl _ _).alloc (Nat.le_refl _) _).alloc (by simp) _).alloc (by simp; omega) _
  go_enter Tryz.func47, Tryz.ntmps47
  go_wp2_with fail
  rw [← hw1]
  clear hw1
  refine (hchk _).mono ?_
  rintro e W ⟨rfl, hbel⟩
  replace k1 := k1.below hbel
  replace k2 := k2.below hbel
  replace hb := hb.trans (hbel.mono hb.size)
  replace k4 := k4.below hbel
  clear hbel
  obtain ⟨c2, f2, l2⟩ := k2.rules
  go_wp2_with fail
  go_quiet ((first | (go_at_call 77; with_reducible exact Calls.quiet_of_same (flip_w (hix _))) | (go_at_call 77; with_reducible exact Calls.quiet_of_same (flip_w (hiy _)))))
  clear c2 f2 l2
  replace k1 := k1.drewN nq
  replace k2 := k2.drewN nq
  replace k4 := k4.drewN nq
  replace hb := below_drewN hb nq
  generalize W.drewN nq = W at *
  obtain ⟨c1, f1, l1⟩ := k1.rules
  go_wp2_with fail
  clear c1 f1 l1
  refine (hbo _).mono ?_
  rintro e W3 ⟨rfl, hbel⟩
  replace k1 := k1.below hbel
  replace k2 := k2.below hbel
  replace hb := hb.trans (hbel.mono hb.size)
  replace k4 := k4.below hbel
  clear hbel
  go_wp2_with fail
  refine (hti _).mono ?_
  rintro e W3 ⟨rfl, hbel⟩
  replace k1 := k1.below hbel
  replace k2 := k2.below hbel
  replace hb := hb.trans (hbel.mono hb.size)
  replace k4 := k4.below hbel
  clear hbel
  go_wp2_with fail
  have k7 := Blk.new W3 134 #[.int .i64 t.x.lo, .int .i64 t.x.hi, .int .i64 t.y.lo, .int .i64 t.y.hi, .int .i64 t.s.lo, .int .i64 t.s.hi, .int .i64 t.d.lo, .int .i64 t.d.hi]
  have hbel := (Below.refl W3.heap.size W3).alloc (Nat.le_refl _) (.cells #[.int .i64 t.x.lo, .int .i64 t.x.hi, .int .i64 t.y.lo, .int .i64 t.y.hi, .int .i64 t.s.lo, .int .i64 t.s.hi, .int .i64 t.d.lo, .int .i64 t.d.hi] 134)
  have hg7 : w.heap.size + 1 + 1 < W3.heap.size := k4.lt
  replace k1 := k1.below hbel
  replace k2 := k2.below hbel
  replace hb := hb.trans (hbel.mono hb.size)
  replace k4 := k4.below hbel
  clear hbel
  generalize W3.alloc (.cells #[.int .i64 t.x.lo, .int .i64 t.x.hi, .int .i64 t.y.lo, .int .i64 t.y.hi, .int .i64 t.s.lo, .int .i64 t.s.hi, .int .i64 t.d.lo, .int .i64 t.d.hi] 134) = W4 at *
  generalize W3.heap.size = g7 at *
  refine wp_held_np (fun w' : World => (∀ j, w'.cell? ⟨g7, j, none⟩ = #[Value.int .i64 t.x.lo, .int .i64 t.x.hi, .int .i64 t.y.lo, .int .i64 t.y.hi, .int .i64 t.s.lo, .int .i64 t.s.hi, .int .i64 t.d.lo, .int .i64 t.d.hi][j]?) ∧ (∀ j, w'.cell? ⟨w.heap.size + 1, j, none⟩ = #[Value.int .i64 p.x, .int .i64 p.y][j]?)) (by kernel_rfl) ?_
  replace k1 := k1.drew
  replace k2 := k2.drew
  replace k4 := k4.drew
  replace k7 := k7.drew
  replace hb := hb.drew
  generalize W4.drew = W at *
  have hS : (fun w' : World => (∀ j, w'.cell? ⟨g7, j, none⟩ = #[Value.int .i64 t.x.lo, .int .i64 t.x.hi, .int .i64 t.y.lo, .int .i64 t.y.hi, .int .i64 t.s.lo, .int .i64 t.s.hi, .int .i64 t.d.lo, .int .i64 t.d.hi][j]?) ∧ (∀ j, w'.cell? ⟨w.heap.size + 1, j, none⟩ = #[Value.int .i64 p.x, .int .i64 p.y][j]?)) W := ⟨k7.cell, k2.cell⟩
  refine held_take (i := 0) (v := ?_) 40 rfl rfl (by kernel_rfl) (by kernel_rfl) (by kernel_rfl) (fun _ _ _ h => h) (Or.inl ⟨by rfl, ?_⟩) hS ?_
  rotate_left 1
  · intro w' hSw
    try dsimp only at hSw
    obtain ⟨q1, q2⟩ := hSw
    go_simp
    all_goals with_reducible rfl
  try simp only [Act.put, List.setIfInBounds_toArray, List.set_cons_zero, List.set_cons_succ]
  refine held_take (i := 1) (v := ?_) 41 rfl rfl (by kernel_rfl) (by kernel_rfl) (by kernel_rfl) (fun _ _ _ h => h) (Or.inl ⟨by rfl, ?_⟩) hS ?_
  rotate_left 1
  · intro w' hSw
    try dsimp only at hSw
    obtain ⟨q1, q2⟩ := hSw
    go_simp
    all_goals with_reducible rfl
  try simp only [Act.put, List.setIfInBounds_toArray, List.set_cons_zero, List.set_cons_succ]
  refine held_one (i := 2) (by kernel_rfl) rfl rfl (fun K hK => ?_)
  go_simp
  refine (hof _).mono ?_
  rintro e W1 ⟨rfl, hbel⟩
  clear hS
  replace k1 := k1.below hbel
  replace k2 := k2.below hbel
  replace hb := hb.trans (hbel.mono hb.size)
  replace k7 := k7.below hbel
  replace k4 := k4.below hbel
  clear hbel
  have hS : (fun w' : World => (∀ j, w'.cell? ⟨g7, j, none⟩ = #[Value.int .i64 t.x.lo, .int .i64 t.x.hi, .int .i64 t.y.lo, .int .i64 t.y.hi, .int .i64 t.s.lo, .int .i64 t.s.hi, .int .i64 t.d.lo, .int .i64 t.d.hi][j]?) ∧ (∀ j, w'.cell? ⟨w.heap.size + 1, j, none⟩ = #[Value.int .i64 p.x, .int .i64 p.y][j]?)) W1 := ⟨k7.cell, k2.cell⟩
  refine hK _ _ hS ?_
  clear hK K
  try simp only [Act.put, List.setIfInBounds_toArray, List.set_cons_zero, List.set_cons_succ]
  refine held_one (i := 3) (by kernel_rfl) rfl rfl (fun K hK => ?_)
  go_simp
  refine (hco _).mono ?_
  rintro e W1 ⟨rfl, hbel⟩
  clear hS
  replace k1 := k1.below hbel
  replace k2 := k2.below hbel
  replace hb := hb.trans (hbel.mono hb.size)
  replace k7 := k7.below hbel
  replace k4 := k4.below hbel
  clear hbel
  have hS : (fun w' : World => (∀ j, w'.cell? ⟨g7, j, none⟩ = #[Value.int .i64 t.x.lo, .int .i64 t.x.hi, .int .i64 t.y.lo, .int .i64 t.y.hi, .int .i64 t.s.lo, .int .i64 t.s.hi, .int .i64 t.d.lo, .int .i64 t.d.hi][j]?) ∧ (∀ j, w'.cell? ⟨w.heap.size + 1, j, none⟩ = #[Value.int .i64 p.x, .int .i64 p.y][j]?)) W1 := ⟨k7.cell, k2.cell⟩
  refine hK _ _ hS ?_
  clear hK K
  try simp only [Act.put, List.setIfInBounds_toArray, List.set_cons_zero, List.set_cons_succ]
  refine held_one (i := 4) (by kernel_rfl) rfl rfl (fun K hK => ?_)
  go_simp
  refine (hins _).mono ?_
  rintro e W1 ⟨rfl, hbel⟩
  clear hS
  replace k1 := k1.below hbel
  replace k2 := k2.below hbel
  replace hb := hb.trans (hbel.mono hb.size)
  replace k7 := k7.below hbel
  replace k4 := k4.below hbel
  clear hbel
  have hS : (fun w' : World => (∀ j, w'.cell? ⟨g7, j, none⟩ = #[Value.int .i64 t.x.lo, .int .i64 t.x.hi, .int .i64 t.y.lo, .int .i64 t.y.hi, .int .i64 t.s.lo, .int .i64 t.s.hi, .int .i64 t.d.lo, .int .i64 t.d.hi][j]?) ∧ (∀ j, w'.cell? ⟨w.heap.size + 1, j, none⟩ = #[Value.int .i64 p.x, .int .i64 p.y][j]?)) W1 := ⟨k7.cell, k2.cell⟩
  refine hK _ _ hS ?_
  clear hK K
  try simp only [Act.put, List.setIfInBounds_toArray, List.set_cons_zero, List.set_cons_succ]
  refine held_take (i := 5) (v := ?_) 45 rfl rfl (by kernel_rfl) (by kernel_rfl) (by kernel_rfl) (fun _ _ _ h => h) (Or.inl ⟨by rfl, ?_⟩) hS ?_
  rotate_left 1
  · intro w' hSw
    try dsimp only at hSw
    obtain ⟨q1, q2⟩ := hSw
    go_simp
    all_goals with_reducible rfl
  try simp only [Act.put, List.setIfInBounds_toArray, List.set_cons_zero, List.set_cons_succ]
  refine held_take (i := 6) (v := ?_) 46 rfl rfl (by kernel_rfl) (by kernel_rfl) (by kernel_rfl) (fun _ _ _ h => h) (Or.inl ⟨by rfl, ?_⟩) hS ?_
  rotate_left 1
  · intro w' hSw
    try dsimp only at hSw
    obtain ⟨q1, q2⟩ := hSw
    go_simp
    all_goals with_reducible rfl
  try simp only [Act.put, List.setIfInBounds_toArray, List.set_cons_zero, List.set_cons_succ]
  have kz := k4.set8 (.int .i64 R.x.lo) (.int .i64 R.x.hi) (.int .i64 R.y.lo) (.int .i64 R.y.hi) (.int .i64 R.s.lo) (.int .i64 R.s.hi) (.int .i64 R.d.lo) (.int .i64 R.d.hi)
  have bz := below_set8 (g := w.heap.size + 1 + 1) hb (by omega) (.int .i64 R.x.lo) (.int .i64 R.x.hi) (.int .i64 R.y.lo) (.int .i64 R.y.hi) (.int .i64 R.s.lo) (.int .i64 R.s.hi) (.int .i64 R.d.lo) (.int .i64 R.d.hi)
  have k7z := far_set8 k7 (show g7 ≠ w.heap.size + 1 + 1 by omega) (.int .i64 R.x.lo) (.int .i64 R.x.hi) (.int .i64 R.y.lo) (.int .i64 R.y.hi) (.int .i64 R.s.lo) (.int .i64 R.s.hi) (.int .i64 R.d.lo) (.int .i64 R.d.hi)
  have k2z := far_set8 k2 (show w.heap.size + 1 ≠ w.heap.size + 1 + 1 by omega) (.int .i64 R.x.lo) (.int .i64 R.x.hi) (.int .i64 R.y.lo) (.int .i64 R.y.hi) (.int .i64 R.s.lo) (.int .i64 R.s.hi) (.int .i64 R.d.lo) (.int .i64 R.d.hi)
  obtain ⟨wz, hwz⟩ : ∃ x, x = set8 W1 (w.heap.size + 1 + 1) (.int .i64 R.x.lo) (.int .i64 R.x.hi) (.int .i64 R.y.lo) (.int .i64 R.y.hi) (.int .i64 R.s.lo) (.int .i64 R.s.hi) (.int .i64 R.d.lo) (.int .i64 R.d.hi) := ⟨_, rfl⟩
  rw [← hwz] at kz bz k7z k2z
  simp only [set8] at hwz
  obtain ⟨c4, f4, l4⟩ := k4.rules
  refine held_one (i := 7) (by kernel_rfl) rfl rfl (fun K hK => ?_)
  go_simp
  rw [← hwz]
  clear hwz c4 f4 l4 hS k4 hb
  have hS : (fun w' : World => (∀ j, w'.cell? ⟨g7, j, none⟩ = #[Value.int .i64 t.x.lo, .int .i64 t.x.hi, .int .i64 t.y.lo, .int .i64 t.y.hi, .int .i64 t.s.lo, .int .i64 t.s.hi, .int .i64 t.d.lo, .int .i64 t.d.hi][j]?) ∧ (∀ j, w'.cell? ⟨w.heap.size + 1, j, none⟩ = #[Value.int .i64 p.x, .int .i64 p.y][j]?)) wz := ⟨k7z.cell, k2z.cell⟩
  refine hK _ _ hS ?_
  clear hK K
  try simp only [Act.put, List.setIfInBounds_toArray, List.set_cons_zero, List.set_cons_succ]
  refine held_take (i := 8) (v := ?_) 5 rfl rfl (by kernel_rfl) (by kernel_rfl) (by kernel_rfl) (fun _ _ _ h => h) (Or.inl ⟨by rfl, ?_⟩) hS ?_
  rotate_left 1
  · intro w' hSw
    try dsimp only at hSw
    obtain ⟨q1, q2⟩ := hSw
    go_simp
    all_goals with_reducible rfl
  try simp only [Act.put, List.setIfInBounds_toArray, List.set_cons_zero, List.set_cons_succ]
  refine wpAnyH_done (by kernel_rfl) (noPanic_normal ?_) _
  clear hS
  go_wp2
  obtain ⟨c4, f4, l4⟩ := kz.rules
  exact bodyPost_ret (v := .tuple #[.agg #[.int .i64 R.x.lo, .int .i64 R.x.hi, .int .i64 R.y.lo, .int .i64 R.y.hi, .int .i64 R.s.lo, .int .i64 R.s.hi, .int .i64 R.d.lo, .int .i64 R.d.hi], .int .i64 er]) (by simp [results, Tryz.results47, go_sem, c4]) rfl ⟨rfl, bz⟩
end Go.Proofs.YthjdjpcomocffaaGreat
