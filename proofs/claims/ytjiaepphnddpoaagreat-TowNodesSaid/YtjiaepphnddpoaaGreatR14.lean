/-
  Walks: what the chapter says of tight regions.
-/
import Derived.Test.YtjiaepphnddpoaaGreatR13
namespace Go.Proofs.YtjiaepphnddpoaaGreat
open Go.RowKit Go.Shelf
set_option linter.unusedSimpArgs false
set_option linter.unusedVariables false

theorem okHdg_iff1 {h : Hdg} : okHdg h = true ↔ 1 ≤ h.c ∧ h.c ≤ 1000 ∧ -h.c ≤ h.p ∧ h.p ≤ h.c ∧ -h.c ≤ h.q ∧ h.q ≤ h.c ∧ h.p * h.p + h.q * h.q = h.c * h.c := by unfold okHdg; rw [decide_eq_true_eq]
theorem addP_twice (o : Option Reg) (p : Pnt) : addP (addP o p) p = addP o p := by
  cases o with
  | none =>
    simp only [addP, Option.some.injEq, zipR, spanB, ofP, still, Reg.mk.injEq, Bnd.mk.injEq]
    omega
  | some h =>
    simp only [addP, Option.some.injEq, zipR, spanB, ofP, still, Reg.mk.injEq, Bnd.mk.injEq]
    omega
theorem addP_row (o : Option Reg) (q : RRow) : addP (addP o ⟨q.x, q.fr⟩) ⟨q.x, q.to⟩ = (rowPts q).foldl addP o := by
  unfold rowPts
  split
  · rename_i h
    rw [← h]
    exact addP_twice o _
  · rfl
def fullTo (r : Reg) (o : Option Reg) (j : Nat) : Option Reg := ((rowsTo r j).flatMap rowPts).foldl addP o
theorem fullTo_succ (r : Reg) (o : Option Reg) (j : Nat) : fullTo r o (j + 1) = if (rowB r (r.x.lo + j)).fr ≤ (rowB r (r.x.lo + j)).to then addP (addP (fullTo r o j) ⟨r.x.lo + j, (rowB r (r.x.lo + j)).fr⟩) ⟨r.x.lo + j, (rowB r (r.x.lo + j)).to⟩ else fullTo r o j := by
  unfold fullTo
  rw [rowsTo_succ, List.flatMap_append, List.foldl_append]
  split
  · rw [List.flatMap_singleton, ← addP_row]
    rfl
  · rfl
set_option maxRecDepth 100000 in
set_option maxHeartbeats 2000000 in
theorem Rfill_any (g : Nat) (o : Option Reg) (r : Reg) (w : World) (k : Blk w g 212 (hullA o)) (hr : okReg r = true) :
    Calls Tryz.prog 160 #[.pointer (some ⟨g, 0, none⟩), .agg (regA r)] w fun e w' => e = .returned (.tuple #[]) ∧ Blk w' g 212 (hullA ((ptsL r).foldl addP o)) ∧ Apart g w w' := by
  obtain ⟨⟨x1, x2, x3⟩, ⟨y1, y2, y3⟩, -, -⟩ := okReg_iff.1 hr
  replace hr := Lib.hid hr
  have hgs := k.lt
  have hend : Hid ((ptsL r).foldl addP o = fullTo r o (nX r)) := rfl
  have h0 : Hid (fullTo r o 0 = o) := rfl
  simp only [regA]
  obtain ⟨w1, hw1⟩ : ∃ w1, w1 = w.alloc (.cells #[.int .i64 r.x.lo, .int .i64 r.x.hi, .int .i64 r.y.lo, .int .i64 r.y.hi, .int .i64 r.s.lo, .int .i64 r.s.hi, .int .i64 r.d.lo, .int .i64 r.d.hi] 45) := ⟨_, rfl⟩
  have k3 : Blk w1 w.heap.size 45 #[.int .i64 r.x.lo, .int .i64 r.x.hi, .int .i64 r.y.lo, .int .i64 r.y.hi, .int .i64 r.s.lo, .int .i64 r.s.hi, .int .i64 r.d.lo, .int .i64 r.d.hi] := by rw [hw1]; exact Blk.new _ _ _
  have ap : Apart g w w1 := by rw [hw1]; exact Apart.of ((Below.refl _ _).alloc (Nat.le_refl _) _) (Nat.le_of_lt hgs)
  replace k : Blk w1 g 212 (hullA o) := by rw [hw1]; exact k.alloc _
  go_enter Tryz.func160, Tryz.ntmps160
  go_wp2_with fail
  rw [← hw1]
  clear hw1
  go_loopw [4] (fun x wr => ∃ j : Nat, x = .int .i64 (r.x.lo + j) ∧ j ≤ nX r ∧ Blk wr w.heap.size 45 #[.int .i64 r.x.lo, .int .i64 r.x.hi, .int .i64 r.y.lo, .int .i64 r.y.hi, .int .i64 r.s.lo, .int .i64 r.s.hi, .int .i64 r.d.lo, .int .i64 r.d.hi] ∧ Blk wr g 212 (hullA (fullTo r o j)) ∧ Apart g w wr) (fun x wr => (r.x.hi + 1 - intOf x).toNat)
  case atStart => exact ⟨0, by simp, Nat.zero_le _, k3, k, ap⟩
  case round =>
    clear k3 k ap
    obtain ⟨j, rfl, hj, k3, k, ap⟩ := hrel
    have hjx : j < nX r ↔ r.x.lo + j ≤ r.x.hi := by unfold nX; omega
    by_cases hlt : r.x.lo + j ≤ r.x.hi
    · have hj1 := Lib.hid (hjx.2 hlt)
      replace hj := Lib.hid hj
      have hstep := Lib.hid (fullTo_succ r o j)
      have e1 : (rowB r (r.x.lo + j)).fr = max r.y.lo (max (r.s.lo - (r.x.lo + j)) (r.x.lo + j - r.d.hi)) := rfl
      have e2 : (rowB r (r.x.lo + j)).to = min r.y.hi (min (r.s.hi - (r.x.lo + j)) (r.x.lo + j - r.d.lo)) := rfl
      have hrow := fun W => Rrow_any r (r.x.lo + j) W hr.out (by omega)
      clear hjx
      obtain ⟨H, hH⟩ : ∃ H, fullTo r o j = H := ⟨_, rfl⟩
      rw [hH] at k hstep
      replace hH := Lib.hid hH
      generalize (rowB r (r.x.lo + j)).fr = fr at *
      generalize (rowB r (r.x.lo + j)).to = to at *
      generalize hx : r.x.lo + (j : Int) = x at *
      have hxb : -32768 ≤ x ∧ x ≤ 32768 := by omega
      have hx0 : r.x.lo ≤ x := by omega
      replace hx := Lib.hid hx
      have hfb : -32768 ≤ fr ∧ to ≤ 32768 := by omega
      replace e1 := Lib.hid e1
      replace e2 := Lib.hid e2
      have t5 := IntWalk.i64_in (x + 1) (by omega)
      simp only [regA] at hrow
      obtain ⟨c3, f3, l3⟩ := k3.rules
      go_wp2_with fail
      clear c3 f3 l3
      refine (hrow _).mono ?_
      rintro e W ⟨rfl, hbel⟩
      clear hrow
      replace ap := ap.trans (Apart.of hbel (Nat.le_of_lt k.lt))
      replace k := k.below hbel
      replace k3 := k3.below hbel
      clear hbel
      have hgW := k.lt
      by_cases hv : fr ≤ to
      · rw [if_pos hv] at hstep
        have hA1 := fun W k => hadd_any g H ⟨x, fr⟩ W k (by dsimp only; omega)
        have hA2 := fun W k => hadd_any g (addP H ⟨x, fr⟩) ⟨x, to⟩ W k (by dsimp only; omega)
        dsimp only at hA1 hA2
        go_wp2_with fail
        have k5 := Blk.new W 235 #[.int .i64 x, .int .i64 fr, .int .i64 to]
        have hbel := (Below.refl W.heap.size W).alloc (Nat.le_refl _) (.cells #[.int .i64 x, .int .i64 fr, .int .i64 to] 235)
        replace ap := ap.trans (Apart.of hbel (Nat.le_of_lt k.lt))
        replace k := k.below hbel
        replace k3 := k3.below hbel
        clear hbel
        generalize W.alloc (.cells #[.int .i64 x, .int .i64 fr, .int .i64 to] 235) = W2 at *
        have hg5 : W.heap.size ≠ g := by omega
        generalize W.heap.size = g5 at *
        refine (hA1 _ k).mono ?_
        rintro e W3 ⟨rfl, kk, hap⟩
        clear hA1
        replace ap := ap.trans hap
        replace k3 := hap.blk k3 (by omega)
        replace k5 := hap.blk k5 hg5
        replace k := kk
        clear kk hap
        obtain ⟨c5, f5, l5⟩ := k5.rules
        go_wp2_with fail
        clear c5 f5 l5
        refine (hA2 _ k).mono ?_
        rintro e W4 ⟨rfl, kk, hap⟩
        clear hA2
        replace ap := ap.trans hap
        replace k3 := hap.blk k3 (by omega)
        replace k := kk
        clear kk hap k5
        go_wp2_with fail
        go_roundw
        case rel => exact ⟨j + 1, by rw [← hx.out]; congr 1; push_cast; omega, hj1.out, k3, by rw [hstep.out]; exact k, ap⟩
        case measure => simp [intOf]; omega
      · rw [if_neg hv] at hstep
        go_wp2_with fail
        have hbel := (Below.refl W.heap.size W).alloc (Nat.le_refl _) (.cells #[.int .i64 x, .int .i64 fr, .int .i64 to] 235)
        replace ap := ap.trans (Apart.of hbel (Nat.le_of_lt k.lt))
        replace k := k.below hbel
        replace k3 := k3.below hbel
        go_roundw
        case rel => exact ⟨j + 1, by rw [← hx.out]; congr 1; push_cast; omega, hj1.out, k3, by rw [hstep.out]; exact k, ap⟩
        case measure => simp [intOf]; omega
    · have hje : j = nX r := by omega
      subst hje
      obtain ⟨c3, f3, l3⟩ := k3.rules
      go_wp2
      refine bodyPost_end (results_none rfl _ _ _) rfl ⟨rfl, ?_, ap⟩
      rw [hend.out]
      exact k
set_option maxRecDepth 100000 in
set_option maxHeartbeats 2000000 in
theorem Rhulls_any (b : Nat) (r : Reg) (w : World) (kb : Blk w b 45 #[.int .i64 r.x.lo, .int .i64 r.x.hi, .int .i64 r.y.lo, .int .i64 r.y.hi, .int .i64 r.s.lo, .int .i64 r.s.hi, .int .i64 r.d.lo, .int .i64 r.d.hi]) (hr : okReg r = true) :
    Calls Tryz.prog 115 #[.slice (some ⟨b, 0, none⟩) 1 1] w fun e w' => e = .returned (.tuple #[.agg (regA (doneR (tightO r)).1), .int .i64 (doneR (tightO r)).2]) ∧ Below w.heap.size w w' := by
  have hf := fun W k => Rfill_any (w.heap.size + 1) none r W k hr
  have hT : (ptsL r).foldl addP none = tightO r := rfl
  rw [hT] at hf
  clear hT
  have hbs := kb.lt
  simp only [regA] at hf ⊢
  obtain ⟨w1, hw1⟩ : ∃ w1, w1 = (w.alloc (.cells #[.int .i64 0, .int .i64 0, .int .i64 0, .int .i64 0, .int .i64 0, .int .i64 0, .int .i64 0, .int .i64 0] 45)).alloc (.cells #[.int .i64 0, .int .i64 0, .int .i64 0, .int .i64 0, .int .i64 0, .int .i64 0, .int .i64 0, .int .i64 0, .bool false] 212) := ⟨_, rfl⟩
  have k2 : Blk w1 w.heap.size 45 #[.int .i64 0, .int .i64 0, .int .i64 0, .int .i64 0, .int .i64 0, .int .i64 0, .int .i64 0, .int .i64 0] := by rw [hw1]; exact (Blk.new _ _ _).alloc _
  have kh : Blk w1 (w.heap.size + 1) 212 (hullA none) := by rw [hw1]; exact Blk.newAt (by simp)
  replace kb : Blk w1 b 45 #[.int .i64 r.x.lo, .int .i64 r.x.hi, .int .i64 r.y.lo, .int .i64 r.y.hi, .int .i64 r.s.lo, .int .i64 r.s.hi, .int .i64 r.d.lo, .int .i64 r.d.hi] := by rw [hw1]; exact (kb.alloc _).alloc _
  have hb : Below w.heap.size w w1 := by rw [hw1]; exact ((Below.refl _ _).alloc (Nat.le_refl _) _).alloc (by simp) _
  go_enter Tryz.func115, Tryz.ntmps115
  go_wp2_with fail
  rw [← hw1]
  clear hw1
  go_loopw [5] (fun i wr => ∃ j : Nat, i = .int .i64 j ∧ j ≤ 1 ∧ Blk wr w.heap.size 45 #[.int .i64 0, .int .i64 0, .int .i64 0, .int .i64 0, .int .i64 0, .int .i64 0, .int .i64 0, .int .i64 0] ∧ Blk wr (w.heap.size + 1) 212 (hullA (if j = 0 then none else tightO r)) ∧ Blk wr b 45 #[.int .i64 r.x.lo, .int .i64 r.x.hi, .int .i64 r.y.lo, .int .i64 r.y.hi, .int .i64 r.s.lo, .int .i64 r.s.hi, .int .i64 r.d.lo, .int .i64 r.d.hi] ∧ Below w.heap.size w wr) (fun i wr => (1 - intOf i).toNat)
  case atStart => exact ⟨0, rfl, by omega, k2, kh, kb, hb⟩
  case round =>
    clear k2 kh kb hb
    obtain ⟨j, rfl, hj, k2, kh, kb, hb⟩ := hrel
    by_cases hlt : j < 1
    · obtain rfl : j = 0 := by omega
      rw [if_pos rfl] at kh
      obtain ⟨cb, fb, lb⟩ := kb.rules
      go_wp2_with fail
      clear cb fb lb
      refine (hf _ kh).mono ?_
      rintro e W ⟨rfl, kk, hap⟩
      clear hf
      replace hb := hb.trans (hap.low.mono (Nat.le_succ _))
      replace k2 := hap.blk k2 (by omega)
      replace kb := hap.blk kb (by omega)
      go_wp2_with fail
      go_roundw
      case rel => exact ⟨1, rfl, by omega, k2, kk, kb, hb⟩
      case measure => simp [intOf]
    · obtain rfl : j = 1 := by omega
      rw [if_neg (by omega)] at kh
      cases hO : tightO r with
      | none =>
        rw [hO] at kh
        simp only [hullA, optR, Option.getD_none, noReg, Option.isSome_none] at kh
        have kz := k2.set8 (.int .i64 0) (.int .i64 0) (.int .i64 0) (.int .i64 0) (.int .i64 0) (.int .i64 0) (.int .i64 0) (.int .i64 0)
        have bz := below_set8 (g := w.heap.size) hb (Nat.le_refl _) (.int .i64 0) (.int .i64 0) (.int .i64 0) (.int .i64 0) (.int .i64 0) (.int .i64 0) (.int .i64 0) (.int .i64 0)
        obtain ⟨wz, hwz⟩ : ∃ x, x = set8 wr w.heap.size (.int .i64 0) (.int .i64 0) (.int .i64 0) (.int .i64 0) (.int .i64 0) (.int .i64 0) (.int .i64 0) (.int .i64 0) := ⟨_, rfl⟩
        rw [← hwz] at kz bz
        simp only [set8] at hwz
        obtain ⟨ch, fh, lh⟩ := kh.rules
        obtain ⟨c2, f2, l2⟩ := k2.rules
        go_wp2
        rw [← hwz]
        clear hwz ch fh lh c2 f2 l2
        obtain ⟨c2, f2, l2⟩ := kz.rules
        exact bodyPost_ret (v := .tuple #[.agg #[.int .i64 0, .int .i64 0, .int .i64 0, .int .i64 0, .int .i64 0, .int .i64 0, .int .i64 0, .int .i64 0], .int .i64 4]) (by simp [results, Tryz.results115, go_sem, c2]) rfl ⟨by rw [hO]; rfl, bz⟩
      | some T =>
        rw [hO] at kh
        simp only [hullA, optR, Option.getD_some, Option.isSome_some] at kh
        have kz := k2.set8 (.int .i64 T.x.lo) (.int .i64 T.x.hi) (.int .i64 T.y.lo) (.int .i64 T.y.hi) (.int .i64 T.s.lo) (.int .i64 T.s.hi) (.int .i64 T.d.lo) (.int .i64 T.d.hi)
        have bz := below_set8 (g := w.heap.size) hb (Nat.le_refl _) (.int .i64 T.x.lo) (.int .i64 T.x.hi) (.int .i64 T.y.lo) (.int .i64 T.y.hi) (.int .i64 T.s.lo) (.int .i64 T.s.hi) (.int .i64 T.d.lo) (.int .i64 T.d.hi)
        obtain ⟨wz, hwz⟩ : ∃ x, x = set8 wr w.heap.size (.int .i64 T.x.lo) (.int .i64 T.x.hi) (.int .i64 T.y.lo) (.int .i64 T.y.hi) (.int .i64 T.s.lo) (.int .i64 T.s.hi) (.int .i64 T.d.lo) (.int .i64 T.d.hi) := ⟨_, rfl⟩
        rw [← hwz] at kz bz
        simp only [set8] at hwz
        obtain ⟨ch, fh, lh⟩ := kh.rules
        obtain ⟨c2, f2, l2⟩ := k2.rules
        go_wp2
        rw [← hwz]
        clear hwz ch fh lh c2 f2 l2
        obtain ⟨c2, f2, l2⟩ := kz.rules
        exact bodyPost_ret (v := .tuple #[.agg #[.int .i64 T.x.lo, .int .i64 T.x.hi, .int .i64 T.y.lo, .int .i64 T.y.hi, .int .i64 T.s.lo, .int .i64 T.s.hi, .int .i64 T.d.lo, .int .i64 T.d.hi], .int .i64 0]) (by simp [results, Tryz.results115, go_sem, c2]) rfl ⟨by rw [hO]; rfl, bz⟩
set_option maxRecDepth 100000 in
set_option maxHeartbeats 2000000 in
theorem RCheckR_any (r : Reg) (w : World) :
    Calls Tryz.prog 65 #[.agg (regA r)] w fun e w' => e = .returned (.int .i64 (chkReg r)) ∧ Below w.heap.size w w' := by
  have h1 := fun W => rendsM_any r.x 32768 W (by omega)
  have h2 := fun W => rendsM_any r.y 32768 W (by omega)
  have h3 := fun W => rendsM_any r.s 65536 W (by omega)
  have h4 := fun W => rendsM_any r.d 65536 W (by omega)
  have k1 := Blk.new w 45 (regA r)
  have hb := (Below.refl w.heap.size w).alloc (Nat.le_refl _) (.cells (regA r) 45)
  simp only [regA] at k1 hb ⊢
  go_enter Tryz.func65, Tryz.ntmps65
  go_wp2_with fail
  generalize w.alloc (.cells #[.int .i64 r.x.lo, .int .i64 r.x.hi, .int .i64 r.y.lo, .int .i64 r.y.hi, .int .i64 r.s.lo, .int .i64 r.s.hi, .int .i64 r.d.lo, .int .i64 r.d.hi] 45) = w1 at *
  cases e1 : okBnd 32768 r.x with
  | false =>
    simp only [e1] at h1
    refine (h1 _).mono ?_
    rintro e W ⟨rfl, hbel⟩
    replace hb := hb.trans (hbel.mono hb.size)
    go_wp2
    go_ret
    exact ⟨ret_int (by simp [chkReg, okReg, *]), hb⟩
  | true =>
    simp only [e1] at h1
    refine (h1 _).mono ?_
    rintro e W ⟨rfl, hbel⟩
    replace k1 := k1.below hbel
    replace hb := hb.trans (hbel.mono hb.size)
    clear hbel
    obtain ⟨c1, f1, l1⟩ := k1.rules
    go_wp2_with fail
    clear c1 f1 l1
    cases e2 : okBnd 32768 r.y with
    | false =>
      simp only [e2] at h2
      refine (h2 _).mono ?_
      rintro e W ⟨rfl, hbel⟩
      replace hb := hb.trans (hbel.mono hb.size)
      go_wp2
      go_ret
      exact ⟨ret_int (by simp [chkReg, okReg, *]), hb⟩
    | true =>
      simp only [e2] at h2
      refine (h2 _).mono ?_
      rintro e W ⟨rfl, hbel⟩
      replace k1 := k1.below hbel
      replace hb := hb.trans (hbel.mono hb.size)
      clear hbel
      obtain ⟨c1, f1, l1⟩ := k1.rules
      go_wp2_with fail
      clear c1 f1 l1
      cases e3 : okBnd 65536 r.s with
      | false =>
        simp only [e3] at h3
        refine (h3 _).mono ?_
        rintro e W ⟨rfl, hbel⟩
        replace hb := hb.trans (hbel.mono hb.size)
        go_wp2
        go_ret
        exact ⟨ret_int (by simp [chkReg, okReg, *]), hb⟩
      | true =>
        simp only [e3] at h3
        refine (h3 _).mono ?_
        rintro e W ⟨rfl, hbel⟩
        replace k1 := k1.below hbel
        replace hb := hb.trans (hbel.mono hb.size)
        clear hbel
        obtain ⟨c1, f1, l1⟩ := k1.rules
        go_wp2_with fail
        clear c1 f1 l1
        cases e4 : okBnd 65536 r.d with
        | false =>
          simp only [e4] at h4
          refine (h4 _).mono ?_
          rintro e W ⟨rfl, hbel⟩
          replace hb := hb.trans (hbel.mono hb.size)
          go_wp2
          go_ret
          exact ⟨ret_int (by simp [chkReg, okReg, *]), hb⟩
        | true =>
          simp only [e4] at h4
          refine (h4 _).mono ?_
          rintro e W ⟨rfl, hbel⟩
          replace hb := hb.trans (hbel.mono hb.size)
          go_wp2
          go_ret
          exact ⟨ret_int (by simp [chkReg, okReg, *]), hb⟩
set_option maxRecDepth 100000 in
set_option maxHeartbeats 2000000 in
theorem RTight_any (r : Reg) (w : World) :
    Calls Tryz.prog 66 #[.agg (regA r)] w fun e w' => e = .returned (.tuple #[.agg (regA (tightR r).1), .int .i64 (tightR r).2]) ∧ Below w.heap.size w w' := by
  have hchk := fun W => RCheckR_any r W
  simp only [regA] at hchk ⊢
  obtain ⟨w1, hw1⟩ : ∃ w1, w1 = (w.alloc (.cells #[.int .i64 r.x.lo, .int .i64 r.x.hi, .int .i64 r.y.lo, .int .i64 r.y.hi, .int .i64 r.s.lo, .int .i64 r.s.hi, .int .i64 r.d.lo, .int .i64 r.d.hi] 45)).alloc (.cells #[.int .i64 0, .int .i64 0, .int .i64 0, .int .i64 0, .int .i64 0, .int .i64 0, .int .i64 0, .int .i64 0] 45) := ⟨_, rfl⟩
  have k1 : Blk w1 w.heap.size 45 #[.int .i64 r.x.lo, .int .i64 r.x.hi, .int .i64 r.y.lo, .int .i64 r.y.hi, .int .i64 r.s.lo, .int .i64 r.s.hi, .int .i64 r.d.lo, .int .i64 r.d.hi] := by rw [hw1]; exact (Blk.new _ _ _).alloc _
  have k2 : Blk w1 (w.heap.size + 1) 45 #[.int .i64 0, .int .i64 0, .int .i64 0, .int .i64 0, .int .i64 0, .int .i64 0, .int .i64 0, .int .i64 0] := by rw [hw1]; exact Blk.newAt (by simp)
  have hb : Below w.heap.size w w1 := by rw [hw1]; exact ((Below.refl _ _).alloc (Nat.le_refl _) _).alloc (by simp) _
  by_cases hr : okReg r = true
  · have hk : chkReg r = 0 := by simp [chkReg, hr]
    have hv : tightR r = doneR (tightO r) := by simp [tightR, hr]
    have hh := fun b W k => Rhulls_any b r W k hr
    rw [hv]
    simp only [hk] at hchk
    generalize doneR (tightO r) = D at *
    obtain ⟨R, er⟩ := D
    simp only [regA] at hh ⊢
    replace hr := Lib.hid hr
    clear hv hk
    go_enter Tryz.func66, Tryz.ntmps66
    go_wp2_with fail
    rw [← hw1]
    clear hw1
    refine (hchk _).mono ?_
    rintro e W ⟨rfl, hbel⟩
    replace k1 := k1.below hbel
    replace k2 := k2.below hbel
    replace hb := hb.trans (hbel.mono hb.size)
    clear hbel hchk
    obtain ⟨c1, f1, l1⟩ := k1.rules
    go_wp2_with fail
    clear c1 f1 l1
    have kb := Blk.new W 45 #[.int .i64 r.x.lo, .int .i64 r.x.hi, .int .i64 r.y.lo, .int .i64 r.y.hi, .int .i64 r.s.lo, .int .i64 r.s.hi, .int .i64 r.d.lo, .int .i64 r.d.hi]
    have hbel := (Below.refl W.heap.size W).alloc (Nat.le_refl _) (.cells #[.int .i64 r.x.lo, .int .i64 r.x.hi, .int .i64 r.y.lo, .int .i64 r.y.hi, .int .i64 r.s.lo, .int .i64 r.s.hi, .int .i64 r.d.lo, .int .i64 r.d.hi] 45)
    replace k2 := k2.below hbel
    replace hb := hb.trans (hbel.mono hb.size)
    clear hbel k1
    generalize W.alloc (.cells #[.int .i64 r.x.lo, .int .i64 r.x.hi, .int .i64 r.y.lo, .int .i64 r.y.hi, .int .i64 r.s.lo, .int .i64 r.s.hi, .int .i64 r.d.lo, .int .i64 r.d.hi] 45) = W2 at *
    generalize W.heap.size = gb at *
    refine (hh _ _ kb).mono ?_
    rintro e W3 ⟨rfl, hbel⟩
    replace k2 := k2.below hbel
    replace hb := hb.trans (hbel.mono hb.size)
    clear hbel hh kb
    have kz := k2.set8 (.int .i64 R.x.lo) (.int .i64 R.x.hi) (.int .i64 R.y.lo) (.int .i64 R.y.hi) (.int .i64 R.s.lo) (.int .i64 R.s.hi) (.int .i64 R.d.lo) (.int .i64 R.d.hi)
    have bz := below_set8 (g := w.heap.size + 1) hb (by omega) (.int .i64 R.x.lo) (.int .i64 R.x.hi) (.int .i64 R.y.lo) (.int .i64 R.y.hi) (.int .i64 R.s.lo) (.int .i64 R.s.hi) (.int .i64 R.d.lo) (.int .i64 R.d.hi)
    obtain ⟨wz, hwz⟩ : ∃ x, x = set8 W3 (w.heap.size + 1) (.int .i64 R.x.lo) (.int .i64 R.x.hi) (.int .i64 R.y.lo) (.int .i64 R.y.hi) (.int .i64 R.s.lo) (.int .i64 R.s.hi) (.int .i64 R.d.lo) (.int .i64 R.d.hi) := ⟨_, rfl⟩
    rw [← hwz] at kz bz
    simp only [set8] at hwz
    obtain ⟨c2, f2, l2⟩ := k2.rules
    go_wp2
    rw [← hwz]
    clear hwz c2 f2 l2
    obtain ⟨c2, f2, l2⟩ := kz.rules
    exact bodyPost_ret (v := .tuple #[.agg #[.int .i64 R.x.lo, .int .i64 R.x.hi, .int .i64 R.y.lo, .int .i64 R.y.hi, .int .i64 R.s.lo, .int .i64 R.s.hi, .int .i64 R.d.lo, .int .i64 R.d.hi], .int .i64 er]) (by simp [results, Tryz.results66, go_sem, c2]) rfl ⟨rfl, bz⟩
  · have hk : chkReg r = 11 := by simp [chkReg, hr]
    have hv : tightR r = (noReg, 11) := by simp [tightR, hr]
    rw [hv]
    simp only [hk] at hchk
    simp only [regA, noReg]
    go_enter Tryz.func66, Tryz.ntmps66
    go_wp2_with fail
    rw [← hw1]
    clear hw1
    refine (hchk _).mono ?_
    rintro e W ⟨rfl, hbel⟩
    replace k2 := k2.below hbel
    replace hb := hb.trans (hbel.mono hb.size)
    clear hbel hchk
    have kz := k2.set8 (.int .i64 0) (.int .i64 0) (.int .i64 0) (.int .i64 0) (.int .i64 0) (.int .i64 0) (.int .i64 0) (.int .i64 0)
    have bz := below_set8 (g := w.heap.size + 1) hb (by omega) (.int .i64 0) (.int .i64 0) (.int .i64 0) (.int .i64 0) (.int .i64 0) (.int .i64 0) (.int .i64 0) (.int .i64 0)
    obtain ⟨wz, hwz⟩ : ∃ x, x = set8 W (w.heap.size + 1) (.int .i64 0) (.int .i64 0) (.int .i64 0) (.int .i64 0) (.int .i64 0) (.int .i64 0) (.int .i64 0) (.int .i64 0) := ⟨_, rfl⟩
    rw [← hwz] at kz bz
    simp only [set8] at hwz
    obtain ⟨c2, f2, l2⟩ := k2.rules
    go_wp2
    rw [← hwz]
    clear hwz c2 f2 l2
    obtain ⟨c2, f2, l2⟩ := kz.rules
    exact bodyPost_ret (v := .tuple #[.agg #[.int .i64 0, .int .i64 0, .int .i64 0, .int .i64 0, .int .i64 0, .int .i64 0, .int .i64 0, .int .i64 0], .int .i64 11]) (by simp [results, Tryz.results66, go_sem, c2]) rfl ⟨rfl, bz⟩
set_option maxRecDepth 100000 in
set_option maxHeartbeats 2000000 in
theorem RCheckHeading_any (h : Hdg) (w : World) :
    Calls Tryz.prog 21 #[.agg #[.int .i64 h.p, .int .i64 h.q, .int .i64 h.c]] w fun e w' => e = .returned (.int .i64 (chkHdg h)) ∧ Below w.heap.size w w' := by
  have hw1 := fun W => Between_any h.c 1 1000 W
  have hw2 := fun W => Between_any h.p (-1000) 1000 W
  have hw3 := fun W => Between_any h.q (-1000) 1000 W
  have hv : Hid (chkHdg h = if okHdg h = true then 0 else 35) := rfl
  have hno : ¬ okHdg h = true → (if okHdg h = true then (0 : Int) else 35) = 35 := fun e => if_neg e
  by_cases c1 : 1 ≤ h.c ∧ h.c ≤ 1000
  · simp only [decide_eq_true c1] at hw1
    by_cases c2 : -1000 ≤ h.p ∧ h.p ≤ 1000
    · simp only [decide_eq_true c2] at hw2
      by_cases c3 : -1000 ≤ h.q ∧ h.q ≤ 1000
      · simp only [decide_eq_true c3] at hw3
        have p1 := sq_1000 c2
        have p2 := sq_1000 c3
        have p3 := sq_1000 (p := h.c) (by omega)
        have p4 := sq_nonneg h.p
        have p5 := sq_nonneg h.q
        have p6 := sq_nonneg h.c
        have t1 := IntWalk.i64_in (h.p * h.p) (by omega)
        have t2 := IntWalk.i64_in (h.q * h.q) (by omega)
        have t3 := IntWalk.i64_in (h.c * h.c) (by omega)
        have t4 := IntWalk.i64_in (h.p * h.p + h.q * h.q) (by omega)
        by_cases c4 : h.p * h.p + h.q * h.q = h.c * h.c
        · have a1 := abs_of_sq (p := h.p) (c := h.c) (s := h.q * h.q) (by omega) p5 c4
          have a2 := abs_of_sq (p := h.q) (c := h.c) (s := h.p * h.p) (by omega) p4 (by omega)
          have hy : (if okHdg h = true then (0 : Int) else 35) = 0 := if_pos (okHdg_iff1.2 ⟨c1.1, c1.2, a1.1, a1.2, a2.1, a2.2, c4⟩)
          have c4' : (h.p * h.p + h.q * h.q != h.c * h.c) = false := by simp [c4]
          replace hy := Lib.hid hy
          replace c4 := Lib.hid c4
          clear hno c1 c2 c3 p1 p2 p3 p4 p5 p6 a1 a2
          go_enter Tryz.func21, Tryz.ntmps21
          go_wp2_with fail
          refine (hw1 _).mono ?_
          rintro e w' ⟨rfl, rfl⟩
          go_wp2_with fail
          refine (hw2 _).mono ?_
          rintro e w' ⟨rfl, rfl⟩
          go_wp2_with fail
          refine (hw3 _).mono ?_
          rintro e w' ⟨rfl, rfl⟩
          go_wp2
          go_ret
          exact ⟨ret_int (by rw [hv.out]; exact hy.out.symm), (Below.refl _ _).alloc (Nat.le_refl _) _⟩
        · have hy := hno (fun e => c4 (okHdg_iff1.1 e).2.2.2.2.2.2)
          have c4' : (h.p * h.p + h.q * h.q != h.c * h.c) = true := by simp [c4]
          replace hy := Lib.hid hy
          replace c4 := Lib.hid c4
          clear hno c1 c2 c3 p1 p2 p3 p4 p5 p6
          go_enter Tryz.func21, Tryz.ntmps21
          go_wp2_with fail
          refine (hw1 _).mono ?_
          rintro e w' ⟨rfl, rfl⟩
          go_wp2_with fail
          refine (hw2 _).mono ?_
          rintro e w' ⟨rfl, rfl⟩
          go_wp2_with fail
          refine (hw3 _).mono ?_
          rintro e w' ⟨rfl, rfl⟩
          go_wp2
          go_ret
          exact ⟨ret_int (by rw [hv.out]; exact hy.out.symm), (Below.refl _ _).alloc (Nat.le_refl _) _⟩
      · simp only [decide_eq_false c3] at hw3
        have hy := hno (fun e => c3 (by have := okHdg_iff1.1 e; omega))
        replace hy := Lib.hid hy
        clear hno c1 c2 c3
        go_enter Tryz.func21, Tryz.ntmps21
        go_wp2_with fail
        refine (hw1 _).mono ?_
        rintro e w' ⟨rfl, rfl⟩
        go_wp2_with fail
        refine (hw2 _).mono ?_
        rintro e w' ⟨rfl, rfl⟩
        go_wp2_with fail
        refine (hw3 _).mono ?_
        rintro e w' ⟨rfl, rfl⟩
        go_wp2
        go_ret
        exact ⟨ret_int (by rw [hv.out]; exact hy.out.symm), (Below.refl _ _).alloc (Nat.le_refl _) _⟩
    · simp only [decide_eq_false c2] at hw2
      have hy := hno (fun e => c2 (by have := okHdg_iff1.1 e; omega))
      replace hy := Lib.hid hy
      clear hno c1 c2
      go_enter Tryz.func21, Tryz.ntmps21
      go_wp2_with fail
      refine (hw1 _).mono ?_
      rintro e w' ⟨rfl, rfl⟩
      go_wp2_with fail
      refine (hw2 _).mono ?_
      rintro e w' ⟨rfl, rfl⟩
      go_wp2
      go_ret
      exact ⟨ret_int (by rw [hv.out]; exact hy.out.symm), (Below.refl _ _).alloc (Nat.le_refl _) _⟩
  · simp only [decide_eq_false c1] at hw1
    have hy := hno (fun e => c1 (by have := okHdg_iff1.1 e; omega))
    replace hy := Lib.hid hy
    clear hno c1
    go_enter Tryz.func21, Tryz.ntmps21
    go_wp2_with fail
    refine (hw1 _).mono ?_
    rintro e w' ⟨rfl, rfl⟩
    go_wp2
    go_ret
    exact ⟨ret_int (by rw [hv.out]; exact hy.out.symm), (Below.refl _ _).alloc (Nat.le_refl _) _⟩
end Go.Proofs.YtjiaepphnddpoaaGreat
