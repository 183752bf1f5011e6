/-
  The law ShotFewest.
-/
import Derived.Test.YtfengddpfeneiaaS28
import Derived.Test.YtfengddpfeneiaaS16
import Derived.Test.YtfengddpfeneiaaS46
import Derived.Test.YtfengddpfeneiaaQ19
import Derived.Test.YtfengddpfeneiaaQ13
import Derived.Test.YtfengddpfeneiaaS29
import Derived.Test.YtfengddpfeneiaaI2
import Derived.Deep.QuietTactic
import Derived.BigQuiet
namespace Go.Proofs.Ytfengddpfeneiaa
open Go.RowKit Go.Shelf
set_option linter.unusedSimpArgs false
set_option linter.unusedVariables false

set_option maxRecDepth 100000 in
set_option maxHeartbeats 8000000 in
theorem ShotFewest_any (r : Rul) (A X P : Option Addr) (n c nx cx np cp : Nat) (l x : List Int) (p : List Clm) (w : World) (hs : SlAt w 0 1 ivs A n c l) (hX : SlAt w 0 1 ivs X nx cx x) (hP : SlAt w 0 2 Clm.cells P np cp p) :
    Calls Try.prog 20 #[.agg #[.int .i64 r.row, .int .i64 r.win, .int .i64 r.many, .int .i64 r.total], .slice A n c, .agg #[.slice X nx cx, .slice P np cp]] w fun e w' => e = .returned (.bool true) ∧ Below w.heap.size w w' := by
  have h1 := fun W h => Repeat_any r l A n c 0 W h
  have h2 := fun W h => Prove_any r l A n c 0 W h
  have hl := Lib.hid hs.len
  have hxl := Lib.hid hX.len
  unfold RetSl at h1
  unfold RetPrv at h2
  obtain ⟨w1, hw1⟩ : ∃ w1, w1 = (w.alloc (.cells #[.int .i64 r.row, .int .i64 r.win, .int .i64 r.many, .int .i64 r.total] 57)).alloc (.cells #[.slice X nx cx, .slice P np cp] 106) := ⟨_, rfl⟩
  have k3 : Blk w1 w.heap.size 57 #[.int .i64 r.row, .int .i64 r.win, .int .i64 r.many, .int .i64 r.total] := by rw [hw1]; exact (Blk.new _ _ _).alloc _
  have k5 : Blk w1 (w.heap.size + 1) 106 #[.slice X nx cx, .slice P np cp] := by rw [hw1]; exact Blk.newAt (by simp)
  have b : Below w.heap.size w w1 := by rw [hw1]; exact ((Below.refl _ _).alloc (Nat.le_refl _) _).alloc (by simp) _
  have hs1 : SlAt w1 0 1 ivs A n c l := by rw [hw1]; exact (hs.alloc _).alloc _
  have hX1 : SlAt w1 0 1 ivs X nx cx x := by rw [hw1]; exact (hX.alloc _).alloc _
  have hP1 : SlAt w1 0 2 Clm.cells P np cp p := by rw [hw1]; exact (hP.alloc _).alloc _
  clear hs hX hP
  by_cases her : errJ r l 1 = 0
  · have hr : okRul r = true := by unfold errJ at her; split at her; assumption; cases her
    have hres : okRes l 1 = true := by
      unfold errJ at her; rw [if_pos hr] at her; split at her; assumption; cases her
    have hisr := isRes_of hres
    have hn256 : n ≤ 256 := by have := hisr.2; rw [hl.out] at this; exact this
    have hB := Lib.hid (fun p (h : PrvOk r l p) => boundR_proof her hr hisr.1 hisr.2 (h.1 her))
    have hgr := Lib.hid (fun z j => gdL_okRes hisr.1 hisr.2 z j)
    have hsaid := Lib.hid (fun z => fewest_said hr (z := z) hisr.1 p)
    have hl01 := Lib.hid hisr.1
    have hOw := fun W h => OwnQ_any l A n c 0 W (by omega) h
    have hbo := fun W h h' => Bound_any r l p A P n c np cp 0 W h h'
    have hrp : repR r l = (repL r l, 0) := by unfold repR; rw [if_pos her]
    rw [hrp] at h1
    have hju := fun g A n c B W h (hg : okRes g 1 = true) => show Calls Try.prog 41 #[.agg #[.int .i64 r.row, .int .i64 r.win, .int .i64 r.many, .int .i64 r.total], .slice A n c] W fun e w' => e = .returned (.tuple #[.int .i64 (judgeS r g).1, .int .i64 (judgeS r g).2, .int .i64 0]) ∧ Below W.heap.size W w' from by
      have := Judge_any r g A n c B W h
      unfold judgeR at this
      rwa [if_pos (errJ_mk hr hg)] at this
    clear hrp hisr hres
    rw [her] at h2
    replace her := Lib.hid her
    replace hr := Lib.hid hr
    go_enter Try.func20, Try.ntmps20
    go_upto_region 1 with fail
    rw [← hw1]
    clear hw1
    obtain ⟨c3, f3, l3⟩ := k3.rules
    go_wp2_with fail
    refine (h1 _ hs1).mono ?_
    rintro e W ⟨Y, ny, cy, rfl, hY, hb⟩
    clear c3 f3 l3 h1
    replace hY := hY.mono (Nat.zero_le _)
    replace k3 := k3.below hb
    replace k5 := k5.below hb
    replace b := b.trans (hb.mono b.size)
    replace hs1 := hs1.below hb
    replace hX1 := hX1.below hb
    replace hP1 := hP1.below hb
    skip
    clear hb
    have hyl := Lib.hid hY.len
    obtain ⟨c5, f5, l5⟩ := k5.rules
    go_wp2_with fail
    clear c5 f5 l5
    go_loopw [40] (fun i wr => ∃ q : Nat, i = .int .i64 (q : Int) ∧ q ≤ 2 ∧ Below W.heap.size W wr) (fun i wr => 2 - (intOf i).toNat)
    case atStart => exact ⟨0, rfl, by omega, Below.refl _ _⟩
    case round =>
      obtain ⟨q, rfl, hq, hbq⟩ := hrel
      generalize wr = V0 at *
      clear wr
      by_cases hlt : q < 2
      · have hq1 : (q : Int) < 2 := by omega
        obtain ⟨Z, nz, cz, z, hix, hZs⟩ : ∃ Z nz cz z, (∀ w', (Instr.index 107 (.agg #[.slice Y ny cy, .slice X nx cx]) (.int .i64 (q : Int))).run Try.prog w' = .ok (.slice Z nz cz) w') ∧ SlAt W 0 1 ivs Z nz cz z := by
          match q, hlt with
          | 0, _ => exact ⟨Y, ny, cy, repL r l, fun _ => by kernel_rfl, hY⟩
          | 1, _ => exact ⟨X, nx, cx, x, fun _ => by kernel_rfl, hX1⟩
        have hzl := Lib.hid hZs.len
        have hzle := hZs.le
        go_wp2_with fail
        refine (hOw _ (hs1.below hbq)).mono ?_
        rintro e V1 ⟨v, rfl, hv, hbV⟩
        obtain ⟨P9, pc9, rfl, -⟩ := SlAt.of_own (enc := ivs) hv (by omega) l (flatMap_ivs _).symm (fun _ => rfl) hl.out
        clear hix
        go_wp2_with fail
        go_loopw [12, 13] (fun o i wr => ∃ j : Nat, i = .int .i64 (j : Int) ∧ j ≤ nz ∧ o = .bool (okB l z j) ∧ wr.ownsRow V0.heap.size 3 1 (.slice P9 n pc9) n ((gdL l z j).map (.int .i64 ·)) ∧ Below V0.heap.size V0 wr) (fun o i wr => nz - (intOf i).toNat)
        case atStart => exact ⟨0, rfl, Nat.zero_le _, rfl, hv, hbV⟩
        case round =>
          clear hv hbV
          obtain ⟨j, rfl, hj, rfl, hown, hb9⟩ := hrel
          have hV0 := hbq.size
          by_cases hlt2 : j < nz
          · have hj0 : (0 : Int) ≤ (j : Int) := by omega
            have hj1 : (j : Int) < (nz : Int) := by omega
            cases hob : okB l z j with
            | false =>
              have hno := okB_no (l := l) (z := z) (j := j) (by rw [hob]; rfl)
              have hn1 := Lib.hid hno.1
              have hn2 := Lib.hid hno.2
              clear hno hob
              go_wp2_with fail
              go_quiet (fail)
              have hbd := below_drewN (Below.refl wr.heap.size wr) nq
              replace hown := ownsRow_below hown hbd
              replace hb9 := hb9.trans (hbd.mono hb9.size)
              clear hbd
              generalize wr.drewN nq = Wd at *
              go_wp2_with fail
              go_roundw
              case rel => exact ⟨j + 1, by go_num, by omega, by rw [hn1.out], by rw [hn2.out]; exact hown, hb9⟩
              case measure => simp [intOf]; omega
            | true =>
              obtain ⟨v, hv⟩ := some_of_lt hzl.out hlt2
              obtain ⟨bz, oz, hZ, -, hblz, c0⟩ := ((hZs.below hbq).below hb9).int hv
              have hvd : z.getD j 0 = v := by rw [List.getD_eq_getElem?_getD, hv]; rfl
              have hst : stepOk l z j = (decide (0 ≤ v ∧ v ≤ (n : Int) - 1) && (decide (j = 0) || decide (z.getD (j - 1) 0 < v))) := by unfold stepOk; rw [hvd, hl.out]
              have hyes := fun h => okB_yes (l := l) (z := z) (j := j) h
              have hno := fun h => okB_no (l := l) (z := z) (j := j) h
              rw [hob, Bool.true_and, hst] at hyes hno
              rw [hvd] at hyes
              have u1 := IntWalk.i64_in ((n : Int) - 1) (by omega)
              replace hZ := Lib.hid hZ
              have hZZ := hZ.out
              subst hZZ
              replace hvd := Lib.hid hvd
              clear hst hob
              by_cases hbt : 0 ≤ v ∧ v ≤ (n : Int) - 1
              · have hB := fun W => flip_w (show Calls _ _ _ _ _ from by have := Between_any v 0 ((n : Int) - 1) W; rw [decide_eq_true hbt] at this; exact this)
                rw [decide_eq_true hbt, Bool.true_and] at hyes hno
                have hvn : v.toNat < n := by omega
                have hvn2 : v < (n : Int) := by omega
                have hv00 := hbt.1
                have hgl := getD_of_lt (l := l) (i := v.toNat) (by rw [hl.out]; exact hvn)
                obtain ⟨bb, off, hA, -, hbl, e0⟩ := ((hs1.below hbq).below hb9).int hgl
                generalize hyy : l.getD v.toNat 0 = y at *
                replace hyy := Lib.hid hyy
                rcases hown.2 with ⟨-, h0⟩ | ⟨g, cap, cur, e9, hg, -⟩
                · omega
                simp only [Value.slice.injEq, true_and] at e9
                obtain ⟨rfl, rfl⟩ := e9
                replace hA := Lib.hid hA
                have hAA := hA.out
                subst hAA
                clear hgl hbt hg
                by_cases hjz : j = 0
                · have hq1 : (j = 0) = True := eq_true hjz
                  rw [decide_eq_true hjz, Bool.true_or] at hyes
                  obtain ⟨hn1, hn2⟩ := hyes rfl
                  replace hn1 := Lib.hid hn1
                  replace hn2 := Lib.hid hn2
                  replace hjz := Lib.hid hjz
                  replace hv := Lib.hid hv
                  clear hyes hno
                  go_wp2_with fail
                  go_quiet ((go_at_call 54; with_reducible exact Calls.quiet_of_same (hB _)))
                  have hbd := below_drewN (Below.refl wr.heap.size wr) nq
                  replace hown := ownsRow_below hown hbd
                  replace c0 := (hbd.cell (p := ⟨bz, oz + j, none⟩) hblz).trans c0
                  replace e0 := (hbd.cell (p := ⟨bb, off + v.toNat, none⟩) hbl).trans e0
                  replace hb9 := hb9.trans (hbd.mono hb9.size)
                  clear hbd
                  generalize wr.drewN nq = Wd at *
                  obtain ⟨v0, hcc⟩ := own_cell hown (j := v.toNat) (by omega)
                  have hfr := hown.frozenAt v.toNat
                  have hown9 := Lib.hid ((hown.stored v.toNat (.int .i64 0)).1)
                  rw [← List.map_set, ← hn2.out] at hown9
                  have hgw := (hown.lt _ rfl).1
                  have hbz := hb9.setCell (p := ⟨g, v.toNat, none⟩) (by dsimp only; omega) (.int .i64 0)
                  go_wp2_with fail
                  go_roundw
                  case rel => exact ⟨j + 1, by go_num, by omega, by first | (rw [hn1.out]; done) | (rw [hn1.out]; rfl), hown9.out, hbz⟩
                  case measure => simp [intOf]; omega
                · have hq1 : (j = 0) = False := eq_false hjz
                  have hq2 : ((j : Int) == 0) = false := by rw [beq_eq_false_iff_ne]; omega
                  have hq3 : (j == 0) = false := by rw [beq_eq_false_iff_ne]; omega
                  rw [decide_eq_false hjz, Bool.false_or] at hyes hno
                  obtain ⟨v1, hv1⟩ := some_of_lt hzl.out (show j - 1 < nz by omega)
                  have hvd1 : z.getD (j - 1) 0 = v1 := by rw [List.getD_eq_getElem?_getD, hv1]; rfl
                  obtain ⟨bz2, oz2, hZ2, -, -, c1⟩ := ((hZs.below hbq).below hb9).int hv1
                  simp only [Option.some.injEq, Addr.mk.injEq, and_true] at hZ2
                  obtain ⟨rfl, rfl⟩ := hZ2
                  rw [hvd1] at hyes hno
                  have u2 := IntWalk.i64_in ((j : Int) - 1) (by omega)
                  have u3 : ((j : Int) - 1).toNat = j - 1 := by omega
                  have z1 : (0 : Int) ≤ (j : Int) - 1 := by omega
                  have z2 : (j : Int) - 1 < (nz : Int) := by omega
                  replace hvd1 := Lib.hid hvd1
                  replace hjz := Lib.hid hjz
                  replace hv := Lib.hid hv
                  replace hv1 := Lib.hid hv1
                  by_cases hvv : v1 < v
                  · rw [decide_eq_true hvv] at hyes
                    obtain ⟨hn1, hn2⟩ := hyes rfl
                    replace hn1 := Lib.hid hn1
                    replace hn2 := Lib.hid hn2
                    clear hyes hno
                    go_wp2_with fail
                    go_quiet ((go_at_call 54; with_reducible exact Calls.quiet_of_same (hB _)))
                    have hbd := below_drewN (Below.refl wr.heap.size wr) nq
                    replace hown := ownsRow_below hown hbd
                    replace c0 := (hbd.cell (p := ⟨bz, oz + j, none⟩) hblz).trans c0
                    replace e0 := (hbd.cell (p := ⟨bb, off + v.toNat, none⟩) hbl).trans e0
                    replace hb9 := hb9.trans (hbd.mono hb9.size)
                    clear hbd
                    generalize wr.drewN nq = Wd at *
                    obtain ⟨v0, hcc⟩ := own_cell hown (j := v.toNat) (by omega)
                    have hfr := hown.frozenAt v.toNat
                    have hown9 := Lib.hid ((hown.stored v.toNat (.int .i64 0)).1)
                    rw [← List.map_set, ← hn2.out] at hown9
                    have hgw := (hown.lt _ rfl).1
                    have hbz := hb9.setCell (p := ⟨g, v.toNat, none⟩) (by dsimp only; omega) (.int .i64 0)
                    go_wp2_with fail
                    go_roundw
                    case rel => exact ⟨j + 1, by go_num, by omega, by first | (rw [hn1.out]; done) | (rw [hn1.out]; rfl), hown9.out, hbz⟩
                    case measure => simp [intOf]; omega
                  · rw [decide_eq_false hvv] at hno
                    obtain ⟨hn1, hn2⟩ := hno rfl
                    replace hn1 := Lib.hid hn1
                    replace hn2 := Lib.hid hn2
                    have hvv2 : v ≤ v1 := by omega
                    have hvv3 : (v1 < v) = False := eq_false hvv
                    clear hyes hno
                    go_wp2_with fail
                    go_quiet (((go_at_call 54; with_reducible exact Calls.quiet_of_same (hB _))))
                    have hbd := below_drewN (Below.refl wr.heap.size wr) nq
                    replace hown := ownsRow_below hown hbd
                    replace hb9 := hb9.trans (hbd.mono hb9.size)
                    clear hbd
                    generalize wr.drewN nq = Wd at *
                    go_wp2_with fail
                    go_roundw
                    case rel => exact ⟨j + 1, by go_num, by omega, by rw [hn1.out], by rw [hn2.out]; exact hown, hb9⟩
                    case measure => simp [intOf]; omega
              · have hB := fun W => flip_w (show Calls _ _ _ _ _ from by have := Between_any v 0 ((n : Int) - 1) W; rw [decide_eq_false hbt] at this; exact this)
                rw [decide_eq_false hbt, Bool.false_and] at hno
                obtain ⟨hn1, hn2⟩ := hno rfl
                replace hn1 := Lib.hid hn1
                replace hn2 := Lib.hid hn2
                replace hv := Lib.hid hv
                replace hbt := Lib.hid hbt
                clear hyes hno
                go_wp2_with fail
                go_quiet (((go_at_call 54; with_reducible exact Calls.quiet_of_same (hB _))))
                have hbd := below_drewN (Below.refl wr.heap.size wr) nq
                replace hown := ownsRow_below hown hbd
                replace hb9 := hb9.trans (hbd.mono hb9.size)
                clear hbd
                generalize wr.drewN nq = Wd at *
                go_wp2_with fail
                go_roundw
                case rel => exact ⟨j + 1, by go_num, by omega, by rw [hn1.out], by rw [hn2.out]; exact hown, hb9⟩
                case measure => simp [intOf]; omega
          · obtain rfl : j = nz := by omega
            obtain ⟨ZZ, zc, eZ, hG⟩ := SlAt.of_own (enc := ivs) hown (by omega) (gdL l z j) (flatMap_ivs _).symm (fun _ => rfl) (by rw [gdL_len, hl.out])
            simp only [Value.slice.injEq, true_and] at eZ
            obtain ⟨rfl, rfl⟩ := eZ
            have hju2 := fun W h => hju (gdL l z j) P9 n pc9 V0.heap.size W h (hgr.out z j)
            obtain ⟨hsa, hsb⟩ := hsaid.out z
            rw [hzl.out] at hsa hsb
            rw [hyl.out] at hsa
            generalize hrlq : (judgeS r (gdL l z j)).2 = rl at *
            generalize (judgeS r (gdL l z j)).1 = rs at *
            generalize hob : okB l z j = ob at *
            replace hbq := hbq.trans (hb9.mono hbq.size)
            have k3q := k3.below hbq
            obtain ⟨c3, f3, l3⟩ := k3q.rules
            replace hob := Lib.hid hob
            replace hrlq := Lib.hid hrlq
            clear hown hb9 hj hlt2
            go_wp2_with fail
            refine (hju2 _ hG).mono ?_
            rintro e V3 ⟨rfl, hb3⟩
            clear hju2 hG c3 f3 l3
            have k5q := (k5.below hbq).below hb3
            have hs3 := (hs1.below hbq).below hb3
            have hP3 := (hP1.below hbq).below hb3
            replace k3q := k3q.below hb3
            replace hbq := hbq.trans (hb3.mono hbq.size)
            clear hb3
            by_cases hgd : ob = true ∧ rl = 0
            · obtain ⟨h3, h4⟩ := hgd
              obtain ⟨hs1', hs2'⟩ := hsa h3 h4
              subst h3 h4
              clear hsa hsb
              obtain ⟨c3, f3, l3⟩ := k3q.rules
              obtain ⟨c5, f5, l5⟩ := k5q.rules
              go_wp2_with fail
              refine (hbo _ hs3 hP3).mono ?_
              rintro e V4 ⟨rfl, hb4⟩
              clear hbo c3 f3 l3 c5 f5 l5 hs3 hP3 k3q k5q
              replace hbq := hbq.trans (hb4.mono hbq.size)
              clear hb4
              generalize boundR r l p = bp at *
              obtain ⟨bn, bf⟩ := bp
              dsimp only at hs1' ⊢
              have h9 : (j < ny) = False := eq_false (by omega)
              clear hs2'
              by_cases hf : bf = 0
              · have h7 := hs1' hf
                have h8 : ((j : Int) < bn) = False := eq_false (by omega)
                have hf2 : (bf == 0) = true := by rw [beq_iff_eq]; exact hf
                replace hf := Lib.hid hf
                clear hs1' h7
                by_cases hny : j = ny
                · have g1 : (j = ny) = True := eq_true hny
                  replace hny := Lib.hid hny
                  go_wp2_with fail
                  refine (Alike_any _ _ _ _ _ _ _ _ z (repL r l) _ (hZs.below hbq) (hY.below hbq)).mono ?_
                  rintro e V5 ⟨rfl, hb5⟩
                  replace hbq := hbq.trans (hb5.mono hbq.size)
                  clear hb5
                  cases decide (z = repL r l)
                  all_goals
                    go_wp2_with fail
                    go_roundw
                    case rel => exact ⟨q + 1, by go_num, by omega, hbq⟩
                    case measure => simp [intOf]; omega
                · have g1 : (j = ny) = False := eq_false hny
                  have g2 : ((j : Int) == (ny : Int)) = false := by rw [beq_eq_false_iff_ne]; omega
                  replace hny := Lib.hid hny
                  go_wp2_with fail
                  go_roundw
                  case rel => exact ⟨q + 1, by go_num, by omega, hbq⟩
                  case measure => simp [intOf]; omega
              · have hf2 : (bf == 0) = false := by rw [beq_eq_false_iff_ne]; exact hf
                replace hf := Lib.hid hf
                clear hs1'
                by_cases hny : j = ny
                · have g1 : (j = ny) = True := eq_true hny
                  replace hny := Lib.hid hny
                  go_wp2_with fail
                  refine (Alike_any _ _ _ _ _ _ _ _ z (repL r l) _ (hZs.below hbq) (hY.below hbq)).mono ?_
                  rintro e V5 ⟨rfl, hb5⟩
                  replace hbq := hbq.trans (hb5.mono hbq.size)
                  clear hb5
                  cases decide (z = repL r l)
                  all_goals
                    go_wp2_with fail
                    go_roundw
                    case rel => exact ⟨q + 1, by go_num, by omega, hbq⟩
                    case measure => simp [intOf]; omega
                · have g1 : (j = ny) = False := eq_false hny
                  have g2 : ((j : Int) == (ny : Int)) = false := by rw [beq_eq_false_iff_ne]; omega
                  replace hny := Lib.hid hny
                  go_wp2_with fail
                  go_roundw
                  case rel => exact ⟨q + 1, by go_num, by omega, hbq⟩
                  case measure => simp [intOf]; omega
            · have hal : decide (z = repL r l) = false := decide_eq_false (fun h => hgd (hsb h))
              replace hal := Lib.hid hal
              clear hsa hsb k3q k5q hs3 hP3
              cases ob with
              | false =>
                clear hgd
                by_cases hny : j = ny
                · have g1 : (j = ny) = True := eq_true hny
                  replace hny := Lib.hid hny
                  go_wp2_with fail
                  refine (Alike_any _ _ _ _ _ _ _ _ z (repL r l) _ (hZs.below hbq) (hY.below hbq)).mono ?_
                  rintro e V5 ⟨rfl, hb5⟩
                  replace hbq := hbq.trans (hb5.mono hbq.size)
                  clear hb5
                  rw [hal.out]
                  all_goals
                    go_wp2_with fail
                    go_roundw
                    case rel => exact ⟨q + 1, by go_num, by omega, hbq⟩
                    case measure => simp [intOf]; omega
                · have g1 : (j = ny) = False := eq_false hny
                  have g2 : ((j : Int) == (ny : Int)) = false := by rw [beq_eq_false_iff_ne]; omega
                  replace hny := Lib.hid hny
                  go_wp2_with fail
                  go_roundw
                  case rel => exact ⟨q + 1, by go_num, by omega, hbq⟩
                  case measure => simp [intOf]; omega
              | true =>
                have hrl : (rl == 0) = false := by rw [beq_eq_false_iff_ne]; exact fun h => hgd ⟨rfl, h⟩
                clear hgd
                by_cases hny : j = ny
                · have g1 : (j = ny) = True := eq_true hny
                  replace hny := Lib.hid hny
                  go_wp2_with fail
                  refine (Alike_any _ _ _ _ _ _ _ _ z (repL r l) _ (hZs.below hbq) (hY.below hbq)).mono ?_
                  rintro e V5 ⟨rfl, hb5⟩
                  replace hbq := hbq.trans (hb5.mono hbq.size)
                  clear hb5
                  rw [hal.out]
                  all_goals
                    go_wp2_with fail
                    go_roundw
                    case rel => exact ⟨q + 1, by go_num, by omega, hbq⟩
                    case measure => simp [intOf]; omega
                · have g1 : (j = ny) = False := eq_false hny
                  have g2 : ((j : Int) == (ny : Int)) = false := by rw [beq_eq_false_iff_ne]; omega
                  replace hny := Lib.hid hny
                  go_wp2_with fail
                  go_roundw
                  case rel => exact ⟨q + 1, by go_num, by omega, hbq⟩
                  case measure => simp [intOf]; omega
      · obtain rfl : q = 2 := by omega
        have hb := hbq
        replace hY := hY.below hb
        replace k3 := k3.below hb
        replace k5 := k5.below hb
        replace b := b.trans (hb.mono b.size)
        replace hs1 := hs1.below hb
        replace hX1 := hX1.below hb
        replace hP1 := hP1.below hb
        skip
        clear hb
        obtain ⟨c3, f3, l3⟩ := k3.rules
        go_wp2_with fail
        refine (h2 _ hs1).mono ?_
        rintro e W2 ⟨P', np', cp', p', rfl, hP', hpr, hb⟩
        clear c3 f3 l3 h2
        replace hP' := hP'.mono (Nat.zero_le _)
        replace k3 := k3.below hb
        replace k5 := k5.below hb
        replace b := b.trans (hb.mono b.size)
        replace hs1 := hs1.below hb
        replace hX1 := hX1.below hb
        replace hP1 := hP1.below hb
        skip
        clear hb
        have hB2 := hB.out p' hpr
        rw [hyl.out] at hB2
        have h4 := fun W h h' => Bound_any r l p' A P' n c np' cp' 0 W h h'
        rw [hB2] at h4
        clear hB2
        obtain ⟨c3, f3, l3⟩ := k3.rules
        go_wp2_with fail
        refine (h4 _ hs1 hP').mono ?_
        rintro e W4 ⟨rfl, hb⟩
        clear c3 f3 l3 h4
        replace k3 := k3.below hb
        replace k5 := k5.below hb
        replace b := b.trans (hb.mono b.size)
        replace hs1 := hs1.below hb
        replace hX1 := hX1.below hb
        replace hP1 := hP1.below hb
        skip
        clear hb
        go_wp2_with fail
        refine (works_any _).mono ?_
        rintro e W8 ⟨rfl, hb⟩
        go_wp2_with fail
        go_ret
        exact ⟨rfl, b.trans (hb.mono b.size)⟩
  · have hrp : repR r l = ([], errJ r l 1) := by unfold repR; rw [if_neg her]
    rw [hrp] at h1
    clear hrp h2
    generalize errJ r l 1 = q at *
    have hz2 : (q != 0) = true := by rw [bne_iff_ne]; exact her
    replace her := Lib.hid her
    go_enter Try.func20, Try.ntmps20
    go_upto_region 1 with fail
    rw [← hw1]
    clear hw1
    obtain ⟨c3, f3, l3⟩ := k3.rules
    go_wp2_with fail
    refine (h1 _ hs1).mono ?_
    rintro e W ⟨Y, ny, cy, rfl, hY, hb⟩
    clear c3 f3 l3 h1
    replace hY := hY.mono (Nat.zero_le _)
    replace k3 := k3.below hb
    replace k5 := k5.below hb
    replace b := b.trans (hb.mono b.size)
    replace hs1 := hs1.below hb
    replace hX1 := hX1.below hb
    replace hP1 := hP1.below hb
    skip
    clear hb
    obtain rfl : ny = 0 := hY.len.symm
    clear hY
    go_wp2_with fail
    refine (works_any _).mono ?_
    rintro e W8 ⟨rfl, hb⟩
    go_wp2_with fail
    go_ret
    exact ⟨rfl, b.trans (hb.mono b.size)⟩
end Go.Proofs.Ytfengddpfeneiaa
