/-
  Shots, walks of the specification: Allow, the table.
-/
import Derived.Test.YtfengddpfeneiaaS37
namespace Go.Proofs.Ytfengddpfeneiaa
open Go.RowKit Go.Shelf
set_option linter.unusedSimpArgs false
set_option linter.unusedVariables false
attribute [local irreducible] wpStill

theorem cnt_leQ (l : List Int) : cnt l ≤ l.length := List.countP_le_length
def N1L : List Int := List.replicate 4096 (-1)
theorem N1L_len : N1L.length = 4096 := List.length_replicate
theorem N1L_at {k : Nat} (h : k < 4096) : N1L[k]? = some (-1) := by unfold N1L; rw [List.getElem?_replicate, if_pos h]
theorem N1L_start (W : World) (B g : Nat) (h : W.ownsRow B 3 1 (.slice (some ⟨g, 0, none⟩) 4096 4096) 4096 (madeCells (Value.int .i64 0).cells (4096 * 1)).toList) : W.ownsRow B 3 1 (.slice (some ⟨g, 0, none⟩) 4096 4096) 4096 ((fillTo N1L 0 0).map (Value.int .i64)) := by
  rw [fillTo_zero, N1L_len, List.map_replicate]
  rw [madeCells_int] at h
  exact h
theorem N1L_end : fillTo N1L 4096 0 = TL (fun _ => none) := by rw [TL_none]; exact fillTo_len 0 N1L_len
/-- Both the tables: the one of the last round and the one under way. -/
structure TwoT (W : World) (B gm gn : Nat) (xs ys : List Int) : Prop where
  ne : gm ≠ gn
  m : W.ownsRow B 3 1 (.slice (some ⟨gm, 0, none⟩) 4096 4096) 4096 (xs.map (Value.int .i64 ·))
  n : W.ownsRow B 3 1 (.slice (some ⟨gn, 0, none⟩) 4096 4096) 4096 (ys.map (Value.int .i64 ·))
theorem TwoT.store {W : World} {B gm gn : Nat} {xs ys : List Int} (h : TwoT W B gm gn xs ys) {k : Nat} (hk : k < 4096) (x : Int) :
    (∃ v0, W.cell? ⟨gn, k, none⟩ = some v0) ∧ W.frozen? ⟨gn, k, none⟩ = false ∧ B ≤ gn ∧ TwoT (W.setCell ⟨gn, k, none⟩ (.int .i64 x)) B gm gn xs (ys.set k x) := by
  have h2 := (h.n.stored k (.int .i64 x)).1
  rw [← List.map_set] at h2
  exact ⟨own_cell h.n hk, h.n.frozenAt k, (h.n.lt gn rfl).1, h.ne, ownsRow_setCell h.m (p := ⟨gn, k, none⟩) (fun e => by simp only [Value.ownBlock, Option.some.injEq] at e; exact h.ne e) (.int .i64 x), h2⟩
theorem TwoT.drewN {W : World} {B gm gn : Nat} {xs ys : List Int} (h : TwoT W B gm gn xs ys) (k : Nat) : TwoT (W.drewN k) B gm gn xs ys := ⟨h.ne, h.m, h.n⟩
set_option maxRecDepth 100000 in
set_option maxHeartbeats 16000000 in
theorem RAllow_any (r : Rul) (l : List Int) (m : Int) (A : Option Addr) (n c B : Nat) (w : World) (hs : SlAt w B 1 ivs A n c l) :
    Calls Try.prog 48 #[.agg #[.int .i64 r.row, .int .i64 r.win, .int .i64 r.many, .int .i64 r.total], .slice A n c, .int .i64 m] w fun e w' => e = .returned (.tuple #[.int .i64 (allowR r l m).1, .int .i64 (allowR r l m).2]) ∧ Below w.heap.size w w' := by
  have h1 := fun W h => Rgiven_any r l 1 A n c B W h
  have hl := Lib.hid hs.len
  obtain ⟨w1, hw1⟩ : ∃ w1, w1 = w.alloc (.cells #[.int .i64 r.row, .int .i64 r.win, .int .i64 r.many, .int .i64 r.total] 57) := ⟨_, rfl⟩
  have k3 : Blk w1 w.heap.size 57 #[.int .i64 r.row, .int .i64 r.win, .int .i64 r.many, .int .i64 r.total] := by rw [hw1]; exact Blk.new _ _ _
  have b : Below w.heap.size w w1 := by rw [hw1]; exact (Below.refl _ _).alloc (Nat.le_refl _) _
  have hs1 : SlAt w1 B 1 ivs A n c l := by rw [hw1]; exact hs.alloc _
  clear hs
  unfold allowR
  by_cases her : errJ r l 1 = 0
  · rw [if_pos her]
    obtain ⟨hr, hok⟩ := errJ_ok her
    rw [her] at h1
    by_cases hm : 0 ≤ m ∧ m ≤ 64
    · rw [if_pos hm]
      have hB := fun W => btwY hm W
      have h2 := fun W h => Rjudge_any r hr l A n c B W h
      by_cases hj : (judgeS r l).2 = 0
      · rw [if_pos hj]
        have hrs := isRes_of hok
        have hn256 : n ≤ 256 := by have := hrs.2; rw [hl.out] at this; exact this
        obtain ⟨M, rfl⟩ : ∃ M : Nat, m = M := ⟨m.toNat, by omega⟩
        have hM : M ≤ 64 := by omega
        have hend := Lib.hid (allow_end hr hrs.1 hj M (by omega))
        have hst := Lib.hid (mostT_start r (left := 1000) (n := M) (stateS_lt l) (state_ok hr hrs.1 hj).1)
        have hbm := Lib.hid (bestS_le r M (stateS l) 1000)
        have hct := Lib.hid (state_ok hr hrs.1 hj).2
        have hone := Lib.hid (fun (T : Nat) (m : Int) (hT : T < 4096) (h0 : 0 ≤ m) (h1 : m ≤ 12) W => Rones_any T m hT h0 h1 W)
        obtain ⟨p1, p2, p3, p4, p5, p6, p7, p8⟩ := okRul_is hr
        rw [hj] at h2
        generalize (judgeS r l).1 = j1 at *
        generalize allowS r l (M : Int) = R at *
        obtain ⟨bst, hbst⟩ : ∃ x, x = bestS r M (stateS l) 1000 := ⟨_, rfl⟩
        rw [← hbst] at hend hst hbm
        have hb64 : bst ≤ 64 := by have := hbm.out; omega
        obtain ⟨i0, hi0, hz0, hz1, hz2⟩ := info_parts Try.infoInt
        have hc1 := Lib.hid (show i0.bytes * 4096 ≤ 281474976710656 by rw [hz2]; omega)
        have hc2 := Lib.hid (show 4096 ≤ maxLen by unfold maxLen; omega)
        have hmin := min2_int
        have hmax := max2_int
        replace hr := Lib.hid hr
        replace hrs := Lib.hid hrs.1
        clear her hok hm hj hbst hbm
        go_enter Try.func48, Try.ntmps48
        go_wp2_with fail
        rw [← hw1]
        clear hw1
        obtain ⟨c3, f3, l3⟩ := k3.rules
        go_wp2_with fail
        refine (h1 _ hs1).mono ?_
        rintro e W ⟨rfl, hb⟩
        clear c3 f3 l3
        replace k3 := k3.below hb
        replace b := b.trans (hb.mono b.size)
        replace hs1 := hs1.below hb
        clear hb
        go_wp2_with fail
        refine (hB _).mono ?_
        rintro e w' ⟨rfl, rfl⟩
        obtain ⟨c3, f3, l3⟩ := k3.rules
        go_wp2_with fail
        refine (h2 _ hs1).mono ?_
        rintro e Wj ⟨rfl, hb⟩
        clear c3 f3 l3
        replace k3 := k3.below hb
        replace b := b.trans (hb.mono b.size)
        replace hs1 := hs1.below hb
        clear hb
        clear h1 h2 hB
        generalize hWW : Wj = W at *
        clear hWW
        go_wp2_with fail
        go_loopw [11, 12, 13] (fun st al i wr => ∃ k : Nat, i = .int .i64 (k : Int) ∧ k ≤ n ∧ st = .int .i64 (stateS (l.take k) : Nat) ∧ al = .int .i64 (cnt (l.take k) : Nat) ∧ wr = W) (fun st al i wr => n - (intOf i).toNat)
        case atStart => exact ⟨0, rfl, Nat.zero_le _, rfl, rfl, rfl⟩
        case round =>
          obtain ⟨k, rfl, hk, rfl, rfl, hwr⟩ := hrel
          rw [hwr]
          clear hwr
          by_cases hlt : k < n
          · obtain ⟨x, hx⟩ := some_of_lt hl.out hlt
            obtain ⟨ba, oa, hA, -, -, e0⟩ := hs1.int hx
            have hx01 := hrs.out x (List.mem_of_getElem? hx)
            have hk0 : (0 : Int) ≤ (k : Int) := by omega
            have hk1 : (k : Int) < (n : Int) := by omega
            have hn1 := next_int (s := stateS (l.take k)) hx01
            have hn2 := Lib.hid (state_takeI hx)
            have hn3 := Lib.hid (cnt_takeI hrs.out hx)
            have hsb := stateS_lt (l.take k)
            have hcb := cnt_leQ (l.take k)
            rw [List.length_take] at hcb
            generalize stateS (l.take k) = s at *
            generalize cnt (l.take k) = q at *
            generalize nextS s x.toNat = s2 at *
            have u1 := IntWalk.i64_in (2 * (s : Int)) (by omega)
            have u2 := IntWalk.i64_in (2 * (s : Int) + x) (by omega)
            have u4 := IntWalk.i64_in ((q : Int) + x) (by omega)
            have u3 : IntKind.i64.wrap (s2 : Int) = (s2 : Int) := IntWalk.i64_in _ (by have := Int.tmod_lt_of_pos (2 * (s : Int) + x) (show (0 : Int) < 4096 by omega); omega)
            subst hA
            replace hx := Lib.hid hx
            clear hx01
            go_wp2_with fail
            go_roundw
            case rel => exact ⟨k + 1, by go_num, by omega, by rw [hn2.out], by rw [hn3.out], by first | rfl | trivial⟩
            case measure => simp [intOf]; omega
          · obtain rfl : k = n := by omega
            rw [show l.take k = l from List.take_of_length_le (by rw [hl.out]; exact Nat.le_refl _)]
            have hsl := stateS_lt l
            have hct2 := hct.out
            have hcl := cnt_leQ l
            rw [hl.out] at hcl
            generalize stateS l = st at *
            generalize cnt l = ct at *
            clear wr hs1 hrs
            go_wp2_with (at_make; refine wpList_make_full _ rfl _ _ 22 rfl W.heap.size 3 i0 (.int .i64 0) 1 Try.underlying22 hi0 hz0 hz1 _ _ _ _ 4096 rfl rfl rfl rfl hc1.out hc2.out (Nat.le_refl _) ?_; intro wm hown hgrow)
            have hown0 := N1L_start _ _ _ hown
            have hb1 : Below W.heap.size W wm := (Below.refl _ _).grown hgrow (Nat.le_refl _) (fun k e => by cases e)
            clear hown hgrow
            go_loopw [15] (fun i wr => ∃ q : Nat, i = .int .i64 (q : Int) ∧ q ≤ 4096 ∧ wr.ownsRow W.heap.size 3 1 (.slice (some ⟨W.heap.size, 0, none⟩) 4096 4096) 4096 ((fillTo N1L q 0).map (Value.int .i64)) ∧ Below W.heap.size W wr) (fun i wr => 4096 - (intOf i).toNat)
            case atStart => exact ⟨0, rfl, Nat.zero_le _, hown0, hb1⟩
            case round =>
              clear hown0 hb1
              obtain ⟨q, rfl, hq, hown, hb2⟩ := hrel
              by_cases hlt : q < 4096
              · have hk0 : (0 : Int) ≤ (q : Int) := by omega
                have hk1 : (q : Int) < 4096 := by omega
                obtain ⟨v0, hcc⟩ := own_cell hown (j := q) (by omega)
                have hfr := hown.frozenAt q
                have hown3 := Lib.hid ((hown.stored q (.int .i64 (-1))).1)
                rw [← List.map_set, fillTo_set (N1L_at hlt)] at hown3
                have hbz := hb2.setCell (p := ⟨W.heap.size, q, none⟩) (Nat.le_refl _) (.int .i64 (-1))
                go_wp2_with fail
                go_roundw
                case rel => exact ⟨q + 1, by go_num, by omega, hown3.out, hbz⟩
                case measure => simp [intOf]; omega
              · have hq4 : q = 4096 := by omega
                have hq5 : ¬ (q : Int) < 4096 := by omega
                rw [hq4, N1L_end] at hown
                replace hq4 := Lib.hid hq4
                clear hq hlt
                have hs0 : (0 : Int) ≤ (st : Int) := by omega
                have hs4 : (st : Int) < 4096 := by omega
                obtain ⟨v0, hcc⟩ := own_cell hown (j := st) (by omega)
                have hfr := hown.frozenAt st
                have hown3 := Lib.hid ((hown.stored st (.int .i64 0)).1)
                rw [← List.map_set, TL_one hsl] at hown3
                have hbz := hb2.setCell (p := ⟨W.heap.size, st, none⟩) (Nat.le_refl _) (.int .i64 0)
                go_wp2_with fail
                clear hcc hfr hown hb2
                generalize wr.setCell ⟨W.heap.size, st, none⟩ (.int .i64 0) = Wm at *
                go_loopw [14, 16] (fun mo i wr => ∃ (k g : Nat) (f : Tab), i = .int .i64 (k : Int) ∧ k ≤ M ∧ mo = .slice (some ⟨g, 0, none⟩) 4096 4096 ∧ MostT r 1000 bst (M - k) f ∧ wr.ownsRow W.heap.size 3 1 (.slice (some ⟨g, 0, none⟩) 4096 4096) 4096 ((TL f).map (Value.int .i64 ·)) ∧ Below W.heap.size W wr) (fun mo i wr => M - (intOf i).toNat)
                case atStart => exact ⟨0, _, _, rfl, Nat.zero_le _, rfl, hst.out, hown3.out, hbz⟩
                case round =>
                  clear hown3 hbz hs0 hs4
                  obtain ⟨kk, gm, f, rfl, hkk, rfl, hmost, hrm, hb⟩ := hrel
                  replace hmost := Lib.hid hmost
                  have k3r := k3.below hb
                  by_cases hlt : kk < M
                  · have hkk1 : (kk : Int) < (M : Int) := by omega
                    have hMk : Hid (M - kk = (M - (kk + 1)) + 1) := by show _ = _; omega
                    rw [hMk.out] at hmost
                    as_aux_lemma =>
                    obtain ⟨V, hV⟩ : ∃ x, x = wr := ⟨_, rfl⟩
                    rw [← hV] at hrm hb k3r
                    rw [← hV]
                    clear hV wr
                    go_wp2_with (at_make; refine wpList_make_full _ rfl _ _ 22 rfl W.heap.size 3 i0 (.int .i64 0) 1 Try.underlying22 hi0 hz0 hz1 _ _ _ _ 4096 rfl rfl rfl rfl hc1.out hc2.out hb.size ?_; intro wm hown hgrow)
                    have hgl := (hrm.lt gm rfl).2
                    have hbel : Below V.heap.size V wm := (Below.refl _ _).grown hgrow (Nat.le_refl _) (fun k e => by cases e)
                    have htt : TwoT wm W.heap.size gm V.heap.size (TL f) (fillTo N1L 0 0) := ⟨by omega, ownsRow_below hrm hbel, N1L_start _ _ _ hown⟩
                    have hbv := hb.trans (hbel.mono hb.size)
                    have hgn := hb.size
                    clear hown hgrow hrm hbel hb k3r
                    generalize V.heap.size = gn at *
                    clear V
                    go_loopw [18] (fun i wr => ∃ q : Nat, i = .int .i64 (q : Int) ∧ q ≤ 4096 ∧ TwoT wr W.heap.size gm gn (TL f) (fillTo N1L q 0) ∧ Below W.heap.size W wr) (fun i wr => 4096 - (intOf i).toNat)
                    case atStart => exact ⟨0, rfl, Nat.zero_le _, htt, hbv⟩
                    case round =>
                      clear htt hbv
                      obtain ⟨q, rfl, hq, htt, hb⟩ := hrel
                      by_cases hlt : q < 4096
                      · have hk0 : (0 : Int) ≤ (q : Int) := by omega
                        have hk1 : (q : Int) < 4096 := by omega
                        obtain ⟨⟨v0, hcc⟩, hfr, -, htt3⟩ := htt.store hlt (-1)
                        rw [fillTo_set (N1L_at hlt)] at htt3
                        replace htt3 := Lib.hid htt3
                        have hbz := hb.setCell (p := ⟨gn, q, none⟩) hgn (.int .i64 (-1))
                        clear htt
                        go_wp2_with fail
                        go_roundw
                        case rel => exact ⟨q + 1, by go_num, by omega, htt3.out, hbz⟩
                        case measure => simp [intOf]; omega
                      · have hq4 : q = 4096 := by omega
                        have hq5 : ¬ (q : Int) < 4096 := by omega
                        rw [hq4, N1L_end] at htt
                        replace hq4 := Lib.hid hq4
                        clear hq hlt
                        go_wp2_with fail
                        generalize hVV : wr = V at *
                        clear hVV wr
                        go_loopw [19] (fun i wr => ∃ (q : Nat) (g : Tab), i = .int .i64 (q : Int) ∧ q ≤ 4096 ∧ GoodT r 1000 bst (M - (kk + 1)) g ∧ SeenT r 1000 f (fromI q) g ∧ TwoT wr W.heap.size gm gn (TL f) (TL g) ∧ Below W.heap.size W wr) (fun i wr => 4096 - (intOf i).toNat)
                        case atStart => exact ⟨0, _, rfl, Nat.zero_le _, goodT_none _ _ _ _, seen_start _ _ _ _, htt, hb⟩
                        case round =>
                          clear htt hb
                          obtain ⟨q, g, rfl, hq, hgood, hseen, htt, hb⟩ := hrel
                          replace hgood := Lib.hid hgood
                          replace hseen := Lib.hid hseen
                          by_cases hlt : q < 4096
                          · have hk0 : (0 : Int) ≤ (q : Int) := by omega
                            have hk1 : (q : Int) < 4096 := by omega
                            cases hf : f q with
                            | none =>
                              have hcc := rowSlot htt.m (by omega) (TL_len f) (TL_at f hlt)
                              rw [hf] at hcc
                              have hseen2 := Lib.hid (seen_none hseen.out hf)
                              replace hcc : wr.cell? ⟨gm, q, none⟩ = some (.int .i64 (-1)) := hcc
                              clear hf
                              generalize hVV : wr = V2 at *
                              clear hVV wr
                              go_wp2_with fail
                              go_loopw [20] (fun x wr => x = .int .i64 0 ∧ wr = V2) (fun x wr => 0)
                              case atStart => exact ⟨rfl, rfl⟩
                              case round =>
                                obtain ⟨rfl, hwq⟩ := hrel
                                rw [hwq]
                                clear hwq wr
                                go_wp2_with fail
                                go_roundw
                                case rel => exact ⟨q + 1, g, by go_num, by omega, hgood.out, hseen2.out, htt, hb⟩
                                case measure => simp [intOf]; omega
                            | some v =>
                              have hcv : (TL f)[q]? = some (v : Int) := by rw [TL_at f hlt, hf]; rfl
                              have hv64 : v ≤ 64 := by have := most_val hmost.out hf; omega
                              have hsteps := Lib.hid (fun j hj => good_steps (r := r) hr.out hmost.out hf hgood.out j hj)
                              have hseen2 := Lib.hid (seen_some hseen.out hf)
                              replace hcv := Lib.hid hcv
                              clear hf hgood hseen
                              generalize hVV : wr = V2 at *
                              clear hVV wr
                              go_wp2_with fail
                              go_loopw [20] (fun x wr => ∃ j : Nat, x = .int .i64 (j : Int) ∧ j ≤ 2 ∧ TwoT wr W.heap.size gm gn (TL f) (TL (stepsT r 1000 q v g j)) ∧ Below W.heap.size W wr) (fun x wr => 2 - (intOf x).toNat)
                              case atStart => exact ⟨0, rfl, Nat.zero_le _, htt, hb⟩
                              case round =>
                                clear htt hb
                                obtain ⟨j, rfl, hj, htt, hb⟩ := hrel
                                have hcc := rowSlot htt.m (by omega) (TL_len f) hcv.out
                                have hv0 : (v : Int) ≥ 0 := by omega
                                by_cases hj2 : j < 2
                                · have hj3 : (j : Int) < 2 := by omega
                                  have hT2 : ((2 * (q : Int) + (j : Int)).tmod 4096) = (nextS q j : Nat) := by rw [Int.tmod_eq_emod_of_nonneg (by omega)]; unfold nextS; omega
                                  have hTb := nextS_lt q j
                                  have hyes := Lib.hid (fun h => steps_yes (r := r) (left := 1000) (s := q) (v := v) (k := j) (g := g) h (by omega))
                                  have hno := Lib.hid (fun h => steps_no (r := r) (left := 1000) (s := q) (v := v) (k := j) (g := g) h)
                                  have hmb : Hid (mayBe r (nextS q j) = (decide ((onesS (nextS q j) r.row.toNat : Int) < r.row) && decide ((onesS (nextS q j) r.win.toNat : Int) < r.many))) := rfl
                                  have ho1 := fun W => hone.out (nextS q j) r.row hTb (by omega) (by omega) W
                                  have ho2 := fun W => hone.out (nextS q j) r.win hTb (by omega) (by omega) W
                                  generalize onesS (nextS q j) r.row.toNat = o1 at *
                                  generalize onesS (nextS q j) r.win.toNat = o2 at *
                                  have u1 := IntWalk.i64_in (2 * (q : Int)) (by omega)
                                  have u2 := IntWalk.i64_in (2 * (q : Int) + (j : Int)) (by omega)
                                  have hGO := Lib.hid (hsteps.out j (by omega))
                                  generalize hTT : nextS q j = TT at *
                                  have u3 := IntWalk.i64_in (TT : Int) (by omega)
                                  replace hTT := Lib.hid hTT
                                  generalize hgj : stepsT r 1000 q v g j = gj at *
                                  replace hgj := Lib.hid hgj
                                  have k3r := k3.below hb
                                  obtain ⟨c3, f3, l3⟩ := k3r.rules
                                  by_cases c1 : (o1 : Int) < r.row
                                  · have c1' : decide ((o1 : Int) < r.row) = true := decide_eq_true c1
                                    by_cases c2 : (o2 : Int) < r.many
                                    · have c2' : decide ((o2 : Int) < r.many) = true := decide_eq_true c2
                                      have hstep := Lib.hid (hyes.out (by rw [hmb.out, c1', c2']; rfl))
                                      clear hyes hno hmb
                                      go_wp2_with fail
                                      go_quiet ((first | (go_at_call 106; with_reducible exact Calls.quiet_of_same (ho1 _)) | (go_at_call 106; with_reducible exact Calls.quiet_of_same (ho2 _)) | (go_at_call 106; with_reducible exact quiet_more (ho2 _))))
                                      go_wp2_with fail
                                      replace htt := htt.drewN nq
                                      replace hb := below_drewN hb nq
                                      replace hcc : (wr.drewN nq).cell? ⟨gm, q, none⟩ = some (.int .i64 (v : Int)) := hcc
                                      clear c3 f3 l3 k3r ho1 ho2
                                      generalize wr.drewN nq = V3 at *
                                      have hcn := rowSlot htt.n (by omega) (TL_len gj) (TL_at gj (by omega))
                                      have hTT0 : (0 : Int) ≤ (TT : Int) := by omega
                                      have hTT4 : (TT : Int) < 4096 := by omega
                                      have hgv : -1 ≤ tv (gj TT) ∧ tv (gj TT) ≤ 64 := by
                                        unfold tv
                                        cases he : gj TT with
                                        | none => simp
                                        | some o => have := good_val hGO.out he; dsimp only; omega
                                      have hput := TL_put gj (v + j) (show TT < 4096 by omega)
                                      have hmm := fun ats ty => (hmax ats ty (tv (gj TT)) ((v : Int) + (j : Int))).trans (by rw [show (v : Int) + (j : Int) = ((v + j : Nat) : Int) by omega])
                                      have u4 := IntWalk.i64_in ((v : Int) + (j : Int)) (by omega)
                                      generalize tv (gj TT) = tg at *
                                      generalize max tg ((v + j : Nat) : Int) = nv at *
                                      replace hput := Lib.hid hput
                                      replace hGO := Lib.hid hGO
                                      clear hmax
                                      refine wp_region_still_tail 14 (by kernel_rfl) (by kernel_rfl) ?_
                                      simp only [List.take_succ_cons, List.take_zero, List.drop_succ_cons, List.drop_zero]
                                      (iterate 14 still_step)
                                      apply still_end
                                      change wpList _ _ _ _ _ V3.drew
                                      replace htt : TwoT V3.drew W.heap.size gm gn (TL f) (TL gj) := ⟨htt.ne, htt.m, htt.n⟩
                                      replace hb := hb.drew
                                      clear hcc hcn
                                      generalize V3.drew = V4 at *
                                      obtain ⟨⟨v0, hcs⟩, hfr, -, htt3⟩ := htt.store (k := TT) (by omega) nv
                                      rw [hput.out] at htt3
                                      have hbz := hb.setCell (p := ⟨gn, TT, none⟩) hgn (.int .i64 nv)
                                      replace htt3 := Lib.hid htt3
                                      clear htt
                                      go_wp2_with fail
                                      go_roundw
                                      case rel => exact ⟨j + 1, by go_num, by omega, by rw [hstep.out]; exact htt3.out, hbz⟩
                                      case measure => simp [intOf]; omega
                                    · have c2' : decide ((o2 : Int) < r.many) = false := decide_eq_false c2
                                      have hstep := Lib.hid (hno.out (by rw [hmb.out, c1', c2']; rfl))
                                      clear hyes hno hmb
                                      go_wp2_with fail
                                      go_quiet ((first | (go_at_call 106; with_reducible exact Calls.quiet_of_same (ho1 _)) | (go_at_call 106; with_reducible exact Calls.quiet_of_same (ho2 _)) | (go_at_call 106; with_reducible exact quiet_more (ho2 _))))
                                      go_wp2_with fail
                                      go_roundw
                                      case rel => exact ⟨j + 1, by go_num, by omega, by rw [hstep.out]; exact htt.drewN _, below_drewN hb _⟩
                                      case measure => simp [intOf]; omega
                                  · have c1' : decide ((o1 : Int) < r.row) = false := decide_eq_false c1
                                    have hstep := Lib.hid (hno.out (by rw [hmb.out, c1']; rfl))
                                    clear hyes hno hmb ho2
                                    go_wp2_with fail
                                    go_quiet ((first | (go_at_call 106; with_reducible exact Calls.quiet_of_same (ho1 _)) | (go_at_call 106; with_reducible exact Calls.quiet_of_same (ho2 _)) | (go_at_call 106; with_reducible exact quiet_more (ho2 _))))
                                    go_wp2_with fail
                                    go_roundw
                                    case rel => exact ⟨j + 1, by go_num, by omega, by rw [hstep.out]; exact htt.drewN _, below_drewN hb _⟩
                                    case measure => simp [intOf]; omega
                                · have hj4 : j = 2 := by omega
                                  have hj5 : ¬ (j : Int) < 2 := by omega
                                  rw [hj4] at htt
                                  replace hj4 := Lib.hid hj4
                                  clear hj hj2
                                  go_wp2_with fail
                                  go_roundw
                                  case rel => exact ⟨q + 1, _, by go_num, by omega, hsteps.out 2 (Nat.le_refl _), hseen2.out, htt, hb⟩
                                  case measure => simp [intOf]; omega
                          · have hq4 : q = 4096 := by omega
                            have hq5 : ¬ (q : Int) < 4096 := by omega
                            have hseen4 := hseen.out
                            rw [hq4] at hseen4
                            have hnext := Lib.hid (most_next hr.out hmost.out hgood.out hseen4)
                            replace hq4 := Lib.hid hq4
                            clear hq hlt hseen4
                            go_wp2_with fail
                            go_roundw
                            case rel => exact ⟨kk + 1, gn, g, by go_num, by omega, rfl, hnext.out, htt.n, hb⟩
                            case measure => simp [intOf]; omega
                  · obtain rfl : kk = M := by omega
                    rw [Nat.sub_self] at hmost
                    have hmx := Lib.hid (mxT_end hmost.out)
                    obtain ⟨c3, f3, l3⟩ := k3r.rules
                    go_wp2_with fail
                    go_loopw [22, 23] (fun bb i wq => ∃ q : Nat, i = .int .i64 (q : Int) ∧ q ≤ 4096 ∧ bb = .int .i64 (mxT f q : Nat) ∧ wq = wr) (fun bb i wq => 4096 - (intOf i).toNat)
                    case atStart => exact ⟨0, rfl, Nat.zero_le _, rfl, rfl⟩
                    case round =>
                      obtain ⟨q, rfl, hq, rfl, hwq⟩ := hrel
                      rw [hwq]
                      clear hwq
                      by_cases hlt : q < 4096
                      · have hk0 : (0 : Int) ≤ (q : Int) := by omega
                        have hk1 : (q : Int) < 4096 := by omega
                        have hcc := rowSlot hrm (by omega) (TL_len f) (TL_at f hlt)
                        have hnx := Lib.hid (mxT_succ f q)
                        go_wp2_with fail
                        go_roundw
                        case rel => exact ⟨q + 1, by go_num, by omega, by rw [hnx.out], by first | rfl | trivial⟩
                        case measure => simp [intOf]; omega
                      · have hq4 : q = 4096 := by omega
                        have hq5 : ¬ (q : Int) < 4096 := by omega
                        rw [hq4, hmx.out]
                        replace hq4 := Lib.hid hq4
                        clear hq hlt
                        have u1 := IntWalk.i64_in (r.total - 1) (by omega)
                        have u2 := IntWalk.i64_in (r.total - 1 - (ct : Int)) (by omega)
                        have hmn := fun ats ty => (hmin ats ty (bst : Int) (r.total - 1 - (ct : Int))).trans (by rw [hend.out])
                        clear hmin
                        go_wp2_with fail
                        go_ret2
                        exact ⟨rfl, b.trans (hb.mono b.size)⟩
      · rw [if_neg hj]
        generalize (judgeS r l).1 = j1 at *
        generalize (judgeS r l).2 = j2 at *
        have hz2 : (j2 != 0) = true := by rw [bne_iff_ne]; exact hj
        replace hj := Lib.hid hj
        clear hr hok her hm
        go_enter Try.func48, Try.ntmps48
        go_wp2_with fail
        rw [← hw1]
        clear hw1
        obtain ⟨c3, f3, l3⟩ := k3.rules
        go_wp2_with fail
        refine (h1 _ hs1).mono ?_
        rintro e W ⟨rfl, hb⟩
        clear c3 f3 l3
        replace k3 := k3.below hb
        replace b := b.trans (hb.mono b.size)
        replace hs1 := hs1.below hb
        clear hb
        go_wp2_with fail
        refine (hB _).mono ?_
        rintro e w' ⟨rfl, rfl⟩
        obtain ⟨c3, f3, l3⟩ := k3.rules
        go_wp2_with fail
        refine (h2 _ hs1).mono ?_
        rintro e Wj ⟨rfl, hb⟩
        go_wp2_with fail
        go_ret2
        exact ⟨rfl, b.trans (hb.mono b.size)⟩
    · rw [if_neg hm]
      have hB := fun W => btwN hm W
      clear hr hok her hm
      go_enter Try.func48, Try.ntmps48
      go_wp2_with fail
      rw [← hw1]
      clear hw1
      obtain ⟨c3, f3, l3⟩ := k3.rules
      go_wp2_with fail
      refine (h1 _ hs1).mono ?_
      rintro e W ⟨rfl, hb⟩
      clear c3 f3 l3
      replace k3 := k3.below hb
      replace b := b.trans (hb.mono b.size)
      replace hs1 := hs1.below hb
      clear hb
      go_wp2_with fail
      refine (hB _).mono ?_
      rintro e w' ⟨rfl, rfl⟩
      go_wp2_with fail
      go_ret2
      exact ⟨rfl, b⟩
  · rw [if_neg her]
    generalize errJ r l 1 = q at *
    have hz2 : (q != 0) = true := by rw [bne_iff_ne]; exact her
    replace her := Lib.hid her
    go_enter Try.func48, Try.ntmps48
    go_wp2_with fail
    rw [← hw1]
    clear hw1
    obtain ⟨c3, f3, l3⟩ := k3.rules
    go_wp2_with fail
    refine (h1 _ hs1).mono ?_
    rintro e W ⟨rfl, hb⟩
    clear c3 f3 l3
    replace k3 := k3.below hb
    replace b := b.trans (hb.mono b.size)
    replace hs1 := hs1.below hb
    clear hb
    go_wp2_with fail
    go_ret2
    exact ⟨rfl, b⟩
end Go.Proofs.Ytfengddpfeneiaa
