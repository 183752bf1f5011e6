/-
  Shots, walks: Allow: how many bad ones there may be among further shots, by a table of states that is ranged over in whatever order.
-/
import Derived.Test.YtcmbmmpihiekhaaGreatS14
set_option maxRecDepth 100000
set_option maxHeartbeats 16000000
set_option linter.unusedSimpArgs false
set_option linter.unusedVariables false
namespace Go.Proofs.YtcmbmmpihiekhaaGreat
open Go.RowKit Go.Shelf

theorem stateS_take {l : List Int} {k : Nat} {x : Int} (h : l[k]? = some x) : stateS (l.take (k + 1)) = nextS (stateS (l.take k)) x.toNat := by
  rw [List.take_add_one, h]; exact stateS_snoc _ _
theorem Allow_any (r : Rul) (l : List Int) (m : Int) (A : Option Addr) (n c B : Nat) (w : World) (hs : SlAt w B 1 ivs A n c l) :
    Calls Tryz.prog 26 #[.agg #[.int .i64 r.row, .int .i64 r.win, .int .i64 r.many, .int .i64 r.total], .slice A n c, .int .i64 m] w fun e w' => e = .returned (.tuple #[.int .i64 (allowR r l m).1, .int .i64 (allowR r l m).2]) ∧ Below w.heap.size w w' := by
  have h1 := fun W h => ruled_any r l A n c B W h
  obtain ⟨w1, hw1⟩ : ∃ w1, w1 = w.alloc (.cells #[.int .i64 r.row, .int .i64 r.win, .int .i64 r.many, .int .i64 r.total] 97) := ⟨_, rfl⟩
  have k3 : Blk w1 w.heap.size 97 #[.int .i64 r.row, .int .i64 r.win, .int .i64 r.many, .int .i64 r.total] := by rw [hw1]; exact Blk.new _ _ _
  have b : Below w.heap.size w w1 := by rw [hw1]; exact (Below.refl _ _).alloc (Nat.le_refl _) _
  have hs1 : SlAt w1 B 1 ivs A n c l := by rw [hw1]; exact hs.alloc _
  have hl := Lib.hid hs.len
  have hs0 := Lib.hid hs
  clear hs
  unfold allowR
  by_cases her : errJ r l 1 = 0
  · rw [if_pos her]
    have hr : okRul r = true := by unfold errJ at her; split at her; assumption; cases her
    have hres : okRes l 1 = true := by
      unfold errJ at her; rw [if_pos hr] at her; split at her; assumption; cases her
    have h2 := fun W h => judge_any r hr l A n c B W h
    rw [her] at h1
    by_cases hm : 0 ≤ m ∧ m ≤ 64
    · rw [if_pos hm]
      have hw := fun W => sWithin_yes hm W
      by_cases hj : (judgeS r l).2 = 0
      · rw [if_pos hj]
        have hok := Lib.hid (state_ok hr (isRes_of hres).1 hj)
        have hisr := Lib.hid (isRes_of hres)
        have hn256 : n ≤ 256 := by have := hisr.out.2; rw [hl.out] at this; exact this
        obtain ⟨j1, hj1⟩ : ∃ j1, (judgeS r l).1 = j1 := ⟨_, rfl⟩
        rw [hj, hj1] at h2
        clear hj hj1
        obtain ⟨p1, p2, p3, p4, p5, p6, p7, p8⟩ := okRul_is hr
        replace hres := Lib.hid hres
        replace her := Lib.hid her
        obtain ⟨hm1, hm2⟩ := hm
        obtain ⟨mn, rfl⟩ : ∃ mn : Nat, m = mn := ⟨m.toNat, by omega⟩
        have hmm := @run_makeMap Tryz.prog
        go_enter Tryz.func26, Tryz.ntmps26
        go_wp2_with fail
        rw [← hw1]
        clear hw1
        obtain ⟨c3, f3, l3⟩ := k3.rules
        go_wp2_with fail
        refine (h1 _ hs1).mono ?_
        rintro e W ⟨rfl, hb⟩
        clear c3 f3 l3 h1
        replace k3 := k3.below hb
        replace b := b.trans (hb.mono b.size)
        replace hs1 := hs1.below hb
        clear hb
        go_wp2_with fail
        refine (hw _).mono ?_
        rintro e w' ⟨rfl, rfl⟩
        obtain ⟨c3, f3, l3⟩ := k3.rules
        go_wp2_with fail
        refine (h2 _ hs1).mono ?_
        rintro e W2 ⟨rfl, hb⟩
        clear c3 f3 l3 h2 hw
        replace k3 := k3.below hb
        have hg11 : w.heap.size < W2.heap.size := k3.lt
        have k11 := (Blk.new W2 143 #[.int .i64 0])
        replace k3 := k3.alloc (.cells #[.int .i64 0] 143)
        replace b := (b.trans (hb.mono b.size))
        replace b := b.alloc b.size (.cells #[.int .i64 0] 143)
        clear hb hs1
        go_wp2_with fail
        generalize W2.alloc (.cells #[.int .i64 0] 143) = W3 at *
        generalize W2.heap.size = g11 at *
        go_loopw [46] (fun i wr => ∃ k : Nat, i = .int .i64 (k : Int) ∧ k ≤ n ∧ Blk wr g11 143 #[.int .i64 (stateS (l.take k) : Nat)] ∧ Blk wr w.heap.size 97 #[.int .i64 r.row, .int .i64 r.win, .int .i64 r.many, .int .i64 r.total] ∧ Below w.heap.size w wr) (fun i wr => n - (intOf i).toNat)
        case atStart => exact ⟨0, rfl, Nat.zero_le _, k11, k3, b⟩
        case round =>
          obtain ⟨k, rfl, hk, k11, k3, b⟩ := hrel
          have hs1 := hs0.out.below b
          by_cases hlt : k < n
          · have hk0 : (0 : Int) ≤ (k : Int) := by omega
            have hk1 : (k : Int) < (n : Int) := by omega
            obtain ⟨x, hx⟩ := some_of_lt hl.out hlt
            obtain ⟨bb, oo, hA, -, hbl, e0⟩ := hs1.int hx
            subst hA
            have hst := Lib.hid (stateS_take hx)
            have hx01 := hisr.out.1 x (List.mem_of_getElem? hx)
            obtain ⟨xn, hxn⟩ : ∃ xn : Nat, x = xn := ⟨x.toNat, by omega⟩
            subst hxn
            rw [Int.toNat_natCast] at hst
            have hsl := stateS_lt (l.take k)
            have hnx := fun s hs W => next_any r hr s xn hs (by omega) W
            generalize stateS (l.take k) = s at *
            replace hx := Lib.hid hx
            clear hx01
            obtain ⟨c3, f3, l3⟩ := k3.rules
            obtain ⟨c11, f11, l11⟩ := k11.rules
            clear hs1
            go_wp2_with fail
            refine (hnx s hsl _).mono ?_
            rintro e W ⟨rfl, hb⟩
            clear c3 f3 l3 c11 f11 l11 hnx
            replace k3 := k3.below hb
            replace k11 := k11.below hb
            replace b := b.trans (hb.mono b.size)
            clear hb
            obtain ⟨c11, f11, l11⟩ := k11.rules
            go_wp2_with fail
            clear c11 f11 l11
            go_roundw
            case rel => exact ⟨k + 1, by go_num, by omega, by rw [hst.out]; exact k11.set_ 0 _, k3.far (by dsimp only; omega) _, b.setCell (by dsimp only; omega) _⟩
            case measure => simp [intOf]; omega
          · obtain rfl : k = n := by omega
            rw [List.take_of_length_le (by rw [hl.out]; exact Nat.le_refl _)] at k11
            have hsl := stateS_lt l
            obtain ⟨cl, hcl⟩ : ∃ cl, cnt l = cl := ⟨_, rfl⟩
            have hbad := fun W (h : SlAt W B 1 ivs A k c l) => flip_w (bad_all l A k c B 0 (k : Int) W (Int.le_refl _) (by omega) (Int.le_refl _) (.inr rfl) h)
            rw [show badS l 0 (k : Int) = (cl : Int) from by rw [← hl.out, badS_all, hcl]] at hbad
            have hok2 := hok.out
            rw [hcl] at hok2
            have hcl1 := hok2.2
            have hst := hok2.1
            clear hok2
            have hall : Hid (allowS r l (mn : Int) = bestS r mn (stateS l) (r.total - 1 - (cl : Int)).toNat) := by show _ = _; unfold allowS; rw [hcl, Int.toNat_natCast]
            have hstart := mostT_start r (left := (r.total - 1 - (cl : Int)).toNat) (n := mn) hsl hst
            obtain ⟨LF, hLF⟩ : ∃ LF : Nat, r.total - 1 - (cl : Int) = LF := ⟨(r.total - 1 - (cl : Int)).toNat, by omega⟩
            rw [hLF, Int.toNat_natCast] at hall hstart
            have hLFb : LF ≤ 256 := by omega
            generalize bestS r mn (stateS l) LF = best at *
            generalize stateS l = s0 at *
            have u1 := IntWalk.i64_in (r.total - 1) (by omega)
            have u2 := IntWalk.i64_in (r.total - 1 - (cl : Int)) (by omega)
            rw [hLF] at u2
            replace hcl := Lib.hid hcl
            replace hok := hok.out.2
            obtain ⟨c3, f3, l3⟩ := k3.rules
            obtain ⟨c11, f11, l11⟩ := k11.rules
            go_wp2_with fail
            go_quiet ((go_at_call 61; exact Calls.quiet_of_same (hbad _ hs1)))
            clear c3 f3 l3 c11 f11 l11 hbad hs1 u1 u2
            have hbd := below_drewN (Below.refl wr.heap.size wr) nq
            replace k3 := k3.below hbd
            replace k11 := k11.below hbd
            replace b := b.trans (hbd.mono b.size)
            clear hbd
            generalize wr.drewN nq = W4 at *
            have hmade := SMap.made W4
            have hbm : w.heap.size < W4.heap.size := k3.lt
            have hbz := b.size
            replace b := b.alloc hbz (.map #[] 0)
            replace k3 := k3.alloc (.map #[] 0)
            replace k11 := k11.alloc (.map #[] 0)
            obtain ⟨c11, f11, l11⟩ := k11.rules
            go_wp2_with (refine wpList_tabPut rfl (.tmp 66) (.tmp 67) (.const (.int .i64 0)) (.inr rfl) hmade (s := s0) (n := 0) hsl (by omega) rfl rfl rfl ?_; intro w5 hm5 hg5)
            clear c11 f11 l11
            replace k3 := k3.grown hg5 (by simp; omega)
            replace b := b.grown hg5 (by simp; omega) (fun j e => by simp at e; omega)
            clear k11 hmade hg11 hbz
            generalize W4.heap.size = bm at *
            go_loopw [15, 70] (fun mp i wr => ∃ (k bm : Nat) (f : Tab), i = .int .i64 (k : Int) ∧ mp = .map (some bm) ∧ k ≤ mn ∧ w.heap.size < bm ∧ SMap wr bm f ∧ MostT r LF best (mn - k) f ∧ Blk wr w.heap.size 97 #[.int .i64 r.row, .int .i64 r.win, .int .i64 r.many, .int .i64 r.total] ∧ Below w.heap.size w wr) (fun mp i wr => mn - (intOf i).toNat)
            case atStart => exact ⟨0, bm, _, rfl, rfl, Nat.zero_le _, hbm, hm5, hstart, k3, b⟩
            case round =>
              clear hstart hm5 k3 b hg5 hbm
              obtain ⟨q, bm, f, rfl, rfl, hq, hbm, hmf, hmost, k3, b⟩ := hrel
              by_cases hlt : q < mn
              · have hmb := hmf.lt
                obtain ⟨rest, hrest⟩ : ∃ rest, mn - q = rest + 1 := ⟨mn - q - 1, by omega⟩
                rw [hrest] at hmost
                have hrest2 : mn - (q + 1) = rest := by omega
                replace hrest := Lib.hid hrest
                generalize wr = Wa at *
                have hmadeN := SMap.made Wa
                replace hmf := hmf.alloc (.map #[] 0)
                replace k3 := k3.alloc (.map #[] 0)
                replace b := b.alloc b.size (.map #[] 0)
                go_wp2_with (at_range; refine wpList_tabRange rfl (.tmp 73) rfl hmf rfl ?_; intro w6 hrg hg6 hs6)
                go_frame
                have hbn := hmadeN.lt
                replace hmadeN := hmadeN.kept hg6 (by simp)
                replace k3 := k3.grown hg6 (by simp)
                replace b := b.grown hg6 b.size (fun j e => by cases e)
                have hgN : w.heap.size < Wa.heap.size := by omega
                have hne1 : bm ≠ Wa.heap.size := by omega
                have hsz : (Wa.alloc (.map #[] 0)).heap.size = Wa.heap.size + 1 := by simp
                rw [hsz] at hrg hs6 ⊢
                clear hsz hg6 hbn
                generalize Wa.heap.size = bn at *
                clear hmf
                have hseen : SeenT r LF f (hasT f) (fun _ => none) := seenT_start r LF (fun s v h => by unfold hasT; rw [h]; rfl) _
                have hgood : GoodT r LF best rest (fun _ => none) := goodT_none r LF best rest
                go_loopw [18] (fun _ wr => ∃ (lf : Nat → Bool) (cnt : Nat) (g : Tab), TRange wr bm (bn + 1) f lf cnt ∧ SMap wr bn g ∧ GoodT r LF best rest g ∧ SeenT r LF f lf g ∧ Blk wr w.heap.size 97 #[.int .i64 r.row, .int .i64 r.win, .int .i64 r.many, .int .i64 r.total] ∧ Below w.heap.size w wr) (fun _ wr => wr.rangeLeft bm (bn + 1))
                case atStart => exact ⟨_, _, _, hrg, hmadeN, hgood, hseen, k3, b⟩
                case round =>
                  clear hrg hmadeN hgood hseen k3 b hs6
                  obtain ⟨lf, cnt, g, hrg, hmg, hgood, hseen, k3, b⟩ := hrel
                  have hlfm := hrg.left_eq
                  replace hlfm := Lib.hid hlfm
                  go_wp2_with (at_next; refine wpList_tabNext rfl (.tmp 74) rfl hrg rfl ?_ ?_)
                  · intro hl0
                    have hmost2 := mostT_next hr hmost hgood hseen (fun s v h => hl0 s (hmost.ok s v h).1)
                    replace hl0 := Lib.hid hl0
                    go_wp2_with fail
                    go_roundw
                    case rel => exact ⟨q + 1, bn, g, by go_num, rfl, by omega, hgN, hmg, by rw [hrest2]; exact hmost2, k3, b⟩
                    case measure => simp [intOf]; omega
                  · intro s v w7 cnt7 hs4 hf7 hlf7 hrg7 hlt7 hg7 hz7 hen
                    obtain ⟨-, hsm, hvl, htop⟩ := hmost.ok s v hf7
                    have hrl := hrg.lt
                    have hrg7lt := hrg7.lt
                    have hml := hmg.lt
                    replace hmg := hmg.kept hg7 (by simp)
                    replace k3 := k3.grown hg7 (by simp; omega)
                    replace b := b.grown hg7 b.size (fun j e => by simp at e; omega)
                    have hseen7 := fun lf' h => seenT_step (s := s) (v := v) (lf' := lf') hseen hf7 h
                    have hgst := fun x hx => goodT_steps (v := v) hr hgood hsm hvl htop x hx
                    replace hseen7 := Lib.hid hseen7
                    replace hgst := Lib.hid hgst
                    clear hrg hz7 hrl
                    have k17 := Blk.new w7 143 #[.int .i64 (s : Int)]
                    have hb17 := b.size
                    have k3lt := k3.lt
                    replace k3 := k3.alloc (.cells #[.int .i64 (s : Int)] 143)
                    replace hmg := hmg.alloc (.cells #[.int .i64 (s : Int)] 143)
                    replace hrg7 := hrg7.alloc (.cells #[.int .i64 (s : Int)] 143)
                    replace b := b.alloc hb17 (.cells #[.int .i64 (s : Int)] 143)
                    replace hf7 := Lib.hid hf7
                    replace hlf7 := Lib.hid hlf7
                    replace hgood := Lib.hid hgood
                    replace hmost := Lib.hid hmost
                    replace hseen := Lib.hid hseen
                    go_wp2_with fail
                    have hg17 : w.heap.size < w7.heap.size := by omega
                    have hg17b : bn + 1 < w7.heap.size := hrg7lt
                    have hr2 := hrg7.lt
                    generalize w7.alloc (.cells #[.int .i64 (s : Int)] 143) = w8 at *
                    generalize w7.heap.size = g17 at *
                    obtain ⟨lf7, hlf7e⟩ : ∃ lf7 : Nat → Bool, lf7 = fun t => (lf t && !decide (t = s)) := ⟨_, rfl⟩
                    rw [← hlf7e] at hrg7
                    have hlf2 : ∀ t, lf7 t = (lf t && !decide (t = s)) := fun t => congrFun hlf7e t
                    clear hlf7e
                    replace hlf2 := Lib.hid hlf2
                    go_loopw [80] (fun i wr => ∃ x : Nat, i = .int .i64 (x : Int) ∧ x ≤ 2 ∧ TRange wr bm (bn + 1) f lf7 cnt7 ∧ SMap wr bn (stepsT r LF s v g x) ∧ Blk wr g17 143 #[.int .i64 (s : Int)] ∧ Blk wr w.heap.size 97 #[.int .i64 r.row, .int .i64 r.win, .int .i64 r.many, .int .i64 r.total] ∧ Below w.heap.size w wr) (fun i wr => 2 - (intOf i).toNat)
                    case atStart => exact ⟨0, rfl, by omega, hrg7, hmg, k17, k3, b⟩
                    case round =>
                      clear hrg7 hmg k17 k3 b
                      obtain ⟨x, rfl, hx, hrg7, hmg, k17, k3, b⟩ := hrel
                      by_cases hlt2 : x < 2
                      · have hnx := fun W => next_any r hr s x hs4 hlt2 W
                        obtain ⟨T, hT⟩ : ∃ T, nextS s x = T := ⟨_, rfl⟩
                        have hTb : T < 4096 := by rw [← hT]; exact nextS_lt _ _
                        have hstep : Hid (stepsT r LF s v g (x + 1) = stepT r LF s v x (stepsT r LF s v g x)) := by show _ = _; rfl
                        unfold stepT at hstep
                        rw [hT] at hnx hstep
                        replace hT := Lib.hid hT
                        generalize stepsT r LF s v g x = gx at *
                        have uv := IntWalk.i64_in ((v : Int) + (x : Int)) (by omega)
                        obtain ⟨c3, f3, l3⟩ := k3.rules
                        obtain ⟨c17, f17, l17⟩ := k17.rules
                        generalize mayBe r T = mb at *
                        go_wp2_with fail
                        refine (hnx _).mono ?_
                        rintro e W ⟨rfl, hb⟩
                        clear c3 f3 l3 c17 f17 l17 hnx
                        replace k3 := k3.below hb
                        replace k17 := k17.below hb
                        replace hmg := hmg.below' hb
                        replace hrg7 := hrg7.below' hb
                        replace b := b.trans (hb.mono b.size)
                        clear hb
                        have hgT : w.heap.size < W.heap.size := k3.lt
                        have kT := Blk.new W 143 #[.int .i64 (T : Int)]
                        replace k3 := k3.alloc (.cells #[.int .i64 (T : Int)] 143)
                        replace k17 := k17.alloc (.cells #[.int .i64 (T : Int)] 143)
                        replace hmg := hmg.alloc (.cells #[.int .i64 (T : Int)] 143)
                        replace hrg7 := hrg7.alloc (.cells #[.int .i64 (T : Int)] 143)
                        replace b := b.alloc b.size (.cells #[.int .i64 (T : Int)] 143)
                        go_upto_region 27 with fail
                        have hlT := kT.lt
                        generalize W.alloc (.cells #[.int .i64 (T : Int)] 143) = Wt at *
                        generalize W.heap.size = gT at *
                        cases mb with
                        | false =>
                          have hnew : Hid (stepsT r LF s v g (x + 1) = gx) := by show _ = _; rw [hstep.out, if_neg (by simp)]
                          clear hstep
                          go_wp2_with fail
                          go_roundw
                          case rel => exact ⟨x + 1, by go_num, by omega, hrg7, by rw [hnew.out]; exact hmg, k17, k3, b⟩
                          case measure => simp [intOf]; omega
                        | true =>
                          by_cases hle : v + x ≤ LF
                          · have hle2 : ¬ (v : Int) + (x : Int) > (LF : Int) := by omega
                            have hle3 : (v : Int) + (x : Int) ≤ (LF : Int) := by omega
                            have hnew : Hid (stepsT r LF s v g (x + 1) = putMax gx T (v + x)) := by show _ = _; rw [hstep.out, if_pos ⟨rfl, hle⟩]
                            clear hstep
                            cases hgx : gx T with
                            | none =>
                              have hnew2 : Hid (stepsT r LF s v g (x + 1) = updT gx T (v + x)) := by show _ = _; rw [hnew.out, putMax_none hgx]
                              clear hnew
                              have hlk := hmg.look_none hTb hgx
                              obtain ⟨cT, fT, lT⟩ := kT.rules
                              go_wp2_with (refine wpList_tabPut rfl (.tmp 114) (.tmp 115) (.tmp 118) (.inl rfl) hmg (s := T) (n := v + x) hTb (by omega) rfl rfl (by rfl) ?_; intro w9 hm9 hg9)
                              go_roundw
                              case rel => exact ⟨x + 1, by go_num, by omega, hrg7.kept hg9 (by simp; omega) (by simp), by rw [hnew2.out]; exact hm9, k17.grown hg9 (by simp; omega), k3.grown hg9 (by simp; omega), b.grown hg9 b.size (fun j e => by simp at e; omega)⟩
                              case measure => simp [intOf]; omega
                            | some ov =>
                              have hlk := hmg.look_some hTb hgx
                              by_cases hlt4 : ov < v + x
                              · have hlt5 : (v : Int) + (x : Int) > (ov : Int) := by omega
                                have hnew2 : Hid (stepsT r LF s v g (x + 1) = updT gx T (v + x)) := by show _ = _; rw [hnew.out, putMax_gt hgx (by omega)]
                                clear hnew
                                obtain ⟨cT, fT, lT⟩ := kT.rules
                                go_wp2_with (refine wpList_tabPut rfl (.tmp 114) (.tmp 115) (.tmp 118) (.inl rfl) hmg (s := T) (n := v + x) hTb (by omega) rfl rfl (by rfl) ?_; intro w9 hm9 hg9)
                                go_roundw
                                case rel => exact ⟨x + 1, by go_num, by omega, hrg7.kept hg9 (by simp; omega) (by simp), by rw [hnew2.out]; exact hm9, k17.grown hg9 (by simp; omega), k3.grown hg9 (by simp; omega), b.grown hg9 b.size (fun j e => by simp at e; omega)⟩
                                case measure => simp [intOf]; omega
                              · have hlt5 : ¬ (v : Int) + (x : Int) > (ov : Int) := by omega
                                have hlt6 : (v : Int) + (x : Int) ≤ (ov : Int) := by omega
                                have hnew2 : Hid (stepsT r LF s v g (x + 1) = gx) := by show _ = _; rw [hnew.out, putMax_le hgx (by omega)]
                                clear hnew
                                obtain ⟨cT, fT, lT⟩ := kT.rules
                                replace hgx := Lib.hid hgx
                                go_wp2_with fail
                                go_roundw
                                case rel => exact ⟨x + 1, by go_num, by omega, hrg7, by rw [hnew2.out]; exact hmg, k17, k3, b⟩
                                case measure => simp [intOf]; omega
                          · have hle2 : (v : Int) + (x : Int) > (LF : Int) := by omega
                            have hnew : Hid (stepsT r LF s v g (x + 1) = gx) := by show _ = _; rw [hstep.out, if_neg (by omega)]
                            clear hstep
                            go_wp2_with fail
                            go_roundw
                            case rel => exact ⟨x + 1, by go_num, by omega, hrg7, by rw [hnew.out]; exact hmg, k17, k3, b⟩
                            case measure => simp [intOf]; omega
                      · obtain rfl : x = 2 := by omega
                        go_wp2_with fail
                        go_roundw
                        case rel => exact ⟨lf7, cnt7, _, hrg7, hmg, hgst.out 2 (by omega), hseen7.out lf7 hlf2.out, k3, b⟩
                        case measure => rw [hrg7.left_eq, hlfm.out]; exact hlt7
              · obtain rfl : q = mn := by omega
                rw [Nat.sub_self] at hmost
                have hbst : best ≤ 256 := by
                  obtain ⟨s, v, h3, h4⟩ := hmost.hit
                  rw [topS_zero] at h4
                  have := (hmost.ok s v h3).2.2.1
                  omega
                have hmax := max2_int
                generalize wr = Wa at *
                have hmb := hmf.lt
                go_wp2_with (at_range; refine wpList_tabRange rfl (.tmp 122) rfl hmf rfl ?_; intro w6 hrg hg6 hs6)
                go_frame
                replace k3 := k3.grown hg6 (by simp)
                replace b := b.grown hg6 b.size (fun j e => by cases e)
                have hbw := b.size
                generalize Wa.heap.size = rr at *
                clear hmf hg6 hs6
                go_loopw [24] (fun bs wr => ∃ (lf : Nat → Bool) (cnt bb : Nat), bs = .int .i64 (bb : Int) ∧ bb ≤ best ∧ TRange wr bm rr f lf cnt ∧ (∀ s v, f s = some v → lf s = false → v ≤ bb) ∧ Below w.heap.size w wr) (fun _ wr => wr.rangeLeft bm rr)
                case atStart => exact ⟨_, _, 0, rfl, Nat.zero_le _, hrg, (fun s v h hlf => by unfold hasT at hlf; rw [h] at hlf; cases hlf), b⟩
                case round =>
                  clear hrg k3 b
                  obtain ⟨lf, cnt, bb, rfl, hbb, hrg, hsn, b⟩ := hrel
                  have hlfm := Lib.hid hrg.left_eq
                  replace hsn := Lib.hid hsn
                  go_wp2_with (at_next; refine wpList_tabNext rfl (.tmp 123) rfl hrg rfl ?_ ?_)
                  · intro hl0
                    have hfin := mostT_end hmost hbb hsn.out (fun s v h => hl0 s (hmost.ok s v h).1)
                    replace hl0 := Lib.hid hl0
                    subst hfin
                    go_wp2_with fail
                    go_ret2
                    exact ⟨by rw [hall.out]; rfl, b⟩
                  · intro s v w7 cnt7 hs4 hf7 hlf7 hrg7 hlt7 hg7 hz7 hen
                    have hvb := mostT_le hmost hf7
                    have hrl := hrg.lt
                    replace b := b.grown hg7 b.size (fun j e => by simp at e; omega)
                    have hmx : max (bb : Int) (v : Int) = ((max bb v : Nat) : Int) := by omega
                    replace hf7 := Lib.hid hf7
                    replace hlf7 := Lib.hid hlf7
                    have hm0 := Lib.hid hmost
                    clear hmost
                    go_wp2_with fail
                    go_roundw
                    case rel =>
                      refine ⟨_, cnt7, max bb v, rfl, by omega, hrg7, fun s2 v2 h1 h2 => ?_, b⟩
                      by_cases e : s2 = s
                      · subst e
                        obtain rfl : v2 = v := Option.some.inj (h1.symm.trans hf7.out)
                        omega
                      · have h3 : lf s2 = false := by simpa [e] using h2
                        have := hsn.out s2 v2 h1 h3
                        omega
                    case measure => rw [hrg7.left_eq, hlfm.out]; exact hlt7
      · rw [if_neg hj]
        obtain ⟨j1, hj1⟩ : ∃ j1, (judgeS r l).1 = j1 := ⟨_, rfl⟩
        obtain ⟨j2, hj2⟩ : ∃ j2, (judgeS r l).2 = j2 := ⟨_, rfl⟩
        rw [hj2] at hj
        rw [hj1, hj2] at h2
        have hz : (j2 != 0) = true := by rw [bne_iff_ne]; exact hj
        clear hj1 hj2
        replace hj := Lib.hid hj
        replace hres := Lib.hid hres
        replace her := Lib.hid her
        go_enter Tryz.func26, Tryz.ntmps26
        go_wp2_with fail
        rw [← hw1]
        clear hw1
        obtain ⟨c3, f3, l3⟩ := k3.rules
        go_wp2_with fail
        refine (h1 _ hs1).mono ?_
        rintro e W ⟨rfl, hb⟩
        clear c3 f3 l3 h1
        replace k3 := k3.below hb
        replace b := b.trans (hb.mono b.size)
        replace hs1 := hs1.below hb
        clear hb
        go_wp2_with fail
        refine (hw _).mono ?_
        rintro e w' ⟨rfl, rfl⟩
        obtain ⟨c3, f3, l3⟩ := k3.rules
        go_wp2_with fail
        refine (h2 _ hs1).mono ?_
        rintro e W2 ⟨rfl, hb⟩
        clear c3 f3 l3 h2 hw
        go_wp2_with fail
        go_ret2
        exact ⟨rfl, b.trans (hb.mono b.size)⟩
    · rw [if_neg hm]
      have hw := fun W => sWithin_no hm W
      replace hm := Lib.hid hm
      replace hres := Lib.hid hres
      replace her := Lib.hid her
      clear h2
      go_enter Tryz.func26, Tryz.ntmps26
      go_wp2_with fail
      rw [← hw1]
      clear hw1
      obtain ⟨c3, f3, l3⟩ := k3.rules
      go_wp2_with fail
      refine (h1 _ hs1).mono ?_
      rintro e W ⟨rfl, hb⟩
      clear c3 f3 l3 h1
      replace b := b.trans (hb.mono b.size)
      clear hb
      go_wp2_with fail
      refine (hw _).mono ?_
      rintro e w' ⟨rfl, rfl⟩
      go_wp2_with fail
      go_ret2
      exact ⟨rfl, b⟩
  · rw [if_neg her]
    generalize errJ r l 1 = q at *
    have hz2 : (q != 0) = true := by rw [bne_iff_ne]; exact her
    replace her := Lib.hid her
    go_enter Tryz.func26, Tryz.ntmps26
    go_wp2_with fail
    rw [← hw1]
    clear hw1
    obtain ⟨c3, f3, l3⟩ := k3.rules
    go_wp2_with fail
    refine (h1 _ hs1).mono ?_
    rintro e W ⟨rfl, hb⟩
    clear c3 f3 l3
    go_wp2_with fail
    go_ret2
    exact ⟨rfl, b.trans (hb.mono b.size)⟩
end Go.Proofs.YtcmbmmpihiekhaaGreat
