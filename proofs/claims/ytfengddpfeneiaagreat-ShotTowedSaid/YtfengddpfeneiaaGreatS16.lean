/-
  Shots, walks: Bound: what a proof says.
-/
import Derived.Test.YtfengddpfeneiaaGreatS13
import Derived.Test.YtfengddpfeneiaaGreatS14
import Derived.Test.YtfengddpfeneiaaGreatQ7
namespace Go.Proofs.YtfengddpfeneiaaGreat
open Go.RowKit Go.Shelf
set_option linter.unusedSimpArgs false
set_option linter.unusedVariables false

theorem boundR_none {r : Rul} {l : List Int} {p : List Clm} (h : errJ r l 1 = 0) (hp : p.length ≤ 1024) (hc : claimTo r l p = none) : boundR r l p = (0, 56) := by
  unfold boundR; rw [if_pos h, if_pos hp, hc]
theorem boundR_some {r : Rul} {l : List Int} {p : List Clm} {N : Int} (h : errJ r l 1 = 0) (hp : p.length ≤ 1024) (hc : claimTo r l p = some N) : boundR r l p = (N - overTo r l p l.length, 0) := by
  unfold boundR; rw [if_pos h, if_pos hp, hc]
set_option maxRecDepth 100000 in
set_option maxHeartbeats 4000000 in
theorem Bound_any (r : Rul) (l : List Int) (p : List Clm) (A P : Option Addr) (n c np cp B : Nat) (w : World) (hs : SlAt w B 1 ivs A n c l) (hp : SlAt w B 2 Clm.cells P np cp p) :
    Calls Tryz.prog 52 #[.agg #[.int .i64 r.row, .int .i64 r.win, .int .i64 r.many, .int .i64 r.total], .slice A n c, .slice P np cp] w fun e w' => e = .returned (.tuple #[.int .i64 (boundR r l p).1, .int .i64 (boundR r l p).2]) ∧ Below w.heap.size w w' := by
  have h1 := fun W h => ruled_any r l A n c B W h
  obtain ⟨w1, hw1⟩ : ∃ w1, w1 = w.alloc (.cells #[.int .i64 r.row, .int .i64 r.win, .int .i64 r.many, .int .i64 r.total] 104) := ⟨_, rfl⟩
  have k3 : Blk w1 w.heap.size 104 #[.int .i64 r.row, .int .i64 r.win, .int .i64 r.many, .int .i64 r.total] := by rw [hw1]; exact Blk.new _ _ _
  have b : Below w.heap.size w w1 := by rw [hw1]; exact (Below.refl _ _).alloc (Nat.le_refl _) _
  have hs1 : SlAt w1 B 1 ivs A n c l := by rw [hw1]; exact hs.alloc _
  have hl := Lib.hid hs.len
  have hlp := Lib.hid hp.len
  have hs0 := Lib.hid hs
  have hp0 := Lib.hid hp
  have hpl := hp.le
  clear hs hp
  by_cases her : errJ r l 1 = 0
  · have hr : okRul r = true := by unfold errJ at her; split at her; assumption; cases her
    have hres : okRes l 1 = true := by
      unfold errJ at her; rw [if_pos hr] at her; split at her; assumption; cases her
    have hn256 : n ≤ 256 := by have := (isRes_of hres).2; rw [hl.out] at this; exact this
    have hl256 : Hid (l.length ≤ 256) := by show _ ≤ _; rw [hl.out]; exact hn256
    rw [her] at h1
    by_cases hm : np ≤ 1024
    · have hbn := fun h => boundR_none (p := p) her (by rw [hlp.out]; exact hm) h
      have hbs := fun N h => boundR_some (p := p) (N := N) her (by rw [hlp.out]; exact hm) h
      replace hbn := Lib.hid hbn
      replace hbs := Lib.hid hbs
      replace hres := Lib.hid hres
      replace her := Lib.hid her
      have hm1 : (np : Int) ≤ 1024 := by omega
      obtain ⟨i0, hi0, hz0, hz1, hz2⟩ := info_parts Tryz.infoInt
      have hc1 := Lib.hid (show i0.bytes * n ≤ 281474976710656 by rw [hz2]; omega)
      have hc2 := Lib.hid (show n ≤ maxLen by unfold maxLen; omega)
      go_enter Tryz.func52, Tryz.ntmps52
      go_wp2_with fail
      rw [← hw1]
      clear hw1
      obtain ⟨c3, f3, l3⟩ := k3.rules
      go_wp2_with fail
      refine (h1 _ hs1).mono ?_
      rintro e W ⟨rfl, hb⟩
      clear c3 f3 l3 h1
      replace k3 := k3.below hb
      replace b := b.trans (hb.mono b.size)
      clear hb hs1
      go_wp2_with (at_make; refine wpList_make_full _ rfl _ _ 36 rfl W.heap.size 3 i0 (.int .i64 0) 1 Tryz.underlying36 hi0 hz0 hz1 _ _ _ _ n rfl rfl rfl rfl hc1.out hc2.out (Nat.le_refl _) ?_; intro w2 hown hgrow)
      have hgW : w.heap.size < W.heap.size := k3.lt
      replace k3 := k3.grown hgrow (by simp)
      replace b := b.grown hgrow b.size (fun k e => by cases e)
      have hown0 : w2.ownsRow W.heap.size 3 1 (.slice (some ⟨W.heap.size, 0, none⟩) n n) n ((covL r l (p.take 0)).map (Value.int .i64)) := by
        rw [List.take_zero, covL_nil, hl.out, List.map_replicate]
        rw [madeCells_int] at hown
        exact hown
      clear hown hgrow
      generalize W.heap.size = g9 at *
      go_loopw [10, 32] (fun v i wr => ∃ (k : Nat) (N : Int), i = .int .i64 (k : Int) ∧ v = .int .i64 N ∧ k ≤ np ∧ claimTo r l (p.take k) = some N ∧ wr.ownsRow g9 3 1 (.slice (some ⟨g9, 0, none⟩) n n) n ((covL r l (p.take k)).map (Value.int .i64)) ∧ Blk wr w.heap.size 104 #[.int .i64 r.row, .int .i64 r.win, .int .i64 r.many, .int .i64 r.total] ∧ Below w.heap.size w wr) (fun v i wr => np - (intOf i).toNat)
      case atStart => exact ⟨0, 0, rfl, rfl, Nat.zero_le _, rfl, hown0, k3, b⟩
      case round =>
        clear hown0 k3 b
        obtain ⟨k, N, rfl, rfl, hk, hN, hown, k3, b⟩ := hrel
        have hNb := claimTo_bd hr hl256.out _ _ hN
        have hlen9 : (p.take k).length = k := by rw [List.length_take, hlp.out]; omega
        rw [hlen9] at hNb
        replace hlen9 := Lib.hid hlen9
        have hkb : (k : Int) ≤ 1024 := by omega
        obtain ⟨hN1, hN2⟩ := hNb
        replace hN := Lib.hid hN
        by_cases hlt : k < np
        · have hk0 : (0 : Int) ≤ (k : Int) := by omega
          have hk1 : (k : Int) < (np : Int) := by omega
          obtain ⟨x, hx⟩ := some_of_lt hlp.out hlt
          have hp1 := hp0.out.below b
          have hs1 := hs0.out.below b
          obtain ⟨bb, oo, hA, -, hbl, e0, e1⟩ := hp1.clm hx
          subst hA
          clear hp1
          have hsp := fun W h => spans_any r hr l x A n c B W hn256 h
          have kx := Blk.new wr 112 #[.int .i64 x.rule, .int .i64 x.fr]
          have hgx : w.heap.size < wr.heap.size := k3.lt
          have hs2 := hs1.alloc (.cells #[.int .i64 x.rule, .int .i64 x.fr] 112)
          have k3a := k3.alloc (.cells #[.int .i64 x.rule, .int .i64 x.fr] 112)
          have bz := b.alloc b.size (.cells #[.int .i64 x.rule, .int .i64 x.fr] 112)
          have hownA := ownsRow_below hown ((Below.refl _ _).alloc (Nat.le_refl _) (.cells #[.int .i64 x.rule, .int .i64 x.fr] 112))
          replace hx := Lib.hid hx
          go_upto_region 11 with fail
          clear e0 e1 hown k3 b hs1 hbl
          generalize wr.alloc (.cells #[.int .i64 x.rule, .int .i64 x.fr] 112) = Wa at *
          generalize wr.heap.size = gx at *
          obtain ⟨c3, f3, l3⟩ := k3a.rules
          obtain ⟨cx, fx, lx⟩ := kx.rules
          go_wp2_with fail
          refine (hsp _ hs2).mono ?_
          rintro e W ⟨S, rfl, hS5, hSs, hb⟩
          clear c3 f3 l3 cx fx lx hsp
          replace k3a := k3a.below hb
          replace hownA := ownsRow_below hownA hb
          replace hs2 := hs2.below hb
          replace bz := bz.trans (hb.mono bz.size)
          clear hb kx
          cases hsx : spanS r l x with
          | none =>
            have hno := hbn.out (claimTo_none hx.out hsx)
            clear hSs
            obtain ⟨a0, a1, a2, a3, a4, rfl⟩ := hS5
            simp only [Option.isSome_none]
            replace hsx := Lib.hid hsx
            go_wp2_with fail
            go_ret2
            exact ⟨by rw [hno]; rfl, bz.alloc bz.size _⟩
          | some s =>
            have hSv := hSs s hsx
            subst hSv
            clear hSs hS5
            simp only [Option.isSome_some]
            have hsb := span_bd hr hsx
            rw [hl.out] at hsb
            obtain ⟨sb1, sb2, sb3, sb4, sb5, sb6⟩ := hsb
            have hcm := Lib.hid (covM_end (r := r) (l := l) (k := k) hx.out hsx)
            have hN2 := claimTo_snoc r l x (p.take k)
            rw [hN.out, hsx] at hN2
            have hN3 : Hid (claimTo r l (p.take (k + 1)) = some (N + (badS l s.fr s.to - s.most))) := by
              show _ = _
              rw [List.take_add_one, hx.out]; exact hN2
            clear hN2
            replace hsx := Lib.hid hsx
            have hbb := badS_bd l s.fr s.to
            rw [hl.out] at hbb
            have hbad := fun W (h : SlAt W B 1 ivs A n c l) => flip_w (bad_all l A n c B s.fr s.to W sb1 sb2 sb3 sb4 h)
            obtain ⟨f, hf⟩ : ∃ f : Nat, s.fr = f := ⟨s.fr.toNat, by omega⟩
            obtain ⟨t, ht⟩ : ∃ t : Nat, s.to = t := ⟨s.to.toNat, by omega⟩
            have hst := covM_start r l (p.take k) (f : Int)
            rw [hf, ht] at hbad hbb hN3 hcm
            rw [hf] at sb1 sb2 sb4
            rw [ht] at sb2 sb3
            rw [hf, ht]
            obtain ⟨mo, hmo⟩ : ∃ mo, s.most = mo := ⟨_, rfl⟩
            rw [hmo] at hN3 sb5 sb6
            rw [hmo]
            replace hf := Lib.hid hf
            replace ht := Lib.hid ht
            replace hmo := Lib.hid hmo
            generalize badS l (f : Int) (t : Int) = bd at *
            obtain ⟨hbb1, hbb2⟩ := hbb
            have u1 := IntWalk.i64_in (bd - mo) (by omega)
            have u2 := IntWalk.i64_in (N + (bd - mo)) (by omega)
            have kS := Blk.new W 193 #[.int .i64 x.rule, .int .i64 x.fr, .int .i64 (f : Int), .int .i64 (t : Int), .int .i64 mo]
            have hgS : w.heap.size < W.heap.size := k3a.lt
            have hgS9 := (hownA.lt g9 rfl).2
            replace k3a := k3a.alloc (.cells #[.int .i64 x.rule, .int .i64 x.fr, .int .i64 (f : Int), .int .i64 (t : Int), .int .i64 mo] 193)
            replace hs2 := hs2.alloc (.cells #[.int .i64 x.rule, .int .i64 x.fr, .int .i64 (f : Int), .int .i64 (t : Int), .int .i64 mo] 193)
            replace hownA := ownsRow_below hownA ((Below.refl _ _).alloc (Nat.le_refl _) (.cells #[.int .i64 x.rule, .int .i64 x.fr, .int .i64 (f : Int), .int .i64 (t : Int), .int .i64 mo] 193))
            replace bz := bz.alloc bz.size (.cells #[.int .i64 x.rule, .int .i64 x.fr, .int .i64 (f : Int), .int .i64 (t : Int), .int .i64 mo] 193)
            go_upto_region 12 with fail
            generalize W.alloc (.cells #[.int .i64 x.rule, .int .i64 x.fr, .int .i64 (f : Int), .int .i64 (t : Int), .int .i64 mo] 193) = Wb at *
            generalize W.heap.size = gS at *
            obtain ⟨cS, fS, lS⟩ := kS.rules
            go_wp2_with fail
            go_quiet ((go_at_call 105; exact Calls.quiet_of_same (hbad _ hs2)))
            have hbd := below_drewN (Below.refl Wb.heap.size Wb) nq
            clear cS fS lS hbad hs2 u1 u2
            replace kS := kS.below hbd
            replace k3a := k3a.below hbd
            replace hownA := ownsRow_below hownA hbd
            replace bz := bz.trans (hbd.mono bz.size)
            clear hbd
            generalize Wb.drewN nq = Wc at *
            obtain ⟨cS, fS, lS⟩ := kS.rules
            go_wp2_with fail
            clear cS fS lS
            rw [← hst] at hownA
            go_loopw [15] (fun i wr => ∃ j : Nat, i = .int .i64 (j : Int) ∧ f ≤ j ∧ j ≤ t ∧ wr.ownsRow g9 3 1 (.slice (some ⟨g9, 0, none⟩) n n) n ((covM r l (p.take k) (f : Int) (j : Int)).map (Value.int .i64)) ∧ Blk wr gS 193 #[.int .i64 x.rule, .int .i64 x.fr, .int .i64 (f : Int), .int .i64 (t : Int), .int .i64 mo] ∧ Blk wr w.heap.size 104 #[.int .i64 r.row, .int .i64 r.win, .int .i64 r.many, .int .i64 r.total] ∧ Below w.heap.size w wr) (fun i wr => t - (intOf i).toNat)
            case atStart => exact ⟨f, rfl, Nat.le_refl _, by omega, hownA, kS, k3a, bz⟩
            case round =>
              clear hownA kS k3a bz
              obtain ⟨j, rfl, hj1, hj2, hown, kS, k3, b⟩ := hrel
              by_cases hjt : j < t
              · have hj0 : (0 : Int) ≤ (j : Int) := by omega
                have hj3 : (j : Int) < (t : Int) := by omega
                have hj4 : (j : Int) < (n : Int) := by omega
                have hjl : j < l.length := by rw [hl.out]; omega
                have hce := hown.cellAt j (by omega)
                rw [List.getElem?_map, covM_at r l (p.take k) hjl] at hce
                simp only [Option.map_some] at hce
                have hcb := coverS_bd r l j (p.take k)
                rw [hlen9.out] at hcb
                have hset := Lib.hid (covM_set r l (p.take k) hjl (fr := (f : Int)) (by omega))
                generalize coverS r l j (p.take k) = cv at *
                obtain ⟨hcb1, hcb2⟩ := hcb
                have u1 := IntWalk.i64_in (cv + 1) (by omega)
                have u2 := IntWalk.i64_in ((j : Int) + 1) (by omega)
                have hfr := hown.frozenAt j
                have hown3 := Lib.hid ((hown.stored j (.int .i64 (cv + 1))).1)
                rw [← List.map_set, hset.out] at hown3
                have bz := b.setCell (p := ⟨g9, j, none⟩) (by dsimp only; omega) (.int .i64 (cv + 1))
                have kSz := kS.far (p := ⟨g9, j, none⟩) (by dsimp only; omega) (.int .i64 (cv + 1))
                have k3z := k3.far (p := ⟨g9, j, none⟩) (by dsimp only; omega) (.int .i64 (cv + 1))
                obtain ⟨cS, fS, lS⟩ := kS.rules
                go_wp2_with fail
                clear cS fS lS
                go_roundw
                case rel => exact ⟨j + 1, by go_num, by omega, by omega, by push_cast; exact hown3.out, kSz, k3z, bz⟩
                case measure => simp [intOf]; omega
              · obtain rfl : j = t := by omega
                rw [hcm.out] at hown
                obtain ⟨cS, fS, lS⟩ := kS.rules
                go_wp2_with fail
                go_roundw
                case rel => exact ⟨k + 1, N + (bd - mo), by go_num, rfl, by omega, hN3.out, hown, k3, b⟩
                case measure => simp [intOf]; omega
        · obtain rfl : k = np := by omega
          have hpk : p.take k = p := List.take_of_length_le (by rw [hlp.out]; exact Nat.le_refl _)
          rw [hpk] at hN hown
          have hend := hbs.out N hN.out
          rw [hl.out] at hend
          replace hend := Lib.hid hend
          have hOV0 : Hid (overTo r l p 0 = 0) := by show _ = _; rfl
          go_wp2_with fail
          go_loopw [10, 73] (fun v i wr => ∃ q : Nat, i = .int .i64 (q : Int) ∧ q ≤ n ∧ v = .int .i64 (N - overTo r l p q) ∧ wr.ownsRow g9 3 1 (.slice (some ⟨g9, 0, none⟩) n n) n ((covL r l p).map (Value.int .i64)) ∧ Below w.heap.size w wr) (fun v i wr => n - (intOf i).toNat)
          case atStart => exact ⟨0, rfl, Nat.zero_le _, by rw [hOV0.out, Int.sub_zero], hown, b⟩
          case round =>
            clear hown b k3
            obtain ⟨q, rfl, hq, rfl, hown, b⟩ := hrel
            by_cases hqn : q < n
            · have hq0 : (0 : Int) ≤ (q : Int) := by omega
              have hq1 : (q : Int) < (n : Int) := by omega
              have hs1 := hs0.out.below b
              obtain ⟨y, hy⟩ := some_of_lt hl.out hqn
              obtain ⟨bb, oo, hA, -, hbl, ey⟩ := hs1.int hy
              subst hA
              have hql : q < l.length := by rw [hl.out]; exact hqn
              have hce := hown.cellAt q (by omega)
              rw [List.getElem?_map, covL_at r l p hql] at hce
              simp only [Option.map_some] at hce
              have hcb := coverS_bd r l q p
              rw [hlp.out] at hcb
              have hov := overTo_bd r l p q
              rw [hlp.out] at hov
              have hstep : Hid (overTo r l p (q + 1) = overTo r l p q + (if y = 1 then max 0 (coverS r l q p - 1) else 0)) := by
                show _ = _
                rw [overTo, List.getD_eq_getElem?_getD, hy]; rfl
              generalize coverS r l q p = cv at *
              generalize overTo r l p q = ov at *
              obtain ⟨hcb1, hcb2⟩ := hcb
              have hkq : (k : Int) * (q : Int) ≤ 1024 * 256 := Int.mul_le_mul (by omega) (by omega) (by omega) (by omega)
              have hov1 : 0 ≤ ov ∧ ov ≤ 262144 := by omega
              clear hov
              obtain ⟨hov1, hov2⟩ := hov1
              have u1 := IntWalk.i64_in (cv - 1) (by omega)
              have u2 := IntWalk.i64_in (N - ov - (cv - 1)) (by omega)
              replace hy := Lib.hid hy
              clear hs1 hkq
              by_cases hy1 : y = 1
              · subst hy1
                rw [if_pos rfl] at hstep
                by_cases hcv : cv > 0
                · have hnew : Hid (N - ov - (cv - 1) = N - overTo r l p (q + 1)) := by show _ = _; rw [hstep.out]; omega
                  clear hstep
                  go_wp2_with fail
                  go_roundw
                  case rel => exact ⟨q + 1, by go_num, by omega, by rw [hnew.out], hown, b⟩
                  case measure => simp [intOf]; omega
                · have hnew : Hid (N - ov = N - overTo r l p (q + 1)) := by show _ = _; rw [hstep.out]; omega
                  have hcv2 : cv ≤ 0 := by omega
                  clear hstep
                  go_wp2_with fail
                  go_roundw
                  case rel => exact ⟨q + 1, by go_num, by omega, by rw [hnew.out], hown, b⟩
                  case measure => simp [intOf]; omega
              · have hnew : Hid (N - ov = N - overTo r l p (q + 1)) := by show _ = _; rw [hstep.out, if_neg hy1]; omega
                have hy2 : (y == 1) = false := by rw [beq_eq_false_iff_ne]; exact hy1
                replace hy1 := Lib.hid hy1
                clear hstep
                go_wp2_with fail
                go_roundw
                case rel => exact ⟨q + 1, by go_num, by omega, by rw [hnew.out], hown, b⟩
                case measure => simp [intOf]; omega
            · obtain rfl : q = n := by omega
              go_wp2_with fail
              go_ret2
              exact ⟨by rw [hend.out]; rfl, b⟩
    · have hm1 : (np : Int) > 1024 := by omega
      have hbr : Hid (boundR r l p = (0, 56)) := by show _ = _; unfold boundR; rw [if_pos her, if_neg (by rw [hlp.out]; exact hm)]
      replace hres := Lib.hid hres
      replace her := Lib.hid her
      go_enter Tryz.func52, Tryz.ntmps52
      go_wp2_with fail
      rw [← hw1]
      clear hw1
      obtain ⟨c3, f3, l3⟩ := k3.rules
      go_wp2_with fail
      refine (h1 _ hs1).mono ?_
      rintro e W ⟨rfl, hb⟩
      clear c3 f3 l3 h1
      go_wp2_with fail
      go_ret2
      exact ⟨by rw [hbr.out]; rfl, b.trans (hb.mono b.size)⟩
  · have hbr : Hid (boundR r l p = (0, errJ r l 1)) := by show _ = _; unfold boundR; rw [if_neg her]
    generalize errJ r l 1 = q at *
    have hz2 : (q != 0) = true := by rw [bne_iff_ne]; exact her
    replace her := Lib.hid her
    go_enter Tryz.func52, Tryz.ntmps52
    go_wp2_with fail
    rw [← hw1]
    clear hw1
    obtain ⟨c3, f3, l3⟩ := k3.rules
    go_wp2_with fail
    refine (h1 _ hs1).mono ?_
    rintro e W ⟨rfl, hb⟩
    clear c3 f3 l3
    go_wp2_with fail
    go_ret2
    exact ⟨by rw [hbr.out]; rfl, b.trans (hb.mono b.size)⟩
end Go.Proofs.YtfengddpfeneiaaGreat
