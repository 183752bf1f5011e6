/-
  Own texts for one claim, joined: R1 R3.
-/
import Derived.Deep.AppendLies
import Derived.Deep.QuietTactic
import Derived.BigQuiet
import Derived.Deep.RegionHeld3
import Derived.StillTailTactics
import Derived.Test.YtjiaepphnddpoaaGreatChecked
import Derived.Shelf.Abstract
import Derived.WalkKit
import Derived.WalkSpells
import Derived.WalkLawsBesides
import Derived.Lib.Hide
import Derived.OrdersHeld
import Derived.StillTail
import Derived.StillTailTactics
import Derived.RangeFuncNested
import Derived.RangeFuncBound
import Derived.RangeFuncCalls
import Derived.RangeFuncLeaves
import Derived.Shelf.Abstract
import Derived.Shelf.RegionOpen
import Derived.OwnWalkIn
import Derived.TacticsInMore
import Derived.LoopNIn
import Derived.LoopIn
import Derived.OrdersIn
import Derived.Deep.Quiet
import Derived.Deep.QuietTactic
import Derived.BigQuiet
import Derived.Deep.QuietTactic
import Derived.LoopN
import Derived.Deep.RegionWith
import Derived.BigQuiet
import Derived.Test.YtjiaepphnddpoaaGreatT01
import Derived.Test.YtjiaepphnddpoaaGreatT02
import Derived.Test.YtjiaepphnddpoaaGreatT03
import Derived.Test.YtjiaepphnddpoaaGreatT07
import Derived.Test.YtjiaepphnddpoaaGreatT08
namespace Go.Proofs.YtjiaepphnddpoaaGreat
set_option linter.unusedSimpArgs false
set_option linter.unusedVariables false
open Go.RowKit Go.Shelf
set_option maxHeartbeats 400000 in
theorem Between_any (n lo hi : Int) (w : World) :
    Calls Tryz.prog 34 #[.int .i64 n, .int .i64 lo, .int .i64 hi] w fun e w' => e = .returned (.bool (decide (lo ≤ n ∧ n ≤ hi))) ∧ w = w' := by
  by_cases h : lo ≤ n
  · go_enter Tryz.func34, Tryz.ntmps34
    go_wp2
    go_ret
    simp [h]
  · go_enter Tryz.func34, Tryz.ntmps34
    go_wp2
    go_ret
    simp; omega
set_option maxHeartbeats 400000 in
theorem Into_any (n lo hi : Int) (w : World) :
    Calls Tryz.prog 175 #[.int .i64 n, .int .i64 lo, .int .i64 hi] w fun e w' => e = .returned (.int .i64 (max lo (min n hi))) ∧ w = w' := by
  have hmax := max2_int
  have hmin := min2_int
  go_enter Tryz.func175, Tryz.ntmps175
  go_wp2
  go_ret
  exact ⟨rfl, rfl⟩
set_option maxHeartbeats 400000 in
theorem Down_any (a b : Int) (w : World) (h1 : -1000000000000 ≤ a) (h2 : a ≤ 1000000000000) (h3 : 1 ≤ b) (h4 : b ≤ 1000000) :
    Calls Tryz.prog 173 #[.int .i64 a, .int .i64 b] w fun e w' => e = .returned (.int .i64 (a / b)) ∧ w = w' := by
  obtain ⟨s1, s2, s3, s4, s5⟩ := tdiv_spec a b (by omega)
  have hq : a.tdiv b ≤ 2000000000000 ∧ -2000000000000 ≤ a.tdiv b := by
    rcases Int.le_total 0 (a.tdiv b) with h | h
    · have := Int.mul_le_mul_of_nonneg_right h3 h
      omega
    · have := Int.mul_le_mul_of_nonpos_right h3 h
      omega
  obtain ⟨q1, q2⟩ := hq
  have hb0 : ¬ b < 0 := by omega
  by_cases hz : a.tmod b = 0
  · have e : Hid (a / b = a.tdiv b) := ediv_of a b (a.tdiv b) (a.tmod b) (by omega) (by omega) (by omega) (by omega)
    clear s1 s2 s3 s4 s5
    go_enter Tryz.func173, Tryz.ntmps173
    go_wp2
    go_ret
    exact ⟨ret_int e.out.symm, rfl⟩
  · by_cases hn : a < 0
    · have e : Hid (a / b = a.tdiv b - 1) := ediv_of a b (a.tdiv b - 1) (a.tmod b + b) (by omega) (by rw [Int.mul_sub]; omega) (by omega) (by have := s3 (by omega); omega)
      have t1 := IntWalk.i64_in (a.tdiv b - 1) (by omega)
      clear s1 s2 s3 s4 s5
      go_enter Tryz.func173, Tryz.ntmps173
      go_wp2
      go_ret
      exact ⟨ret_int e.out.symm, rfl⟩
    · have e : Hid (a / b = a.tdiv b) := ediv_of a b (a.tdiv b) (a.tmod b) (by omega) (by omega) (s2 (by omega)) (by omega)
      clear s1 s2 s3 s4 s5
      go_enter Tryz.func173, Tryz.ntmps173
      go_wp2
      all_goals
        go_ret
        exact ⟨ret_int e.out.symm, rfl⟩
set_option maxHeartbeats 400000 in
theorem rends_any (b : Bnd) (lo hi : Int) (w : World) :
    Calls Tryz.prog 58 #[.agg #[.int .i64 b.lo, .int .i64 b.hi], .int .i64 lo, .int .i64 hi] w fun e w' => e = .returned (.bool (decide (lo ≤ b.lo ∧ b.lo ≤ b.hi ∧ b.hi ≤ hi))) ∧ Below w.heap.size w w' := by
  by_cases h1 : lo ≤ b.lo
  · by_cases h2 : b.lo ≤ b.hi
    · go_enter Tryz.func58, Tryz.ntmps58
      go_wp2
      go_ret
      exact ⟨ret_bool (by simp [h1, h2]), (Below.refl _ _).alloc (Nat.le_refl _) _⟩
    · go_enter Tryz.func58, Tryz.ntmps58
      go_wp2
      go_ret
      exact ⟨ret_bool (by simp [h1]; omega), (Below.refl _ _).alloc (Nat.le_refl _) _⟩
  · go_enter Tryz.func58, Tryz.ntmps58
    go_wp2
    go_ret
    exact ⟨ret_bool (by simp; omega), (Below.refl _ _).alloc (Nat.le_refl _) _⟩
theorem allTo_succ {l : List Sec} {k : Nat} {x : Sec} (hk : l[k]? = some x) : (l.take (k + 1)).all okSec = ((l.take k).all okSec && okSec x) := by
  rw [List.take_add_one, hk]; simp
theorem chk_of {s : Strm} (h : headOk s) : chkStrm s = if s.secs.all okSec = true then 0 else 30 := by simp [chkStrm, okStrm, h]
set_option maxRecDepth 100000 in
set_option maxHeartbeats 4000000 in
theorem RCheck_any (s : Strm) (A : Option Addr) (n c B : Nat) (w : World) (hs : SlAt w B 5 Sec.cells A n c s.secs) :
    Calls Tryz.prog 122 #[.agg #[.int .i64 s.head, .slice A n c, .int .i64 s.lane.lo, .int .i64 s.lane.hi, .int .i64 s.bend]] w fun e w' => e = .returned (.int .i64 (chkStrm s)) ∧ Below w.heap.size w w' := by
  have hl := Lib.hid hs.len
  have hn := hs.le
  by_cases hh : headOk s
  · have hh' := Lib.hid hh
    obtain ⟨g0, g1, g2, g3, g4, g5, g6, g7, g8⟩ := hh
    have g2' : 1 ≤ (n : Int) := by have := hl.out; omega
    have g3' : (n : Int) ≤ 8 := by have := hl.out; omega
    clear g2 g3
    go_enter Tryz.func122, Tryz.ntmps122
    go_wp2_with (first | (go_at_call 34; refine (Between_any _ _ _ _).mono ?_; rintro e w' ⟨rfl, rfl⟩) | (go_at_call 58; refine (rends_any s.lane _ _ _).mono ?_; rintro e w1 ⟨rfl, hb1⟩; obtain ⟨hc1, hf1⟩ := bcell hb1))
    have k1 := (Blk.new w 26 #[.int .i64 s.head, .slice A n c, .int .i64 s.lane.lo, .int .i64 s.lane.hi, .int .i64 s.bend]).below hb1
    have hbw : Below w.heap.size w w1 := ((Below.refl _ _).alloc (Nat.le_refl _) _).trans (hb1.mono (by simp))
    clear hc1 hf1 hb1
    go_loopw [3, 4] (fun q i wr => ∃ k : Nat, i = .int .i64 k ∧ k ≤ n ∧ q = .bool ((s.secs.take k).all okSec) ∧ Blk wr w.heap.size 26 #[.int .i64 s.head, .slice A n c, .int .i64 s.lane.lo, .int .i64 s.lane.hi, .int .i64 s.bend] ∧ Below w.heap.size w wr) (fun q i wr => n - (intOf i).toNat)
    case atStart => exact ⟨0, rfl, Nat.zero_le _, rfl, k1, hbw⟩
    case round =>
      clear k1 hbw
      obtain ⟨k, rfl, hk, rfl, k1, hb⟩ := hrel
      obtain ⟨c1, f1, l1⟩ := k1.rules
      by_cases hlt : k < n
      · obtain ⟨x, hx⟩ := some_of_lt hl.out hlt
        have hst := Lib.hid (allTo_succ hx)
        obtain ⟨b, off, rfl, -, hbl, d0, d1, d2, d3, d4⟩ := (hs.keep hb.size (fun _ _ h => hb.cell h)).sec hx
        replace hx := Lib.hid hx
        clear hs
        have hk0 : (0 : Int) ≤ (k : Int) := by omega
        have hk1 : (k : Int) < (n : Int) := by omega
        have k1a := k1.alloc (.cells #[.int .i64 x.len, .int .i64 x.fol, .int .i64 x.bird, .int .i64 x.drag, .int .i64 x.cap] 94)
        cases hq : (s.secs.take k).all okSec with
        | false =>
          rw [hq] at hst
          go_wp2
          go_roundw
          case rel => exact ⟨k + 1, by go_num, by omega, by rw [hst.out]; simp, k1a, hb.alloc hb.size _⟩
          case measure => simp [intOf]; omega
        | true =>
          rw [hq] at hst
          by_cases hs1 : 1 ≤ x.len ∧ x.len ≤ 1000 ∧ 0 ≤ x.fol ∧ x.fol ≤ 64 ∧ 0 ≤ x.bird ∧ x.bird ≤ 1000 ∧ 0 ≤ x.drag ∧ x.drag ≤ 1000 ∧ 0 ≤ x.cap ∧ x.cap ≤ 1073741824
          · have ho := Lib.hid (okSec_of hs1)
            obtain ⟨g0, g1, g2, g3, g4, g5, g6, g7, g8, g9⟩ := hs1
            go_wp2_with (go_at_call 34; refine (Between_any _ _ _ _).mono ?_; rintro e w' ⟨rfl, rfl⟩)
            go_roundw
            case rel => exact ⟨k + 1, by go_num, by omega, by rw [hst.out, ho.out]; first | rfl | (simp; omega), k1a, hb.alloc hb.size _⟩
            case measure => simp [intOf]; omega
          · have ho := Lib.hid (okSec_not hs1)
            replace hs1 := Lib.hid hs1
            go_wp2_with (go_at_call 34; refine (Between_any _ _ _ _).mono ?_; rintro e w' ⟨rfl, rfl⟩)
            all_goals
              go_roundw
              case rel =>
                refine ⟨k + 1, by go_num, by omega, ?_, k1a, hb.alloc hb.size _⟩
                rw [hst.out, ho.out]
                first
                  | rfl
                  | (congr 1; simp; have := hs1.out; omega)
              case measure => simp [intOf]; omega
      · obtain rfl : k = n := by omega
        have ht : Hid (s.secs.take k = s.secs) := List.take_of_length_le (by rw [hl.out]; exact Nat.le_refl _)
        have hv := Lib.hid (chk_of hh'.out)
        rw [ht.out]
        cases hq : s.secs.all okSec with
        | false =>
          rw [hq] at hv
          go_wp2
          go_ret
          exact ⟨ret_int (by rw [hv.out]; rfl), hb⟩
        | true =>
          rw [hq] at hv
          go_wp2
          go_ret
          exact ⟨ret_int (by rw [hv.out]; rfl), hb⟩
  · have hv := Lib.hid (chk_head hh)
    have hh' := Lib.hid hh
    clear hh
    by_cases q1 : -2000 ≤ s.head ∧ s.head ≤ 2000
    · by_cases q2 : 1 ≤ (n : Int) ∧ (n : Int) ≤ 8
      · by_cases q3 : -4000 ≤ s.lane.lo ∧ s.lane.lo ≤ s.lane.hi ∧ s.lane.hi ≤ 4000
        · have q4 : ¬ (0 ≤ s.bend ∧ s.bend ≤ 1000) := fun h => hh'.out (by unfold headOk; have := hl.out; omega)
          have hE := fun W => rends_any s.lane (-4000) 4000 W
          have hB := fun W => Between_any s.bend 0 1000 W
          simp only [decide_eq_true q3] at hE
          simp only [decide_eq_false q4] at hB
          obtain ⟨q1a, q1b⟩ := q1
          obtain ⟨q2a, q2b⟩ := q2
          have hB1 := fun W => Between_any s.head (-2000) 2000 W
          have hB2 := fun W => Between_any (n : Int) 1 8 W
          simp only [decide_eq_true (show -2000 ≤ s.head ∧ s.head ≤ 2000 from ⟨q1a, q1b⟩)] at hB1
          simp only [decide_eq_true (show 1 ≤ (n : Int) ∧ (n : Int) ≤ 8 from ⟨q2a, q2b⟩)] at hB2
          clear hh'
          replace q3 := Lib.hid q3
          go_enter Tryz.func122, Tryz.ntmps122
          go_wp2_with fail
          refine (hB1 _).mono ?_
          rintro e w' ⟨rfl, rfl⟩
          go_wp2_with fail
          refine (hB2 _).mono ?_
          rintro e w' ⟨rfl, rfl⟩
          go_wp2_with fail
          refine (hE _).mono ?_
          rintro e w1 ⟨rfl, hb1⟩
          have k1 := (Blk.new w 26 #[.int .i64 s.head, .slice A n c, .int .i64 s.lane.lo, .int .i64 s.lane.hi, .int .i64 s.bend]).below hb1
          have hbw : Below w.heap.size w w1 := ((Below.refl _ _).alloc (Nat.le_refl _) _).trans (hb1.mono (by simp))
          clear hb1
          obtain ⟨c1, f1, l1⟩ := k1.rules
          go_wp2_with fail
          refine (hB _).mono ?_
          rintro e w' ⟨rfl, rfl⟩
          clear c1 f1 l1
          go_wp2_with fail
          go_loopw [3, 4] (fun q i wr => ∃ k : Nat, i = .int .i64 k ∧ k ≤ n ∧ q = .bool false ∧ Blk wr w.heap.size 26 #[.int .i64 s.head, .slice A n c, .int .i64 s.lane.lo, .int .i64 s.lane.hi, .int .i64 s.bend] ∧ Below w.heap.size w wr) (fun q i wr => n - (intOf i).toNat)
          case atStart => exact ⟨0, rfl, Nat.zero_le _, rfl, k1, hbw⟩
          case round =>
            clear k1 hbw
            obtain ⟨k, rfl, hk, rfl, k1, hb⟩ := hrel
            obtain ⟨c1, f1, l1⟩ := k1.rules
            by_cases hlt : k < n
            · obtain ⟨x, hx⟩ := some_of_lt hl.out hlt
              obtain ⟨b, off, rfl, -, hbl, d0, d1, d2, d3, d4⟩ := (hs.keep hb.size (fun _ _ h => hb.cell h)).sec hx
              replace hx := Lib.hid hx
              clear hs
              have hk0 : (0 : Int) ≤ (k : Int) := by omega
              have hk1 : (k : Int) < (n : Int) := by omega
              have k1a := k1.alloc (.cells #[.int .i64 x.len, .int .i64 x.fol, .int .i64 x.bird, .int .i64 x.drag, .int .i64 x.cap] 94)
              go_wp2
              go_roundw
              case rel => exact ⟨k + 1, by go_num, by omega, rfl, k1a, hb.alloc hb.size _⟩
              case measure => simp [intOf]; omega
            · go_wp2
              go_ret
              exact ⟨ret_int hv.out.symm, hb⟩
        · have hE := fun W => rends_any s.lane (-4000) 4000 W
          simp only [decide_eq_false q3] at hE
          obtain ⟨q1a, q1b⟩ := q1
          obtain ⟨q2a, q2b⟩ := q2
          have hB1 := fun W => Between_any s.head (-2000) 2000 W
          have hB2 := fun W => Between_any (n : Int) 1 8 W
          simp only [decide_eq_true (show -2000 ≤ s.head ∧ s.head ≤ 2000 from ⟨q1a, q1b⟩)] at hB1
          simp only [decide_eq_true (show 1 ≤ (n : Int) ∧ (n : Int) ≤ 8 from ⟨q2a, q2b⟩)] at hB2
          clear hh'
          replace q3 := Lib.hid q3
          go_enter Tryz.func122, Tryz.ntmps122
          go_wp2_with fail
          refine (hB1 _).mono ?_
          rintro e w' ⟨rfl, rfl⟩
          go_wp2_with fail
          refine (hB2 _).mono ?_
          rintro e w' ⟨rfl, rfl⟩
          go_wp2_with fail
          refine (hE _).mono ?_
          rintro e w1 ⟨rfl, hb1⟩
          have k1 := (Blk.new w 26 #[.int .i64 s.head, .slice A n c, .int .i64 s.lane.lo, .int .i64 s.lane.hi, .int .i64 s.bend]).below hb1
          have hbw : Below w.heap.size w w1 := ((Below.refl _ _).alloc (Nat.le_refl _) _).trans (hb1.mono (by simp))
          clear hb1
          go_wp2_with fail
          go_loopw [3, 4] (fun q i wr => ∃ k : Nat, i = .int .i64 k ∧ k ≤ n ∧ q = .bool false ∧ Blk wr w.heap.size 26 #[.int .i64 s.head, .slice A n c, .int .i64 s.lane.lo, .int .i64 s.lane.hi, .int .i64 s.bend] ∧ Below w.heap.size w wr) (fun q i wr => n - (intOf i).toNat)
          case atStart => exact ⟨0, rfl, Nat.zero_le _, rfl, k1, hbw⟩
          case round =>
            clear k1 hbw
            obtain ⟨k, rfl, hk, rfl, k1, hb⟩ := hrel
            obtain ⟨c1, f1, l1⟩ := k1.rules
            by_cases hlt : k < n
            · obtain ⟨x, hx⟩ := some_of_lt hl.out hlt
              obtain ⟨b, off, rfl, -, hbl, d0, d1, d2, d3, d4⟩ := (hs.keep hb.size (fun _ _ h => hb.cell h)).sec hx
              replace hx := Lib.hid hx
              clear hs
              have hk0 : (0 : Int) ≤ (k : Int) := by omega
              have hk1 : (k : Int) < (n : Int) := by omega
              have k1a := k1.alloc (.cells #[.int .i64 x.len, .int .i64 x.fol, .int .i64 x.bird, .int .i64 x.drag, .int .i64 x.cap] 94)
              go_wp2
              go_roundw
              case rel => exact ⟨k + 1, by go_num, by omega, rfl, k1a, hb.alloc hb.size _⟩
              case measure => simp [intOf]; omega
            · go_wp2
              go_ret
              exact ⟨ret_int hv.out.symm, hb⟩
      · obtain ⟨q1a, q1b⟩ := q1
        have hB := fun W => Between_any (n : Int) 1 8 W
        simp only [decide_eq_false q2] at hB
        clear q2 hh'
        go_enter Tryz.func122, Tryz.ntmps122
        go_wp2_with fail
        refine (Between_any _ _ _ _).mono ?_
        rw [decide_eq_true ⟨q1a, q1b⟩]
        rintro e w' ⟨rfl, rfl⟩
        go_wp2_with fail
        refine (hB _).mono ?_
        rintro e w' ⟨rfl, rfl⟩
        have k1 := Blk.new w 26 #[.int .i64 s.head, .slice A n c, .int .i64 s.lane.lo, .int .i64 s.lane.hi, .int .i64 s.bend]
        have hbw := (Below.refl w.heap.size w).alloc (Nat.le_refl _) (.cells #[.int .i64 s.head, .slice A n c, .int .i64 s.lane.lo, .int .i64 s.lane.hi, .int .i64 s.bend] 26)
        go_wp2_with fail
        go_loopw [3, 4] (fun q i wr => ∃ k : Nat, i = .int .i64 k ∧ k ≤ n ∧ q = .bool false ∧ Blk wr w.heap.size 26 #[.int .i64 s.head, .slice A n c, .int .i64 s.lane.lo, .int .i64 s.lane.hi, .int .i64 s.bend] ∧ Below w.heap.size w wr) (fun q i wr => n - (intOf i).toNat)
        case atStart => exact ⟨0, rfl, Nat.zero_le _, rfl, k1, hbw⟩
        case round =>
          clear k1 hbw
          obtain ⟨k, rfl, hk, rfl, k1, hb⟩ := hrel
          obtain ⟨c1, f1, l1⟩ := k1.rules
          by_cases hlt : k < n
          · obtain ⟨x, hx⟩ := some_of_lt hl.out hlt
            obtain ⟨b, off, rfl, -, hbl, d0, d1, d2, d3, d4⟩ := (hs.keep hb.size (fun _ _ h => hb.cell h)).sec hx
            replace hx := Lib.hid hx
            clear hs
            have hk0 : (0 : Int) ≤ (k : Int) := by omega
            have hk1 : (k : Int) < (n : Int) := by omega
            have k1a := k1.alloc (.cells #[.int .i64 x.len, .int .i64 x.fol, .int .i64 x.bird, .int .i64 x.drag, .int .i64 x.cap] 94)
            go_wp2
            go_roundw
            case rel => exact ⟨k + 1, by go_num, by omega, rfl, k1a, hb.alloc hb.size _⟩
            case measure => simp [intOf]; omega
          · go_wp2
            go_ret
            exact ⟨ret_int hv.out.symm, hb⟩
    · have hB := fun W => Between_any s.head (-2000) 2000 W
      simp only [decide_eq_false q1] at hB
      clear q1 hh'
      go_enter Tryz.func122, Tryz.ntmps122
      go_wp2_with fail
      refine (hB _).mono ?_
      rintro e w' ⟨rfl, rfl⟩
      have k1 := Blk.new w 26 #[.int .i64 s.head, .slice A n c, .int .i64 s.lane.lo, .int .i64 s.lane.hi, .int .i64 s.bend]
      have hbw := (Below.refl w.heap.size w).alloc (Nat.le_refl _) (.cells #[.int .i64 s.head, .slice A n c, .int .i64 s.lane.lo, .int .i64 s.lane.hi, .int .i64 s.bend] 26)
      go_wp2_with fail
      go_loopw [3, 4] (fun q i wr => ∃ k : Nat, i = .int .i64 k ∧ k ≤ n ∧ q = .bool false ∧ Blk wr w.heap.size 26 #[.int .i64 s.head, .slice A n c, .int .i64 s.lane.lo, .int .i64 s.lane.hi, .int .i64 s.bend] ∧ Below w.heap.size w wr) (fun q i wr => n - (intOf i).toNat)
      case atStart => exact ⟨0, rfl, Nat.zero_le _, rfl, k1, hbw⟩
      case round =>
        clear k1 hbw
        obtain ⟨k, rfl, hk, rfl, k1, hb⟩ := hrel
        obtain ⟨c1, f1, l1⟩ := k1.rules
        by_cases hlt : k < n
        · obtain ⟨x, hx⟩ := some_of_lt hl.out hlt
          obtain ⟨b, off, rfl, -, hbl, d0, d1, d2, d3, d4⟩ := (hs.keep hb.size (fun _ _ h => hb.cell h)).sec hx
          replace hx := Lib.hid hx
          clear hs
          have hk0 : (0 : Int) ≤ (k : Int) := by omega
          have hk1 : (k : Int) < (n : Int) := by omega
          have k1a := k1.alloc (.cells #[.int .i64 x.len, .int .i64 x.fol, .int .i64 x.bird, .int .i64 x.drag, .int .i64 x.cap] 94)
          go_wp2
          go_roundw
          case rel => exact ⟨k + 1, by go_num, by omega, rfl, k1a, hb.alloc hb.size _⟩
          case measure => simp [intOf]; omega
        · go_wp2
          go_ret
          exact ⟨ret_int hv.out.symm, hb⟩
end Go.Proofs.YtjiaepphnddpoaaGreat
namespace Go.Proofs.YtjiaepphnddpoaaGreat
open Go.RowKit Go.Shelf
set_option maxRecDepth 100000 in
set_option maxHeartbeats 1000000 in
theorem before_any (s : Strm) (A O : Option Addr) (n c no co B k : Nat) (o : List Int) (w : World) (hk : k < no) (hn : no ≤ 1000) (hs : SlAt w B 1 ivs O no co o) :
    Calls Tryz.prog 174 #[.agg #[.int .i64 s.head, .slice A n c, .int .i64 s.lane.lo, .int .i64 s.lane.hi, .int .i64 s.bend], .slice O no co, .int .i64 (k : Int)] w fun e w' => e = .returned (.int .i64 (prev s.head o k)) ∧ Below w.heap.size w w' := by
  have hl := Lib.hid hs.len
  cases k with
  | zero =>
    have hv : Hid (prev s.head o 0 = s.head) := rfl
    rw [show ((0 : Nat) : Int) = 0 from rfl]
    go_enter Tryz.func174, Tryz.ntmps174
    go_wp2
    go_ret
    exact ⟨ret_int hv.out.symm, (Below.refl _ _).alloc (Nat.le_refl _) _⟩
  | succ k =>
    obtain ⟨x, hx⟩ := some_of_lt hl.out (show k < no by omega)
    have hv : Hid (prev s.head o (k + 1) = x) := by show o.getD k s.head = x; rw [List.getD_eq_getElem?_getD, hx]; rfl
    obtain ⟨b, off, rfl, -, hbl, e0⟩ := (hs.alloc (.cells #[.int .i64 s.head, .slice A n c, .int .i64 s.lane.lo, .int .i64 s.lane.hi, .int .i64 s.bend] 26)).int hx
    replace hx := Lib.hid hx
    have hz : ¬ (((k + 1 : Nat) : Int) = 0) := by omega
    have t1 := IntWalk.i64_in (((k + 1 : Nat) : Int) - 1) (by omega)
    rw [show (((k + 1 : Nat) : Int) - 1) = (k : Int) by omega] at t1
    have hk0 : (0 : Int) ≤ (k : Int) := by omega
    have hk1 : (k : Int) < (no : Int) := by omega
    go_enter Tryz.func174, Tryz.ntmps174
    go_wp2
    go_ret
    exact ⟨ret_int hv.out.symm, (Below.refl _ _).alloc (Nat.le_refl _) _⟩
end Go.Proofs.YtjiaepphnddpoaaGreat
namespace Go.Proofs.YtjiaepphnddpoaaGreat
open Go.RowKit Go.Shelf
def stepTo (s : Strm) (o d : List Int) (k : Nat) : List Int := (List.range k).map fun i => eased s (s.sec i) (o.getD i s.head) (prev s.head o i) (d.getD i 0)
theorem stepTo_succ (s : Strm) (o d : List Int) (k : Nat) : stepTo s o d (k + 1) = stepTo s o d k ++ [eased s (s.sec k) (o.getD k s.head) (prev s.head o k) (d.getD k 0)] := by
  unfold stepTo; rw [List.range_succ, List.map_append]; rfl
theorem stepTo_all (s : Strm) (o d : List Int) : stepTo s o d o.length = stepL s o d := rfl
set_option maxRecDepth 100000 in
set_option maxHeartbeats 4000000 in
theorem Rstep_any (s : Strm) (A O D : Option Addr) (n c co cd B1 B2 B3 : Nat) (o d : List Int) (w : World) (hst : okStrm s = true) (ho1 : okNums s o 16384 = true) (hd1 : okNums s d 100 = true) (hs : SlAt w B1 5 Sec.cells A n c s.secs) (ho : SlAt w B2 1 ivs O n co o) (hd : SlAt w B3 1 ivs D n cd d) :
    Calls Tryz.prog 151 #[.agg #[.int .i64 s.head, .slice A n c, .int .i64 s.lane.lo, .int .i64 s.lane.hi, .int .i64 s.bend], .slice O n co, .slice D n cd] w fun e w' => ∃ P pc, e = .returned (.slice P n pc) ∧ SlAt w' w.heap.size 1 ivs P n pc (stepL s o d) ∧ Below w.heap.size w w' := by
  have hl := Lib.hid hs.len
  have hlo := Lib.hid ho.len
  have hld := Lib.hid hd.len
  have hn8 : n ≤ 8 := by have := ok_head hst; unfold headOk at this; have := hl.out; omega
  replace hst := Lib.hid hst
  have hoa := Lib.hid (okNums_all ho1)
  have hda := Lib.hid (okNums_all hd1)
  clear ho1 hd1
  obtain ⟨w1, hw1⟩ : ∃ w1, w1 = w.alloc (.cells #[.int .i64 s.head, .slice A n c, .int .i64 s.lane.lo, .int .i64 s.lane.hi, .int .i64 s.bend] 26) := ⟨_, rfl⟩
  have k3 : Blk w1 w.heap.size 26 #[.int .i64 s.head, .slice A n c, .int .i64 s.lane.lo, .int .i64 s.lane.hi, .int .i64 s.bend] := by rw [hw1]; exact Blk.new _ _ _
  have b1 : Below w.heap.size w w1 := by rw [hw1]; exact (Below.refl _ _).alloc (Nat.le_refl _) _
  have hs1 : SlAt w1 B1 5 Sec.cells A n c s.secs := by rw [hw1]; exact hs.alloc _
  have ho1 : SlAt w1 B2 1 ivs O n co o := by rw [hw1]; exact ho.alloc _
  have hd1 : SlAt w1 B3 1 ivs D n cd d := by rw [hw1]; exact hd.alloc _
  go_enter Tryz.func151, Tryz.ntmps151
  go_wp2_with fail
  rw [← hw1]
  clear hw1 hs ho hd
  go_loopw [7, 8] (fun v i wr => ∃ k : Nat, i = .int .i64 k ∧ k ≤ n ∧ wr.ownsRow w1.heap.size 3 1 v k ((stepTo s o d k).map (.int .i64 ·)) ∧ Below w1.heap.size w1 wr) (fun v i wr => n - (intOf i).toNat)
  case atStart => exact ⟨0, rfl, Nat.zero_le _, ⟨rfl, .inl ⟨rfl, rfl⟩⟩, Below.refl _ _⟩
  case round =>
    obtain ⟨k, rfl, hk, hown, hb⟩ := hrel
    have k3w := k3.belowB hb k3.lt
    by_cases hlt : k < n
    · obtain ⟨x, hx⟩ := some_of_lt hl.out hlt
      obtain ⟨y, hy⟩ := some_of_lt hlo.out hlt
      obtain ⟨z, hz⟩ := some_of_lt hld.out hlt
      have hyd : o.getD k s.head = y := by rw [List.getD_eq_getElem?_getD, hy]; rfl
      have hzd : d.getD k 0 = z := by rw [List.getD_eq_getElem?_getD, hz]; rfl
      have hxs : s.sec k = x := by have := sec_at s (i := k) (by have := hl.out; omega); rw [hx] at this; exact (Option.some.inj this).symm
      have hxo := ok_sec hst.out (i := k) (by have := hl.out; omega)
      rw [hxs] at hxo
      obtain ⟨g0, g1, g2, g3, g4, g5, g6, g7, g8, g9⟩ := of_decide_eq_true hxo
      obtain ⟨a0, a1, a2, a3, a4, a5, a6, a7, a8⟩ := ok_head hst.out
      have hyb : -16384 ≤ y ∧ y ≤ 16384 := by have := List.all_eq_true.1 hoa.out y (List.mem_of_getElem? hy); simpa [okNum] using this
      have hzb : -100 ≤ z ∧ z ≤ 100 := by have := List.all_eq_true.1 hda.out z (List.mem_of_getElem? hz); simpa [okNum] using this
      have hpb : -16384 ≤ prev s.head o k ∧ prev s.head o k ≤ 16384 := by
        cases k with
        | zero => show -16384 ≤ s.head ∧ s.head ≤ 16384; omega
        | succ q =>
          obtain ⟨y', hy'⟩ := some_of_lt hlo.out (show q < n by omega)
          have : prev s.head o (q + 1) = y' := by show o.getD q s.head = y'; rw [List.getD_eq_getElem?_getD, hy']; rfl
          rw [this]
          have := List.all_eq_true.1 hoa.out y' (List.mem_of_getElem? hy'); simpa [okNum] using this
      have hbef := fun W (hW : Below w1.heap.size w1 W) => before_any s A O n c n co 0 k o W hlt (by omega) ((ho1.mono (Nat.zero_le _)).keep hW.size (fun _ _ h => hW.cell h))
      have hnx := Lib.hid (stepTo_succ s o d k)
      rw [hyd, hzd, hxs] at hnx
      obtain ⟨pv, hpv⟩ : ∃ pv, prev s.head o k = pv := ⟨_, rfl⟩
      rw [hpv] at hnx hpb
      simp only [hpv] at hbef
      obtain ⟨bA, oA, hA, -, hbA, d0, d1, d2, d3, d4⟩ := hs1.sec hx
      obtain ⟨bO, oO, hO, -, hbO, e0⟩ := ho1.int hy
      obtain ⟨bD, oD, hD, -, hbD, e1⟩ := hd1.int hz
      replace d0 := (hb.cell (by dsimp only; omega)).trans d0
      replace d1 := (hb.cell (by dsimp only; omega)).trans d1
      replace d2 := (hb.cell (by dsimp only; omega)).trans d2
      replace d3 := (hb.cell (by dsimp only; omega)).trans d3
      replace d4 := (hb.cell (by dsimp only; omega)).trans d4
      replace hx := Lib.hid hx
      replace hy := Lib.hid hy
      replace hz := Lib.hid hz
      clear hyd hzd hxs hpv
      obtain ⟨m1, m2⟩ := mul_bd (64 - x.fol) y 64 16384 (by omega) (by omega) (by omega) (by omega) (by omega)
      obtain ⟨m3, m4⟩ := mul_bd x.fol pv 64 16384 (by omega) (by omega) (by omega) (by omega) (by omega)
      have hq := fun W => Down_any ((64 - x.fol) * y + x.fol * pv) 64 W (by omega) (by omega) (by omega) (by omega)
      obtain ⟨qd, hqd⟩ : ∃ qd, ((64 - x.fol) * y + x.fol * pv) / 64 = qd := ⟨_, rfl⟩
      have hqb : -100000 ≤ qd ∧ qd ≤ 100000 := by rw [← hqd]; omega
      simp only [hqd] at hq
      have u1 := IntWalk.i64_in (64 - x.fol) (by omega)
      have u2 := IntWalk.i64_in ((64 - x.fol) * y) (by omega)
      have u3 := IntWalk.i64_in (x.fol * pv) (by omega)
      have u4 := IntWalk.i64_in ((64 - x.fol) * y + x.fol * pv) (by omega)
      have u5 := IntWalk.i64_in (qd + z) (by omega)
      have he : Hid (eased s x y pv z = max (-16384) (min (if s.lane.hi < qd + z then max s.lane.hi (qd + z - x.bird) else if qd + z < s.lane.lo then min s.lane.lo (qd + z + x.bird) else qd + z) 16384)) := by show _ = _; rw [← hqd]; rfl
      clear m1 m2 m3 m4
      replace hqd := Lib.hid hqd
      have hk0 : (0 : Int) ≤ (k : Int) := by omega
      have hk1 : (k : Int) < (n : Int) := by omega
      subst hA
      subst hO
      subst hD
      obtain ⟨c3, f3, l3⟩ := k3w.rules
      have lbA : bA < wr.heap.size := by have := hb.size; omega
      go_wp2_with fail
      clear c3 f3 l3 d0 d1 d2 d3 d4
      have k9 := Blk.new wr 94 #[.int .i64 x.len, .int .i64 x.fol, .int .i64 x.bird, .int .i64 x.drag, .int .i64 x.cap]
      replace k3w := k3w.alloc (.cells #[.int .i64 x.len, .int .i64 x.fol, .int .i64 x.bird, .int .i64 x.drag, .int .i64 x.cap] 94)
      replace hown := hown.alloc (.cells #[.int .i64 x.len, .int .i64 x.fol, .int .i64 x.bird, .int .i64 x.drag, .int .i64 x.cap] 94)
      have lwr := hb.size
      replace hb := hb.alloc hb.size (.cells #[.int .i64 x.len, .int .i64 x.fol, .int .i64 x.bird, .int .i64 x.drag, .int .i64 x.cap] 94)
      generalize hWA : wr.alloc (.cells #[.int .i64 x.len, .int .i64 x.fol, .int .i64 x.bird, .int .i64 x.drag, .int .i64 x.cap] 94) = WA at *
      clear hWA
      refine wp_held_np (fun w' : World => (∀ j, w'.cell? ⟨wr.heap.size, j, none⟩ = #[Value.int .i64 x.len, .int .i64 x.fol, .int .i64 x.bird, .int .i64 x.drag, .int .i64 x.cap][j]?) ∧ (∀ j, w'.cell? ⟨w.heap.size, j, none⟩ = #[Value.int .i64 s.head, .slice (some ⟨bA, oA, none⟩) n c, .int .i64 s.lane.lo, .int .i64 s.lane.hi, .int .i64 s.bend][j]?) ∧ w'.cell? ⟨bO, oO + k, none⟩ = some (.int .i64 y) ∧ w'.cell? ⟨bD, oD + k, none⟩ = some (.int .i64 z)) (by kernel_rfl) ?_
      replace k9 := k9.drew
      replace k3w := k3w.drew
      replace hown : WA.drew.ownsRow _ _ _ _ _ _ := hown
      replace hb := hb.drew
      generalize WA.drew = W5 at *
      have hS : (fun w' : World => (∀ j, w'.cell? ⟨wr.heap.size, j, none⟩ = #[Value.int .i64 x.len, .int .i64 x.fol, .int .i64 x.bird, .int .i64 x.drag, .int .i64 x.cap][j]?) ∧ (∀ j, w'.cell? ⟨w.heap.size, j, none⟩ = #[Value.int .i64 s.head, .slice (some ⟨bA, oA, none⟩) n c, .int .i64 s.lane.lo, .int .i64 s.lane.hi, .int .i64 s.bend][j]?) ∧ w'.cell? ⟨bO, oO + k, none⟩ = some (.int .i64 y) ∧ w'.cell? ⟨bD, oD + k, none⟩ = some (.int .i64 z)) W5 := ⟨k9.cell, k3w.cell, (hb.cell (p := ⟨bO, oO + k, none⟩) hbO).trans e0, (hb.cell (p := ⟨bD, oD + k, none⟩) hbD).trans e1⟩
      refine held_take (i := 0) (v := ?_) 23 rfl rfl (by kernel_rfl) (by kernel_rfl) (by kernel_rfl) (fun _ _ _ h => h) (Or.inl ⟨by rfl, ?_⟩) hS ?_
      rotate_left 1
      · intro w' hSw
        try dsimp only at hSw
        obtain ⟨q1, q2, q3, q4⟩ := hSw
        go_simp
        all_goals with_reducible rfl
      try simp only [Act.put, List.setIfInBounds_toArray, List.set_cons_zero, List.set_cons_succ]
      refine held_take (i := 1) (v := ?_) 24 rfl rfl (by kernel_rfl) (by kernel_rfl) (by kernel_rfl) (fun _ _ _ h => h) (Or.inl ⟨by rfl, ?_⟩) hS ?_
      rotate_left 1
      · intro w' hSw
        try dsimp only at hSw
        obtain ⟨q1, q2, q3, q4⟩ := hSw
        go_simp
        all_goals with_reducible rfl
      try simp only [Act.put, List.setIfInBounds_toArray, List.set_cons_zero, List.set_cons_succ]
      refine held_take (i := 2) (v := ?_) 25 rfl rfl (by kernel_rfl) (by kernel_rfl) (by kernel_rfl) (fun _ _ _ h => h) (Or.inl ⟨by rfl, ?_⟩) hS ?_
      rotate_left 1
      · intro w' hSw
        try dsimp only at hSw
        obtain ⟨q1, q2, q3, q4⟩ := hSw
        go_simp
        all_goals with_reducible rfl
      try simp only [Act.put, List.setIfInBounds_toArray, List.set_cons_zero, List.set_cons_succ]
      refine held_take (i := 3) (v := ?_) 26 rfl rfl (by kernel_rfl) (by kernel_rfl) (by kernel_rfl) (fun _ _ _ h => h) (Or.inl ⟨by rfl, ?_⟩) hS ?_
      rotate_left 1
      · intro w' hSw
        try dsimp only at hSw
        obtain ⟨q1, q2, q3, q4⟩ := hSw
        go_simp
        all_goals with_reducible rfl
      try simp only [Act.put, List.setIfInBounds_toArray, List.set_cons_zero, List.set_cons_succ]
      refine held_take (i := 4) (v := ?_) 27 rfl rfl (by kernel_rfl) (by kernel_rfl) (by kernel_rfl) (fun _ _ _ h => h) (Or.inl ⟨by rfl, ?_⟩) hS ?_
      rotate_left 1
      · intro w' hSw
        try dsimp only at hSw
        obtain ⟨q1, q2, q3, q4⟩ := hSw
        go_simp
        all_goals with_reducible rfl
      try simp only [Act.put, List.setIfInBounds_toArray, List.set_cons_zero, List.set_cons_succ]
      refine held_take (i := 5) (v := ?_) 28 rfl rfl (by kernel_rfl) (by kernel_rfl) (by kernel_rfl) (fun _ _ _ h => h) (Or.inl ⟨by rfl, ?_⟩) hS ?_
      rotate_left 1
      · intro w' hSw
        try dsimp only at hSw
        obtain ⟨q1, q2, q3, q4⟩ := hSw
        go_simp
        all_goals with_reducible rfl
      try simp only [Act.put, List.setIfInBounds_toArray, List.set_cons_zero, List.set_cons_succ]
      refine held_take (i := 6) (v := ?_) 29 rfl rfl (by kernel_rfl) (by kernel_rfl) (by kernel_rfl) (fun _ _ _ h => h) (Or.inl ⟨by rfl, ?_⟩) hS ?_
      rotate_left 1
      · intro w' hSw
        try dsimp only at hSw
        obtain ⟨q1, q2, q3, q4⟩ := hSw
        go_simp
        all_goals with_reducible rfl
      try simp only [Act.put, List.setIfInBounds_toArray, List.set_cons_zero, List.set_cons_succ]
      refine held_take (i := 7) (v := ?_) 30 rfl rfl (by kernel_rfl) (by kernel_rfl) (by kernel_rfl) (fun _ _ _ h => h) (Or.inl ⟨by rfl, ?_⟩) hS ?_
      rotate_left 1
      · intro w' hSw
        try dsimp only at hSw
        obtain ⟨q1, q2, q3, q4⟩ := hSw
        go_simp
        all_goals with_reducible rfl
      try simp only [Act.put, List.setIfInBounds_toArray, List.set_cons_zero, List.set_cons_succ]
      refine held_take (i := 8) (v := ?_) 31 rfl rfl (by kernel_rfl) (by kernel_rfl) (by kernel_rfl) (fun _ _ _ h => h) (Or.inl ⟨by rfl, ?_⟩) hS ?_
      rotate_left 1
      · intro w' hSw
        try dsimp only at hSw
        obtain ⟨q1, q2, q3, q4⟩ := hSw
        go_simp
        all_goals with_reducible rfl
      try simp only [Act.put, List.setIfInBounds_toArray, List.set_cons_zero, List.set_cons_succ]
      refine held_take (i := 9) (v := ?_) 32 rfl rfl (by kernel_rfl) (by kernel_rfl) (by kernel_rfl) (fun _ _ _ h => h) (Or.inl ⟨by rfl, ?_⟩) hS ?_
      rotate_left 1
      · intro w' hSw
        try dsimp only at hSw
        obtain ⟨q1, q2, q3, q4⟩ := hSw
        go_simp
        all_goals with_reducible rfl
      try simp only [Act.put, List.setIfInBounds_toArray, List.set_cons_zero, List.set_cons_succ]
      refine held_take (i := 10) (v := ?_) 33 rfl rfl (by kernel_rfl) (by kernel_rfl) (by kernel_rfl) (fun _ _ _ h => h) (Or.inl ⟨by rfl, ?_⟩) hS ?_
      rotate_left 1
      · intro w' hSw
        try dsimp only at hSw
        obtain ⟨q1, q2, q3, q4⟩ := hSw
        go_simp
        all_goals with_reducible rfl
      try simp only [Act.put, List.setIfInBounds_toArray, List.set_cons_zero, List.set_cons_succ]
      refine held_take (i := 11) (v := ?_) 34 rfl rfl (by kernel_rfl) (by kernel_rfl) (by kernel_rfl) (fun _ _ _ h => h) (Or.inl ⟨by rfl, ?_⟩) hS ?_
      rotate_left 1
      · intro w' hSw
        try dsimp only at hSw
        obtain ⟨q1, q2, q3, q4⟩ := hSw
        go_simp
        all_goals with_reducible rfl
      try simp only [Act.put, List.setIfInBounds_toArray, List.set_cons_zero, List.set_cons_succ]
      refine held_take (i := 12) (v := ?_) 35 rfl rfl (by kernel_rfl) (by kernel_rfl) (by kernel_rfl) (fun _ _ _ h => h) (Or.inl ⟨by rfl, ?_⟩) hS ?_
      rotate_left 1
      · intro w' hSw
        try dsimp only at hSw
        obtain ⟨q1, q2, q3, q4⟩ := hSw
        go_simp
        all_goals with_reducible rfl
      try simp only [Act.put, List.setIfInBounds_toArray, List.set_cons_zero, List.set_cons_succ]
      refine held_take (i := 17) (v := ?_) 40 rfl rfl (by kernel_rfl) (by kernel_rfl) (by kernel_rfl) (fun _ _ _ h => h) (Or.inl ⟨by rfl, ?_⟩) hS ?_
      rotate_left 1
      · intro w' hSw
        try dsimp only at hSw
        obtain ⟨q1, q2, q3, q4⟩ := hSw
        go_simp
        all_goals with_reducible rfl
      try simp only [Act.put, List.setIfInBounds_toArray, List.set_cons_zero, List.set_cons_succ]
      refine held_take (i := 18) (v := ?_) 41 rfl rfl (by kernel_rfl) (by kernel_rfl) (by kernel_rfl) (fun _ _ _ h => h) (Or.inl ⟨by rfl, ?_⟩) hS ?_
      rotate_left 1
      · intro w' hSw
        try dsimp only at hSw
        obtain ⟨q1, q2, q3, q4⟩ := hSw
        go_simp
        all_goals with_reducible rfl
      try simp only [Act.put, List.setIfInBounds_toArray, List.set_cons_zero, List.set_cons_succ]
      refine held_take (i := 19) (v := ?_) 42 rfl rfl (by kernel_rfl) (by kernel_rfl) (by kernel_rfl) (fun _ _ _ h => h) (Or.inl ⟨by rfl, ?_⟩) hS ?_
      rotate_left 1
      · intro w' hSw
        try dsimp only at hSw
        obtain ⟨q1, q2, q3, q4⟩ := hSw
        go_simp
        all_goals with_reducible rfl
      try simp only [Act.put, List.setIfInBounds_toArray, List.set_cons_zero, List.set_cons_succ]
      refine held_take (i := 20) (v := ?_) 43 rfl rfl (by kernel_rfl) (by kernel_rfl) (by kernel_rfl) (fun _ _ _ h => h) (Or.inl ⟨by rfl, ?_⟩) hS ?_
      rotate_left 1
      · intro w' hSw
        try dsimp only at hSw
        obtain ⟨q1, q2, q3, q4⟩ := hSw
        go_simp
        all_goals with_reducible rfl
      try simp only [Act.put, List.setIfInBounds_toArray, List.set_cons_zero, List.set_cons_succ]
      refine held_one (i := 13) (by kernel_rfl) rfl rfl (fun K hK => ?_)
      go_simp
      refine (hbef _ hb).mono ?_
      rintro e w6 ⟨rfl, hb6⟩
      clear hS hbef
      replace k9 := k9.below hb6
      replace k3w := k3w.below hb6
      replace hown := ownsRow_below hown hb6
      replace hb := hb.trans (hb6.mono hb.size)
      clear hb6
      have hS : (fun w' : World => (∀ j, w'.cell? ⟨wr.heap.size, j, none⟩ = #[Value.int .i64 x.len, .int .i64 x.fol, .int .i64 x.bird, .int .i64 x.drag, .int .i64 x.cap][j]?) ∧ (∀ j, w'.cell? ⟨w.heap.size, j, none⟩ = #[Value.int .i64 s.head, .slice (some ⟨bA, oA, none⟩) n c, .int .i64 s.lane.lo, .int .i64 s.lane.hi, .int .i64 s.bend][j]?) ∧ w'.cell? ⟨bO, oO + k, none⟩ = some (.int .i64 y) ∧ w'.cell? ⟨bD, oD + k, none⟩ = some (.int .i64 z)) w6 := ⟨k9.cell, k3w.cell, (hb.cell (p := ⟨bO, oO + k, none⟩) hbO).trans e0, (hb.cell (p := ⟨bD, oD + k, none⟩) hbD).trans e1⟩
      refine hK _ _ hS ?_
      clear hK K
      try simp only [Act.put, List.setIfInBounds_toArray, List.set_cons_zero, List.set_cons_succ]
      refine held_take (i := 14) (v := ?_) 37 rfl rfl (by kernel_rfl) (by kernel_rfl) (by kernel_rfl) (fun _ _ _ h => h) (Or.inl ⟨by rfl, ?_⟩) hS ?_
      rotate_left 1
      · intro w' hSw
        try dsimp only at hSw
        obtain ⟨q1, q2, q3, q4⟩ := hSw
        go_simp
        all_goals with_reducible rfl
      try simp only [Act.put, List.setIfInBounds_toArray, List.set_cons_zero, List.set_cons_succ]
      refine held_take (i := 15) (v := ?_) 38 rfl rfl (by kernel_rfl) (by kernel_rfl) (by kernel_rfl) (fun _ _ _ h => h) (Or.inl ⟨by rfl, ?_⟩) hS ?_
      rotate_left 1
      · intro w' hSw
        try dsimp only at hSw
        obtain ⟨q1, q2, q3, q4⟩ := hSw
        go_simp
        all_goals with_reducible rfl
      try simp only [Act.put, List.setIfInBounds_toArray, List.set_cons_zero, List.set_cons_succ]
      refine held_one (i := 16) (by kernel_rfl) rfl rfl (fun K hK => ?_)
      go_simp
      refine (hq _).mono ?_
      rintro e w' ⟨rfl, rfl⟩
      refine hK _ _ hS ?_
      clear hK K hq
      try simp only [Act.put, List.setIfInBounds_toArray, List.set_cons_zero, List.set_cons_succ]
      refine held_take (i := 21) (v := ?_) 44 rfl rfl (by kernel_rfl) (by kernel_rfl) (by kernel_rfl) (fun _ _ _ h => h) (Or.inl ⟨by rfl, ?_⟩) hS ?_
      rotate_left 1
      · intro w' hSw
        try dsimp only at hSw
        obtain ⟨q1, q2, q3, q4⟩ := hSw
        go_simp
        all_goals with_reducible rfl
      try simp only [Act.put, List.setIfInBounds_toArray, List.set_cons_zero, List.set_cons_succ]
      refine held_take (i := 22) (v := ?_) 10 rfl rfl (by kernel_rfl) (by kernel_rfl) (by kernel_rfl) (fun _ _ _ h => h) (Or.inl ⟨by rfl, ?_⟩) hS ?_
      rotate_left 1
      · intro w' hSw
        try dsimp only at hSw
        obtain ⟨q1, q2, q3, q4⟩ := hSw
        go_simp
        all_goals with_reducible rfl
      try simp only [Act.put, List.setIfInBounds_toArray, List.set_cons_zero, List.set_cons_succ]
      refine wpAnyH_done (by kernel_rfl) (noPanic_normal ?_) _
      clear hS e0 e1 u1 u2 u3 u4 u5
      have hmax := max2_int
      have hmin := min2_int
      have v1 := IntWalk.i64_in (qd + z - x.bird) (by omega)
      have v2 := IntWalk.i64_in (qd + z + x.bird) (by omega)
      generalize qd + z = N0 at *
      by_cases c1 : s.lane.hi < N0
      · rw [if_pos c1] at he
        have hbig1 : Hid (k + 1 ≤ maxLen) := by show k + 1 ≤ maxLen; unfold maxLen; omega
        have hbig2 : Hid ((k + 1) * 8 ≤ 140737488355328) := by show (k + 1) * 8 ≤ 140737488355328; omega
        have hI := fun W => Into_any (max (N0 - x.bird) s.lane.hi) (-16384) 16384 W
        obtain ⟨ez, hez⟩ : ∃ ez, max (-16384) (min (max (N0 - x.bird) s.lane.hi) 16384) = ez := ⟨_, rfl⟩
        simp only [hez] at hI
        have hee : Hid (eased s x y pv z = ez) := by show _ = _; rw [he.out, ← hez] <;> first | rfl | (congr 2; omega)
        replace hez := Lib.hid hez
        obtain ⟨i0, hi0, hz0, hz1, hz2⟩ := info_parts Tryz.infoInt
        obtain ⟨c3, f3, l3⟩ := k3w.rules
        obtain ⟨c9, f9, l9⟩ := k9.rules
        have hnews : ∀ (j : Nat) (u : Value), ([.int .i64 ez] : List Value)[j]? = some u → (w6.alloc (.cells #[.int .i64 ez] 3)).cell? ((⟨w6.heap.size, 0, none⟩ : Addr).add j) = some u :=
          World.news_of_block (cs := #[.int .i64 ez]) (World.alloc_heap_new w6 _)
        have hownf := hown.alloc (.cells #[.int .i64 ez] 3)
        have hbf := hb.alloc hb.size (.cells #[.int .i64 ez] 3)
        go_wp2_with (first | (go_at_call 175; refine (hI _).mono ?_; rintro e w' ⟨rfl, rfl⟩) | (at_builtin; refine wpList_append_lies _ rfl (.tmp 73) (.tmp 76) 31 rfl w1.heap.size 3 i0 (.int .i64 0) 1 8 Tryz.underlying31 hi0 hz0 hz1 hz2 rfl (by decide) u7 k ((stepTo s o d k).map (.int .i64 ·)) rfl hownf ⟨w6.heap.size, 0, none⟩ 1 1 [.int .i64 ez] rfl rfl hnews (by simp [Value.oneCell']) (by decide) hbig1.out hbig2.out hbf.size (w6.heap.size + 1) (by simp) ?_; intro g cap w7 hown7 hgrow hlies hlt7))
        have hbg : Below w1.heap.size _ w7 := ⟨hgrow.os, hgrow.tape, hgrow.output, hgrow.size, fun b hb2 => hgrow.block b (Nat.lt_of_lt_of_le hb2 hbf.size) (fun e => by have := (hownf.lt _ e.symm).1; omega)⟩
        have hbh := hbf.trans hbg
        go_roundw
        case rel =>
          refine ⟨k + 1, by go_num, by omega, ?_, hbh⟩
          rw [hnx.out, hee.out, List.map_append]
          simpa using hown7
        case measure => simp [intOf]; omega
      · rw [if_neg c1] at he
        by_cases c2 : N0 < s.lane.lo
        · rw [if_pos c2] at he
          have hbig1 : Hid (k + 1 ≤ maxLen) := by show k + 1 ≤ maxLen; unfold maxLen; omega
          have hbig2 : Hid ((k + 1) * 8 ≤ 140737488355328) := by show (k + 1) * 8 ≤ 140737488355328; omega
          have hI := fun W => Into_any (min (N0 + x.bird) s.lane.lo) (-16384) 16384 W
          obtain ⟨ez, hez⟩ : ∃ ez, max (-16384) (min (min (N0 + x.bird) s.lane.lo) 16384) = ez := ⟨_, rfl⟩
          simp only [hez] at hI
          have hee : Hid (eased s x y pv z = ez) := by show _ = _; rw [he.out, ← hez] <;> first | rfl | (congr 2; omega)
          replace hez := Lib.hid hez
          obtain ⟨i0, hi0, hz0, hz1, hz2⟩ := info_parts Tryz.infoInt
          obtain ⟨c3, f3, l3⟩ := k3w.rules
          obtain ⟨c9, f9, l9⟩ := k9.rules
          have hnews : ∀ (j : Nat) (u : Value), ([.int .i64 ez] : List Value)[j]? = some u → (w6.alloc (.cells #[.int .i64 ez] 3)).cell? ((⟨w6.heap.size, 0, none⟩ : Addr).add j) = some u :=
            World.news_of_block (cs := #[.int .i64 ez]) (World.alloc_heap_new w6 _)
          have hownf := hown.alloc (.cells #[.int .i64 ez] 3)
          have hbf := hb.alloc hb.size (.cells #[.int .i64 ez] 3)
          go_wp2_with (first | (go_at_call 175; refine (hI _).mono ?_; rintro e w' ⟨rfl, rfl⟩) | (at_builtin; refine wpList_append_lies _ rfl (.tmp 73) (.tmp 76) 31 rfl w1.heap.size 3 i0 (.int .i64 0) 1 8 Tryz.underlying31 hi0 hz0 hz1 hz2 rfl (by decide) u7 k ((stepTo s o d k).map (.int .i64 ·)) rfl hownf ⟨w6.heap.size, 0, none⟩ 1 1 [.int .i64 ez] rfl rfl hnews (by simp [Value.oneCell']) (by decide) hbig1.out hbig2.out hbf.size (w6.heap.size + 1) (by simp) ?_; intro g cap w7 hown7 hgrow hlies hlt7))
          have hbg : Below w1.heap.size _ w7 := ⟨hgrow.os, hgrow.tape, hgrow.output, hgrow.size, fun b hb2 => hgrow.block b (Nat.lt_of_lt_of_le hb2 hbf.size) (fun e => by have := (hownf.lt _ e.symm).1; omega)⟩
          have hbh := hbf.trans hbg
          go_roundw
          case rel =>
            refine ⟨k + 1, by go_num, by omega, ?_, hbh⟩
            rw [hnx.out, hee.out, List.map_append]
            simpa using hown7
          case measure => simp [intOf]; omega
        · rw [if_neg c2] at he
          have hbig1 : Hid (k + 1 ≤ maxLen) := by show k + 1 ≤ maxLen; unfold maxLen; omega
          have hbig2 : Hid ((k + 1) * 8 ≤ 140737488355328) := by show (k + 1) * 8 ≤ 140737488355328; omega
          have hI := fun W => Into_any (N0) (-16384) 16384 W
          obtain ⟨ez, hez⟩ : ∃ ez, max (-16384) (min (N0) 16384) = ez := ⟨_, rfl⟩
          simp only [hez] at hI
          have hee : Hid (eased s x y pv z = ez) := by show _ = _; rw [he.out, ← hez] <;> first | rfl | (congr 2; omega)
          replace hez := Lib.hid hez
          obtain ⟨i0, hi0, hz0, hz1, hz2⟩ := info_parts Tryz.infoInt
          obtain ⟨c3, f3, l3⟩ := k3w.rules
          obtain ⟨c9, f9, l9⟩ := k9.rules
          have hnews : ∀ (j : Nat) (u : Value), ([.int .i64 ez] : List Value)[j]? = some u → (w6.alloc (.cells #[.int .i64 ez] 3)).cell? ((⟨w6.heap.size, 0, none⟩ : Addr).add j) = some u :=
            World.news_of_block (cs := #[.int .i64 ez]) (World.alloc_heap_new w6 _)
          have hownf := hown.alloc (.cells #[.int .i64 ez] 3)
          have hbf := hb.alloc hb.size (.cells #[.int .i64 ez] 3)
          go_wp2_with (first | (go_at_call 175; refine (hI _).mono ?_; rintro e w' ⟨rfl, rfl⟩) | (at_builtin; refine wpList_append_lies _ rfl (.tmp 73) (.tmp 76) 31 rfl w1.heap.size 3 i0 (.int .i64 0) 1 8 Tryz.underlying31 hi0 hz0 hz1 hz2 rfl (by decide) u7 k ((stepTo s o d k).map (.int .i64 ·)) rfl hownf ⟨w6.heap.size, 0, none⟩ 1 1 [.int .i64 ez] rfl rfl hnews (by simp [Value.oneCell']) (by decide) hbig1.out hbig2.out hbf.size (w6.heap.size + 1) (by simp) ?_; intro g cap w7 hown7 hgrow hlies hlt7))
          have hbg : Below w1.heap.size _ w7 := ⟨hgrow.os, hgrow.tape, hgrow.output, hgrow.size, fun b hb2 => hgrow.block b (Nat.lt_of_lt_of_le hb2 hbf.size) (fun e => by have := (hownf.lt _ e.symm).1; omega)⟩
          have hbh := hbf.trans hbg
          go_roundw
          case rel =>
            refine ⟨k + 1, by go_num, by omega, ?_, hbh⟩
            rw [hnx.out, hee.out, List.map_append]
            simpa using hown7
          case measure => simp [intOf]; omega
    · obtain rfl : k = n := by omega
      obtain ⟨c3, f3, l3⟩ := k3w.rules
      go_wp2
      go_ret
      have hlen : (stepTo s o d k).length = k := by simp [stepTo]
      obtain ⟨P, pc, e2, h2⟩ := SlAt.of_own (enc := ivs) hown (by omega) (stepTo s o d k) (flatMap_ivs _).symm (fun _ => rfl) hlen
      have hst2 : stepTo s o d k = stepL s o d := by rw [← stepTo_all, hlo.out]
      rw [hst2] at h2
      exact ⟨P, pc, by rw [e2]; rfl, h2.mono b1.size, b1.trans (hb.mono b1.size)⟩
end Go.Proofs.YtjiaepphnddpoaaGreat
