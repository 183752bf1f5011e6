/-
  The specification's package: numbers, Check.
  The specification's package: a step of offsets.
-/
import Derived.Test.YtjiaepphnddpoaaGreatW3
import Derived.Test.YtjiaepphnddpoaaGreatN1
import Derived.Test.YtjiaepphnddpoaaGreatBase
import Derived.Test.YtjiaepphnddpoaaGreatW5
import Derived.Deep.AppendLies
namespace Go.Proofs.YtjiaepphnddpoaaGreat
set_option linter.unusedSimpArgs false
set_option linter.unusedVariables false
open Go.RowKit Go.Shelf

set_option maxHeartbeats 400000 in
theorem Between_any (n lo hi : Int) (w : World) :
    Calls Tryz.prog 34 #[.int .i64 n, .int .i64 lo, .int .i64 hi] w fun e w' => e = .returned (.bool (decide (lo ≤ n ∧ n ≤ hi))) ∧ w = w' := by
  by_cases h : lo ≤ n
  · go_enter Tryz.func34, Tryz.ntmps34
    go_wp2
    go_ret
    simp [h]
  · go_enter Tryz.func34, Tryz.ntmps34
    go_wp2
    go_ret
    simp; omega
set_option maxHeartbeats 400000 in
theorem Into_any (n lo hi : Int) (w : World) :
    Calls Tryz.prog 175 #[.int .i64 n, .int .i64 lo, .int .i64 hi] w fun e w' => e = .returned (.int .i64 (max lo (min n hi))) ∧ w = w' := by
  have hmax := max2_int
  have hmin := min2_int
  go_enter Tryz.func175, Tryz.ntmps175
  go_wp2
  go_ret
  exact ⟨rfl, rfl⟩
set_option maxHeartbeats 400000 in
theorem Down_any (a b : Int) (w : World) (h1 : -1000000000000 ≤ a) (h2 : a ≤ 1000000000000) (h3 : 1 ≤ b) (h4 : b ≤ 1000000) :
    Calls Tryz.prog 173 #[.int .i64 a, .int .i64 b] w fun e w' => e = .returned (.int .i64 (a / b)) ∧ w = w' := by
  obtain ⟨s1, s2, s3, s4, s5⟩ := tdiv_spec a b (by omega)
  have hq : a.tdiv b ≤ 2000000000000 ∧ -2000000000000 ≤ a.tdiv b := by
    rcases Int.le_total 0 (a.tdiv b) with h | h
    · have := Int.mul_le_mul_of_nonneg_right h3 h
      omega
    · have := Int.mul_le_mul_of_nonpos_right h3 h
      omega
  obtain ⟨q1, q2⟩ := hq
  have hb0 : ¬ b < 0 := by omega
  by_cases hz : a.tmod b = 0
  · have e : Hid (a / b = a.tdiv b) := ediv_of a b (a.tdiv b) (a.tmod b) (by omega) (by omega) (by omega) (by omega)
    clear s1 s2 s3 s4 s5
    go_enter Tryz.func173, Tryz.ntmps173
    go_wp2
    go_ret
    exact ⟨ret_int e.out.symm, rfl⟩
  · by_cases hn : a < 0
    · have e : Hid (a / b = a.tdiv b - 1) := ediv_of a b (a.tdiv b - 1) (a.tmod b + b) (by omega) (by rw [Int.mul_sub]; omega) (by omega) (by have := s3 (by omega); omega)
      have t1 := IntWalk.i64_in (a.tdiv b - 1) (by omega)
      clear s1 s2 s3 s4 s5
      go_enter Tryz.func173, Tryz.ntmps173
      go_wp2
      go_ret
      exact ⟨ret_int e.out.symm, rfl⟩
    · have e : Hid (a / b = a.tdiv b) := ediv_of a b (a.tdiv b) (a.tmod b) (by omega) (by omega) (s2 (by omega)) (by omega)
      clear s1 s2 s3 s4 s5
      go_enter Tryz.func173, Tryz.ntmps173
      go_wp2
      all_goals
        go_ret
        exact ⟨ret_int e.out.symm, rfl⟩
set_option maxHeartbeats 400000 in
theorem rends_any (b : Bnd) (lo hi : Int) (w : World) :
    Calls Tryz.prog 58 #[.agg #[.int .i64 b.lo, .int .i64 b.hi], .int .i64 lo, .int .i64 hi] w fun e w' => e = .returned (.bool (decide (lo ≤ b.lo ∧ b.lo ≤ b.hi ∧ b.hi ≤ hi))) ∧ Below w.heap.size w w' := by
  by_cases h1 : lo ≤ b.lo
  · by_cases h2 : b.lo ≤ b.hi
    · go_enter Tryz.func58, Tryz.ntmps58
      go_wp2
      go_ret
      exact ⟨ret_bool (by simp [h1, h2]), (Below.refl _ _).alloc (Nat.le_refl _) _⟩
    · go_enter Tryz.func58, Tryz.ntmps58
      go_wp2
      go_ret
      exact ⟨ret_bool (by simp [h1]; omega), (Below.refl _ _).alloc (Nat.le_refl _) _⟩
  · go_enter Tryz.func58, Tryz.ntmps58
    go_wp2
    go_ret
    exact ⟨ret_bool (by simp; omega), (Below.refl _ _).alloc (Nat.le_refl _) _⟩
theorem allTo_succ {l : List Sec} {k : Nat} {x : Sec} (hk : l[k]? = some x) : (l.take (k + 1)).all okSec = ((l.take k).all okSec && okSec x) := by
  rw [List.take_add_one, hk]; simp
theorem chk_of {s : Strm} (h : headOk s) : chkStrm s = if s.secs.all okSec = true then 0 else 30 := by simp [chkStrm, okStrm, h]
set_option maxRecDepth 100000 in
set_option maxHeartbeats 4000000 in
theorem RCheck_any (s : Strm) (A : Option Addr) (n c B : Nat) (w : World) (hs : SlAt w B 5 Sec.cells A n c s.secs) :
    Calls Tryz.prog 122 #[.agg #[.int .i64 s.head, .slice A n c, .int .i64 s.lane.lo, .int .i64 s.lane.hi, .int .i64 s.bend]] w fun e w' => e = .returned (.int .i64 (chkStrm s)) ∧ Below w.heap.size w w' := by
  have hl := Lib.hid hs.len
  have hn := hs.le
  by_cases hh : headOk s
  · have hh' := Lib.hid hh
    obtain ⟨g0, g1, g2, g3, g4, g5, g6, g7, g8⟩ := hh
    have g2' : 1 ≤ (n : Int) := by have := hl.out; omega
    have g3' : (n : Int) ≤ 8 := by have := hl.out; omega
    clear g2 g3
    go_enter Tryz.func122, Tryz.ntmps122
    go_wp2_with (first | (go_at_call 34; refine (Between_any _ _ _ _).mono ?_; rintro e w' ⟨rfl, rfl⟩) | (go_at_call 58; refine (rends_any s.lane _ _ _).mono ?_; rintro e w1 ⟨rfl, hb1⟩; obtain ⟨hc1, hf1⟩ := bcell hb1))
    have k1 := (Blk.new w 26 #[.int .i64 s.head, .slice A n c, .int .i64 s.lane.lo, .int .i64 s.lane.hi, .int .i64 s.bend]).below hb1
    have hbw : Below w.heap.size w w1 := ((Below.refl _ _).alloc (Nat.le_refl _) _).trans (hb1.mono (by simp))
    clear hc1 hf1 hb1
    go_loopw [3, 4] (fun q i wr => ∃ k : Nat, i = .int .i64 k ∧ k ≤ n ∧ q = .bool ((s.secs.take k).all okSec) ∧ Blk wr w.heap.size 26 #[.int .i64 s.head, .slice A n c, .int .i64 s.lane.lo, .int .i64 s.lane.hi, .int .i64 s.bend] ∧ Below w.heap.size w wr) (fun q i wr => n - (intOf i).toNat)
    case atStart => exact ⟨0, rfl, Nat.zero_le _, rfl, k1, hbw⟩
    case round =>
      clear k1 hbw
      obtain ⟨k, rfl, hk, rfl, k1, hb⟩ := hrel
      obtain ⟨c1, f1, l1⟩ := k1.rules
      by_cases hlt : k < n
      · obtain ⟨x, hx⟩ := some_of_lt hl.out hlt
        have hst := Lib.hid (allTo_succ hx)
        obtain ⟨b, off, rfl, -, hbl, d0, d1, d2, d3, d4⟩ := (hs.keep hb.size (fun _ _ h => hb.cell h)).sec hx
        replace hx := Lib.hid hx
        clear hs
        have hk0 : (0 : Int) ≤ (k : Int) := by omega
        have hk1 : (k : Int) < (n : Int) := by omega
        have k1a := k1.alloc (.cells #[.int .i64 x.len, .int .i64 x.fol, .int .i64 x.bird, .int .i64 x.drag, .int .i64 x.cap] 94)
        cases hq : (s.secs.take k).all okSec with
        | false =>
          rw [hq] at hst
          go_wp2
          go_roundw
          case rel => exact ⟨k + 1, by go_num, by omega, by rw [hst.out]; simp, k1a, hb.alloc hb.size _⟩
          case measure => simp [intOf]; omega
        | true =>
          rw [hq] at hst
          by_cases hs1 : 1 ≤ x.len ∧ x.len ≤ 1000 ∧ 0 ≤ x.fol ∧ x.fol ≤ 64 ∧ 0 ≤ x.bird ∧ x.bird ≤ 1000 ∧ 0 ≤ x.drag ∧ x.drag ≤ 1000 ∧ 0 ≤ x.cap ∧ x.cap ≤ 1073741824
          · have ho := Lib.hid (okSec_of hs1)
            obtain ⟨g0, g1, g2, g3, g4, g5, g6, g7, g8, g9⟩ := hs1
            go_wp2_with (go_at_call 34; refine (Between_any _ _ _ _).mono ?_; rintro e w' ⟨rfl, rfl⟩)
            go_roundw
            case rel => exact ⟨k + 1, by go_num, by omega, by rw [hst.out, ho.out]; first | rfl | (simp; omega), k1a, hb.alloc hb.size _⟩
            case measure => simp [intOf]; omega
          · have ho := Lib.hid (okSec_not hs1)
            replace hs1 := Lib.hid hs1
            go_wp2_with (go_at_call 34; refine (Between_any _ _ _ _).mono ?_; rintro e w' ⟨rfl, rfl⟩)
            all_goals
              go_roundw
              case rel =>
                refine ⟨k + 1, by go_num, by omega, ?_, k1a, hb.alloc hb.size _⟩
                rw [hst.out, ho.out]
                first
                  | rfl
                  | (congr 1; simp; have := hs1.out; omega)
              case measure => simp [intOf]; omega
      · obtain rfl : k = n := by omega
        have ht : Hid (s.secs.take k = s.secs) := List.take_of_length_le (by rw [hl.out]; exact Nat.le_refl _)
        have hv := Lib.hid (chk_of hh'.out)
        rw [ht.out]
        cases hq : s.secs.all okSec with
        | false =>
          rw [hq] at hv
          go_wp2
          go_ret
          exact ⟨ret_int (by rw [hv.out]; rfl), hb⟩
        | true =>
          rw [hq] at hv
          go_wp2
          go_ret
          exact ⟨ret_int (by rw [hv.out]; rfl), hb⟩
  · have hv := Lib.hid (chk_head hh)
    have hh' := Lib.hid hh
    clear hh
    by_cases q1 : -2000 ≤ s.head ∧ s.head ≤ 2000
    · by_cases q2 : 1 ≤ (n : Int) ∧ (n : Int) ≤ 8
      · by_cases q3 : -4000 ≤ s.lane.lo ∧ s.lane.lo ≤ s.lane.hi ∧ s.lane.hi ≤ 4000
        · have q4 : ¬ (0 ≤ s.bend ∧ s.bend ≤ 1000) := fun h => hh'.out (by unfold headOk; have := hl.out; omega)
          have hE := fun W => rends_any s.lane (-4000) 4000 W
          have hB := fun W => Between_any s.bend 0 1000 W
          simp only [decide_eq_true q3] at hE
          simp only [decide_eq_false q4] at hB
          obtain ⟨q1a, q1b⟩ := q1
          obtain ⟨q2a, q2b⟩ := q2
          have hB1 := fun W => Between_any s.head (-2000) 2000 W
          have hB2 := fun W => Between_any (n : Int) 1 8 W
          simp only [decide_eq_true (show -2000 ≤ s.head ∧ s.head ≤ 2000 from ⟨q1a, q1b⟩)] at hB1
          simp only [decide_eq_true (show 1 ≤ (n : Int) ∧ (n : Int) ≤ 8 from ⟨q2a, q2b⟩)] at hB2
          clear hh'
          replace q3 := Lib.hid q3
          go_enter Tryz.func122, Tryz.ntmps122
          go_wp2_with fail
          refine (hB1 _).mono ?_
          rintro e w' ⟨rfl, rfl⟩
          go_wp2_with fail
          refine (hB2 _).mono ?_
          rintro e w' ⟨rfl, rfl⟩
          go_wp2_with fail
          refine (hE _).mono ?_
          rintro e w1 ⟨rfl, hb1⟩
          have k1 := (Blk.new w 26 #[.int .i64 s.head, .slice A n c, .int .i64 s.lane.lo, .int .i64 s.lane.hi, .int .i64 s.bend]).below hb1
          have hbw : Below w.heap.size w w1 := ((Below.refl _ _).alloc (Nat.le_refl _) _).trans (hb1.mono (by simp))
          clear hb1
          obtain ⟨c1, f1, l1⟩ := k1.rules
          go_wp2_with fail
          refine (hB _).mono ?_
          rintro e w' ⟨rfl, rfl⟩
          clear c1 f1 l1
          go_wp2_with fail
          go_loopw [3, 4] (fun q i wr => ∃ k : Nat, i = .int .i64 k ∧ k ≤ n ∧ q = .bool false ∧ Blk wr w.heap.size 26 #[.int .i64 s.head, .slice A n c, .int .i64 s.lane.lo, .int .i64 s.lane.hi, .int .i64 s.bend] ∧ Below w.heap.size w wr) (fun q i wr => n - (intOf i).toNat)
          case atStart => exact ⟨0, rfl, Nat.zero_le _, rfl, k1, hbw⟩
          case round =>
            clear k1 hbw
            obtain ⟨k, rfl, hk, rfl, k1, hb⟩ := hrel
            obtain ⟨c1, f1, l1⟩ := k1.rules
            by_cases hlt : k < n
            · obtain ⟨x, hx⟩ := some_of_lt hl.out hlt
              obtain ⟨b, off, rfl, -, hbl, d0, d1, d2, d3, d4⟩ := (hs.keep hb.size (fun _ _ h => hb.cell h)).sec hx
              replace hx := Lib.hid hx
              clear hs
              have hk0 : (0 : Int) ≤ (k : Int) := by omega
              have hk1 : (k : Int) < (n : Int) := by omega
              have k1a := k1.alloc (.cells #[.int .i64 x.len, .int .i64 x.fol, .int .i64 x.bird, .int .i64 x.drag, .int .i64 x.cap] 94)
              go_wp2
              go_roundw
              case rel => exact ⟨k + 1, by go_num, by omega, rfl, k1a, hb.alloc hb.size _⟩
              case measure => simp [intOf]; omega
            · go_wp2
              go_ret
              exact ⟨ret_int hv.out.symm, hb⟩
        · have hE := fun W => rends_any s.lane (-4000) 4000 W
          simp only [decide_eq_false q3] at hE
          obtain ⟨q1a, q1b⟩ := q1
          obtain ⟨q2a, q2b⟩ := q2
          have hB1 := fun W => Between_any s.head (-2000) 2000 W
          have hB2 := fun W => Between_any (n : Int) 1 8 W
          simp only [decide_eq_true (show -2000 ≤ s.head ∧ s.head ≤ 2000 from ⟨q1a, q1b⟩)] at hB1
          simp only [decide_eq_true (show 1 ≤ (n : Int) ∧ (n : Int) ≤ 8 from ⟨q2a, q2b⟩)] at hB2
          clear hh'
          replace q3 := Lib.hid q3
          go_enter Tryz.func122, Tryz.ntmps122
          go_wp2_with fail
          refine (hB1 _).mono ?_
          rintro e w' ⟨rfl, rfl⟩
          go_wp2_with fail
          refine (hB2 _).mono ?_
          rintro e w' ⟨rfl, rfl⟩
          go_wp2_with fail
          refine (hE _).mono ?_
          rintro e w1 ⟨rfl, hb1⟩
          have k1 := (Blk.new w 26 #[.int .i64 s.head, .slice A n c, .int .i64 s.lane.lo, .int .i64 s.lane.hi, .int .i64 s.bend]).below hb1
          have hbw : Below w.heap.size w w1 := ((Below.refl _ _).alloc (Nat.le_refl _) _).trans (hb1.mono (by simp))
          clear hb1
          go_wp2_with fail
          go_loopw [3, 4] (fun q i wr => ∃ k : Nat, i = .int .i64 k ∧ k ≤ n ∧ q = .bool false ∧ Blk wr w.heap.size 26 #[.int .i64 s.head, .slice A n c, .int .i64 s.lane.lo, .int .i64 s.lane.hi, .int .i64 s.bend] ∧ Below w.heap.size w wr) (fun q i wr => n - (intOf i).toNat)
          case atStart => exact ⟨0, rfl, Nat.zero_le _, rfl, k1, hbw⟩
          case round =>
            clear k1 hbw
            obtain ⟨k, rfl, hk, rfl, k1, hb⟩ := hrel
            obtain ⟨c1, f1, l1⟩ := k1.rules
            by_cases hlt : k < n
            · obtain ⟨x, hx⟩ := some_of_lt hl.out hlt
              obtain ⟨b, off, rfl, -, hbl, d0, d1, d2, d3, d4⟩ := (hs.keep hb.size (fun _ _ h => hb.cell h)).sec hx
              replace hx := Lib.hid hx
              clear hs
              have hk0 : (0 : Int) ≤ (k : Int) := by omega
              have hk1 : (k : Int) < (n : Int) := by omega
              have k1a := k1.alloc (.cells #[.int .i64 x.len, .int .i64 x.fol, .int .i64 x.bird, .int .i64 x.drag, .int .i64 x.cap] 94)
              go_wp2
              go_roundw
              case rel => exact ⟨k + 1, by go_num, by omega, rfl, k1a, hb.alloc hb.size _⟩
              case measure => simp [intOf]; omega
            · go_wp2
              go_ret
              exact ⟨ret_int hv.out.symm, hb⟩
      · obtain ⟨q1a, q1b⟩ := q1
        have hB := fun W => Between_any (n : Int) 1 8 W
        simp only [decide_eq_false q2] at hB
        clear q2 hh'
        go_enter Tryz.func122, Tryz.ntmps122
        go_wp2_with fail
        refine (Between_any _ _ _ _).mono ?_
        rw [decide_eq_true ⟨q1a, q1b⟩]
        rintro e w' ⟨rfl, rfl⟩
        go_wp2_with fail
        refine (hB _).mono ?_
        rintro e w' ⟨rfl, rfl⟩
        have k1 := Blk.new w 26 #[.int .i64 s.head, .slice A n c, .int .i64 s.lane.lo, .int .i64 s.lane.hi, .int .i64 s.bend]
        have hbw := (Below.refl w.heap.size w).alloc (Nat.le_refl _) (.cells #[.int .i64 s.head, .slice A n c, .int .i64 s.lane.lo, .int .i64 s.lane.hi, .int .i64 s.bend] 26)
        go_wp2_with fail
        go_loopw [3, 4] (fun q i wr => ∃ k : Nat, i = .int .i64 k ∧ k ≤ n ∧ q = .bool false ∧ Blk wr w.heap.size 26 #[.int .i64 s.head, .slice A n c, .int .i64 s.lane.lo, .int .i64 s.lane.hi, .int .i64 s.bend] ∧ Below w.heap.size w wr) (fun q i wr => n - (intOf i).toNat)
        case atStart => exact ⟨0, rfl, Nat.zero_le _, rfl, k1, hbw⟩
        case round =>
          clear k1 hbw
          obtain ⟨k, rfl, hk, rfl, k1, hb⟩ := hrel
          obtain ⟨c1, f1, l1⟩ := k1.rules
          by_cases hlt : k < n
          · obtain ⟨x, hx⟩ := some_of_lt hl.out hlt
            obtain ⟨b, off, rfl, -, hbl, d0, d1, d2, d3, d4⟩ := (hs.keep hb.size (fun _ _ h => hb.cell h)).sec hx
            replace hx := Lib.hid hx
            clear hs
            have hk0 : (0 : Int) ≤ (k : Int) := by omega
            have hk1 : (k : Int) < (n : Int) := by omega
            have k1a := k1.alloc (.cells #[.int .i64 x.len, .int .i64 x.fol, .int .i64 x.bird, .int .i64 x.drag, .int .i64 x.cap] 94)
            go_wp2
            go_roundw
            case rel => exact ⟨k + 1, by go_num, by omega, rfl, k1a, hb.alloc hb.size _⟩
            case measure => simp [intOf]; omega
          · go_wp2
            go_ret
            exact ⟨ret_int hv.out.symm, hb⟩
    · have hB := fun W => Between_any s.head (-2000) 2000 W
      simp only [decide_eq_false q1] at hB
      clear q1 hh'
      go_enter Tryz.func122, Tryz.ntmps122
      go_wp2_with fail
      refine (hB _).mono ?_
      rintro e w' ⟨rfl, rfl⟩
      have k1 := Blk.new w 26 #[.int .i64 s.head, .slice A n c, .int .i64 s.lane.lo, .int .i64 s.lane.hi, .int .i64 s.bend]
      have hbw := (Below.refl w.heap.size w).alloc (Nat.le_refl _) (.cells #[.int .i64 s.head, .slice A n c, .int .i64 s.lane.lo, .int .i64 s.lane.hi, .int .i64 s.bend] 26)
      go_wp2_with fail
      go_loopw [3, 4] (fun q i wr => ∃ k : Nat, i = .int .i64 k ∧ k ≤ n ∧ q = .bool false ∧ Blk wr w.heap.size 26 #[.int .i64 s.head, .slice A n c, .int .i64 s.lane.lo, .int .i64 s.lane.hi, .int .i64 s.bend] ∧ Below w.heap.size w wr) (fun q i wr => n - (intOf i).toNat)
      case atStart => exact ⟨0, rfl, Nat.zero_le _, rfl, k1, hbw⟩
      case round =>
        clear k1 hbw
        obtain ⟨k, rfl, hk, rfl, k1, hb⟩ := hrel
        obtain ⟨c1, f1, l1⟩ := k1.rules
        by_cases hlt : k < n
        · obtain ⟨x, hx⟩ := some_of_lt hl.out hlt
          obtain ⟨b, off, rfl, -, hbl, d0, d1, d2, d3, d4⟩ := (hs.keep hb.size (fun _ _ h => hb.cell h)).sec hx
          replace hx := Lib.hid hx
          clear hs
          have hk0 : (0 : Int) ≤ (k : Int) := by omega
          have hk1 : (k : Int) < (n : Int) := by omega
          have k1a := k1.alloc (.cells #[.int .i64 x.len, .int .i64 x.fol, .int .i64 x.bird, .int .i64 x.drag, .int .i64 x.cap] 94)
          go_wp2
          go_roundw
          case rel => exact ⟨k + 1, by go_num, by omega, rfl, k1a, hb.alloc hb.size _⟩
          case measure => simp [intOf]; omega
        · go_wp2
          go_ret
          exact ⟨ret_int hv.out.symm, hb⟩
end Go.Proofs.YtjiaepphnddpoaaGreat
namespace Go.Proofs.YtjiaepphnddpoaaGreat
open Go.RowKit Go.Shelf

set_option maxRecDepth 100000 in
set_option maxHeartbeats 1000000 in
theorem before_any (s : Strm) (A O : Option Addr) (n c no co B k : Nat) (o : List Int) (w : World) (hk : k < no) (hn : no ≤ 1000) (hs : SlAt w B 1 ivs O no co o) :
    Calls Tryz.prog 174 #[.agg #[.int .i64 s.head, .slice A n c, .int .i64 s.lane.lo, .int .i64 s.lane.hi, .int .i64 s.bend], .slice O no co, .int .i64 (k : Int)] w fun e w' => e = .returned (.int .i64 (prev s.head o k)) ∧ Below w.heap.size w w' := by
  have hl := Lib.hid hs.len
  cases k with
  | zero =>
    have hv : Hid (prev s.head o 0 = s.head) := rfl
    rw [show ((0 : Nat) : Int) = 0 from rfl]
    go_enter Tryz.func174, Tryz.ntmps174
    go_wp2
    go_ret
    exact ⟨ret_int hv.out.symm, (Below.refl _ _).alloc (Nat.le_refl _) _⟩
  | succ k =>
    obtain ⟨x, hx⟩ := some_of_lt hl.out (show k < no by omega)
    have hv : Hid (prev s.head o (k + 1) = x) := by show o.getD k s.head = x; rw [List.getD_eq_getElem?_getD, hx]; rfl
    obtain ⟨b, off, rfl, -, hbl, e0⟩ := (hs.alloc (.cells #[.int .i64 s.head, .slice A n c, .int .i64 s.lane.lo, .int .i64 s.lane.hi, .int .i64 s.bend] 26)).int hx
    replace hx := Lib.hid hx
    have hz : ¬ (((k + 1 : Nat) : Int) = 0) := by omega
    have t1 := IntWalk.i64_in (((k + 1 : Nat) : Int) - 1) (by omega)
    rw [show (((k + 1 : Nat) : Int) - 1) = (k : Int) by omega] at t1
    have hk0 : (0 : Int) ≤ (k : Int) := by omega
    have hk1 : (k : Int) < (no : Int) := by omega
    go_enter Tryz.func174, Tryz.ntmps174
    go_wp2
    go_ret
    exact ⟨ret_int hv.out.symm, (Below.refl _ _).alloc (Nat.le_refl _) _⟩
end Go.Proofs.YtjiaepphnddpoaaGreat
