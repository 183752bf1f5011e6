/-
  Shots, walks: the state after a shot; Allow.
-/
import Derived.Test.YtcmbmmpihiekhaaGreatTS
import Derived.Test.YtcmbmmpihiekhaaGreatI3
set_option maxRecDepth 100000
set_option maxHeartbeats 16000000
set_option linter.unusedSimpArgs false
set_option linter.unusedVariables false
namespace Go.Proofs.YtcmbmmpihiekhaaGreat
open Go.RowKit Go.Shelf

def rowK (T : Nat) (row : Int) (k : Nat) : Bool := decide (onesS T (min k row.toNat) = min k row.toNat)
def manyK (T : Nat) (win : Int) (k : Nat) : Int := onesS T (min k win.toNat)
theorem rowK_succ (T : Nat) {row : Int} (h : 0 ≤ row) (k : Nat) : rowK T row (k + 1) = (rowK T row k && (decide (row ≤ (k : Int)) || decide ((bitS T k : Int) = 1))) := by
  unfold rowK
  rw [← Bool.decide_or, ← Bool.decide_and]
  apply decide_eq_decide.2
  by_cases hk : row ≤ (k : Int)
  · rw [show min (k + 1) row.toNat = min k row.toNat by omega]
    constructor
    · intro h1; exact ⟨h1, .inl hk⟩
    · intro h1; exact h1.1
  · rw [show min (k + 1) row.toNat = k + 1 by omega, show min k row.toNat = k by omega, onesS]
    have h1 := onesS_bd T k
    have h2 := bitS_lt T k
    omega
theorem manyK_succ (T : Nat) {win : Int} (h : 0 ≤ win) (k : Nat) : manyK T win (k + 1) = if (k : Int) < win then manyK T win k + (bitS T k : Int) else manyK T win k := by
  unfold manyK
  split
  · rw [show min (k + 1) win.toNat = k + 1 by omega, show min k win.toNat = k by omega, onesS]; omega
  · rw [show min (k + 1) win.toNat = min k win.toNat by omega]
theorem manyK_bd (T : Nat) (win : Int) (k : Nat) : 0 ≤ manyK T win k ∧ manyK T win k ≤ k := by
  unfold manyK
  have := onesS_bd T (min k win.toNat)
  omega
theorem row_end {r : Rul} (hr : okRul r = true) (T : Nat) : ((!rowK T r.row 12) && decide (manyK T r.win 12 < r.many)) = mayBe r T := by
  obtain ⟨p1, p2, p3, p4, p5, p6, p7, p8⟩ := okRul_is hr
  unfold rowK manyK mayBe
  rw [show min 12 r.row.toNat = r.row.toNat by omega, show min 12 r.win.toNat = r.win.toNat by omega]
  congr 1
  have := onesS_bd T r.row.toNat
  rw [← decide_not]
  apply decide_eq_decide.2
  omega
attribute [local irreducible] wpStill
theorem next_any (r : Rul) (hr : okRul r = true) (s x : Nat) (hs : s < 4096) (hx : x < 2) (w : World) :
    Calls Tryz.prog 60 #[.agg #[.int .i64 (s : Int)], .agg #[.int .i64 r.row, .int .i64 r.win, .int .i64 r.many, .int .i64 r.total], .int .i64 (x : Int)] w fun e w' => e = .returned (.tuple #[.agg #[.int .i64 (nextS s x : Nat)], .bool (mayBe r (nextS s x))]) ∧ Below w.heap.size w w' := by
  obtain ⟨p1, p2, p3, p4, p5, p6, p7, p8⟩ := okRul_is hr
  obtain ⟨w1, hw1⟩ : ∃ w1, w1 = ((w.alloc (.cells #[.int .i64 (s : Int)] 143)).alloc (.cells #[.int .i64 r.row, .int .i64 r.win, .int .i64 r.many, .int .i64 r.total] 97)).alloc (.cells #[.int .i64 0] 143) := ⟨_, rfl⟩
  have k3 : Blk w1 w.heap.size 143 #[.int .i64 (s : Int)] := by rw [hw1]; exact ((Blk.new _ _ _).alloc _).alloc _
  have k4 : Blk w1 (w.heap.size + 1) 97 #[.int .i64 r.row, .int .i64 r.win, .int .i64 r.many, .int .i64 r.total] := by rw [hw1]; exact (Blk.newAt (by simp)).alloc _
  have k6 : Blk w1 (w.heap.size + 1 + 1) 143 #[.int .i64 0] := by rw [hw1]; exact Blk.newAt (by simp)
  have b : Below w.heap.size w w1 := by rw [hw1]; exact (((Below.refl _ _).alloc (Nat.le_refl _) _).alloc (by simp) _).alloc (by simp; omega) _
  obtain ⟨T, hT⟩ : ∃ T : Nat, nextS s x = T := ⟨_, rfl⟩
  have hT2 : ((2 * (s : Int) + (x : Int)) % 4096) = (T : Int) := by rw [← hT]; unfold nextS; omega
  have hTb : T < 4096 := by rw [← hT]; exact nextS_lt _ _
  rw [hT]
  clear hT
  go_enter Tryz.func60, Tryz.ntmps60
  go_wp2_with fail
  rw [← hw1]
  clear hw1
  obtain ⟨c3, f3, l3⟩ := k3.rules
  go_wp2_with fail
  clear c3 f3 l3
  have hst : Hid (rowK T r.row 0 = true) := by show _ = _; simp [rowK, onesS]
  have hst2 : Hid (manyK T r.win 0 = 0) := by show _ = _; simp [manyK, onesS]
  rw [hT2]
  clear hT2
  go_loopw [9, 10, 19] (fun rw mn i wr => ∃ k : Nat, i = .int .i64 (k : Int) ∧ k ≤ 12 ∧ rw = .bool (rowK T r.row k) ∧ mn = .int .i64 (manyK T r.win k) ∧ wr = w1) (fun rw mn i wr => 12 - (intOf i).toNat)
  case atStart => exact ⟨0, rfl, Nat.zero_le _, by rw [hst.out], by rw [hst2.out], rfl⟩
  case round =>
    obtain ⟨k, rfl, hk, rfl, rfl, hwr⟩ := hrel
    rw [hwr]
    clear hwr
    obtain ⟨c4, f4, l4⟩ := k4.rules
    have hmb := manyK_bd T r.win k
    obtain ⟨mn, hmn⟩ : ∃ mn, manyK T r.win k = mn := ⟨_, rfl⟩
    have hbl := bitS_lt T k
    obtain ⟨bt, hbt⟩ : ∃ bt : Nat, bitS T k = bt := ⟨_, rfl⟩
    have hbit : (T : Int) / 2 ^ k % 2 = (bt : Int) := by rw [← hbt]; unfold bitS; push_cast; rfl
    have hbit2 : ((T : Int) / 2 ^ k).tmod 2 = (bt : Int) := by rw [Int.tmod_eq_emod_of_nonneg (Int.ediv_nonneg (by omega) (Int.pow_nonneg (by omega))), hbit]
    have hbit3 : (0 : Int) ≤ (T : Int) / 2 ^ k := Int.ediv_nonneg (by omega) (Int.pow_nonneg (by omega))
    have hs1 := Lib.hid (rowK_succ T (row := r.row) (by omega) k)
    have hs2 := Lib.hid (manyK_succ T (win := r.win) (by omega) k)
    rw [hmn] at hmb hs2
    rw [hbt] at hbl hs1 hs2
    rw [hmn]
    obtain ⟨hmb1, hmb2⟩ := hmb
    replace hmn := Lib.hid hmn
    replace hbt := Lib.hid hbt
    by_cases hlt : k < 12
    · have hk0 : (0 : Int) ≤ (k : Int) := by omega
      by_cases hkw : (k : Int) < r.win
      all_goals
        have hs2' := hs2.out
        first | rw [if_pos hkw] at hs2' | rw [if_neg hkw] at hs2'
        replace hs2' := Lib.hid hs2'
        clear hs2
        cases hq : rowK T r.row k with
        | true =>
          have hs1' := hs1.out
          rw [hq, Bool.true_and] at hs1'
          replace hq := Lib.hid hq
          clear hs1
          by_cases hkr : r.row ≤ (k : Int)
          · rw [decide_eq_true hkr, Bool.true_or] at hs1'
            replace hs1' := Lib.hid hs1'
            go_wp2_with fail
            go_roundw
            case rel => exact ⟨k + 1, by go_num, by omega, by rw [hs1'.out], by rw [hs2'.out], by first | rfl | trivial⟩
            case measure => simp [intOf]; omega
          · rw [decide_eq_false hkr, Bool.false_or] at hs1'
            by_cases hb1 : (bt : Int) = 1
            · rw [decide_eq_true hb1] at hs1'
              replace hs1' := Lib.hid hs1'
              have hb2 : ((bt : Int) == 1) = true := by rw [beq_iff_eq]; exact hb1
              replace hb1 := Lib.hid hb1
              go_wp2_with fail
              go_roundw
              case rel => exact ⟨k + 1, by go_num, by omega, by rw [hs1'.out], by rw [hs2'.out], by first | rfl | trivial⟩
              case measure => simp [intOf]; omega
            · rw [decide_eq_false hb1] at hs1'
              replace hs1' := Lib.hid hs1'
              have hb2 : ((bt : Int) == 1) = false := by rw [beq_eq_false_iff_ne]; exact hb1
              replace hb1 := Lib.hid hb1
              go_wp2_with fail
              go_roundw
              case rel => exact ⟨k + 1, by go_num, by omega, by rw [hs1'.out], by rw [hs2'.out], by first | rfl | trivial⟩
              case measure => simp [intOf]; omega
        | false =>
          have hs1' := hs1.out
          rw [hq, Bool.false_and] at hs1'
          replace hq := Lib.hid hq
          replace hs1' := Lib.hid hs1'
          clear hs1
          go_wp2_with fail
          go_roundw
          case rel => exact ⟨k + 1, by go_num, by omega, by rw [hs1'.out], by rw [hs2'.out], by first | rfl | trivial⟩
          case measure => simp [intOf]; omega
    · obtain rfl : k = 12 := by omega
      have hend := row_end hr T
      rw [hmn.out] at hend
      clear hs1 hs2 hbit hbit2 hbit3 hbt hlt
      cases hq : rowK T r.row 12 with
      | true =>
        rw [hq, Bool.not_true, Bool.false_and] at hend
        replace hq := Lib.hid hq
        replace hend := Lib.hid hend
        go_wp2_with fail
        clear c4 f4 l4
        refine wp_held_np (fun w' : World => (∀ j, w'.cell? ⟨w.heap.size + 1, j, none⟩ = #[Value.int .i64 r.row, .int .i64 r.win, .int .i64 r.many, .int .i64 r.total][j]?) ∧ True) (by kernel_rfl) ?_
        have hSb : Hid (∀ W', Below w1.heap.size w1 W' → (fun w' : World => (∀ j, w'.cell? ⟨w.heap.size + 1, j, none⟩ = #[Value.int .i64 r.row, .int .i64 r.win, .int .i64 r.many, .int .i64 r.total][j]?) ∧ True) W') := by
          show ∀ _, _
          intro W' hb9
          exact ⟨(k4.below hb9).cell, trivial⟩
        have hb9 : Below w1.heap.size w1 w1.drew := (Below.refl _ _).drew
        have hSx := hSb.out _ hb9
        replace k6 := k6.drew
        replace b := b.drew
        have kz := k6.set_ 0 (.int .i64 (T : Int))
        have kz4 := (k4.drew).far (p := ⟨w.heap.size + 1 + 1, 0, none⟩) (by dsimp only; omega) (.int .i64 (T : Int))
        simp only [sA, sZ, sS] at kz
        have bz := b.setCell (p := ⟨w.heap.size + 1 + 1, 0, none⟩) (by dsimp only; omega) (.int .i64 (T : Int))
        generalize w1.drew = wd at *
        refine hTk 0 45 ?_
        refine hTk 1 46 ?_
        refine hTk 2 47 ?_
        refine hTk 3 48 ?_
        refine hTk 4 49 ?_
        refine held_take (i := 5) (v := undef) 50 rfl rfl (by kernel_rfl) (by kernel_rfl) (by kernel_rfl) (fun _ _ _ h => h) (Or.inr ⟨by rfl, rfl⟩) hSx ?_
        try simp only [Act.put, sA, sZ, sS]
        refine held_take (i := 6) (v := undef) 51 rfl rfl (by kernel_rfl) (by kernel_rfl) (by kernel_rfl) (fun _ _ _ h => h) (Or.inr ⟨by rfl, rfl⟩) hSx ?_
        try simp only [Act.put, sA, sZ, sS]
        refine held_take (i := 7) (v := undef) 52 rfl rfl (by kernel_rfl) (by kernel_rfl) (by kernel_rfl) (fun _ _ _ h => h) (Or.inr ⟨by rfl, rfl⟩) hSx ?_
        try simp only [Act.put, sA, sZ, sS]
        refine held_take (i := 8) (v := undef) 53 rfl rfl (by kernel_rfl) (by kernel_rfl) (by kernel_rfl) (fun _ _ _ h => h) (Or.inr ⟨by rfl, rfl⟩) hSx ?_
        try simp only [Act.put, sA, sZ, sS]
        refine hTk 9 54 ?_
        refine hOne 10 fun K hK => ?_
        obtain ⟨Wz, hwz⟩ : ∃ y, y = wd.setCell ⟨w.heap.size + 1 + 1, 0, none⟩ (.int .i64 (T : Int)) := ⟨_, rfl⟩
        rw [← hwz] at kz bz kz4
        obtain ⟨c6, f6, l6⟩ := k6.rules
        go_simp
        rw [← hwz]
        clear hwz c6 f6 l6 hSx
        have hSx : (∀ j, Wz.cell? ⟨w.heap.size + 1, j, none⟩ = #[Value.int .i64 r.row, .int .i64 r.win, .int .i64 r.many, .int .i64 r.total][j]?) ∧ True := ⟨kz4.cell, trivial⟩
        refine hK _ _ hSx ?_
        clear hK K
        try simp only [Act.put, sA, sZ, sS]
        refine hTk 11 7 ?_
        refine wpAnyH_done (by kernel_rfl) (noPanic_normal ?_) _
        clear hSx hSb hb9
        obtain ⟨c6, f6, l6⟩ := kz.rules
        go_wp2_with fail
        refine bodyPost_ret (v := .tuple #[.agg #[.int .i64 (T : Int)], .bool (false)]) (by simp [results, Tryz.results60, go_sem, c6]) rfl ⟨by rw [← hend.out], bz⟩
      | false =>
        rw [hq, Bool.not_false, Bool.true_and] at hend
        replace hq := Lib.hid hq
        replace hend := Lib.hid hend
        go_wp2_with fail
        clear c4 f4 l4
        refine wp_held_np (fun w' : World => (∀ j, w'.cell? ⟨w.heap.size + 1, j, none⟩ = #[Value.int .i64 r.row, .int .i64 r.win, .int .i64 r.many, .int .i64 r.total][j]?) ∧ True) (by kernel_rfl) ?_
        have hSb : Hid (∀ W', Below w1.heap.size w1 W' → (fun w' : World => (∀ j, w'.cell? ⟨w.heap.size + 1, j, none⟩ = #[Value.int .i64 r.row, .int .i64 r.win, .int .i64 r.many, .int .i64 r.total][j]?) ∧ True) W') := by
          show ∀ _, _
          intro W' hb9
          exact ⟨(k4.below hb9).cell, trivial⟩
        have hb9 : Below w1.heap.size w1 w1.drew := (Below.refl _ _).drew
        have hSx := hSb.out _ hb9
        replace k6 := k6.drew
        replace b := b.drew
        have kz := k6.set_ 0 (.int .i64 (T : Int))
        have kz4 := (k4.drew).far (p := ⟨w.heap.size + 1 + 1, 0, none⟩) (by dsimp only; omega) (.int .i64 (T : Int))
        simp only [sA, sZ, sS] at kz
        have bz := b.setCell (p := ⟨w.heap.size + 1 + 1, 0, none⟩) (by dsimp only; omega) (.int .i64 (T : Int))
        generalize w1.drew = wd at *
        refine hTk 0 45 ?_
        refine hTk 1 46 ?_
        refine hTk 2 47 ?_
        refine hTk 3 48 ?_
        refine hTk 4 49 ?_
        refine hTk 5 50 ?_
        refine hTk 6 51 ?_
        refine hTk 7 52 ?_
        refine hTk 8 53 ?_
        refine hTk 9 54 ?_
        refine hOne 10 fun K hK => ?_
        obtain ⟨Wz, hwz⟩ : ∃ y, y = wd.setCell ⟨w.heap.size + 1 + 1, 0, none⟩ (.int .i64 (T : Int)) := ⟨_, rfl⟩
        rw [← hwz] at kz bz kz4
        obtain ⟨c6, f6, l6⟩ := k6.rules
        go_simp
        rw [← hwz]
        clear hwz c6 f6 l6 hSx
        have hSx : (∀ j, Wz.cell? ⟨w.heap.size + 1, j, none⟩ = #[Value.int .i64 r.row, .int .i64 r.win, .int .i64 r.many, .int .i64 r.total][j]?) ∧ True := ⟨kz4.cell, trivial⟩
        refine hK _ _ hSx ?_
        clear hK K
        try simp only [Act.put, sA, sZ, sS]
        refine hTk 11 7 ?_
        refine wpAnyH_done (by kernel_rfl) (noPanic_normal ?_) _
        clear hSx hSb hb9
        obtain ⟨c6, f6, l6⟩ := kz.rules
        go_wp2_with fail
        refine bodyPost_ret (v := .tuple #[.agg #[.int .i64 (T : Int)], .bool (decide (mn < r.many))]) (by simp [results, Tryz.results60, go_sem, c6]) rfl ⟨by rw [← hend.out], bz⟩
theorem bad_nil (A : Option Addr) (c B : Nat) (w : World) (hs : SlAt w B 1 ivs A 0 c ([] : List Int)) :
    Calls Tryz.prog 61 #[.slice A 0 c, .int .i64 0, .int .i64 0] w fun e w' => e = .returned (.int .i64 0) ∧ w = w' := by
  have hmax := max2_int
  have hnc := hs.lec
  clear hs
  cases A with
  | none =>
    go_enter Tryz.func61, Tryz.ntmps61
    go_wp2_with fail
    go_loop [7, 16] (fun v i => v = .int .i64 0 ∧ i = .int .i64 0) (fun v i => 0)
    case atStart => exact ⟨rfl, rfl⟩
    case round =>
      obtain ⟨rfl, rfl⟩ := hrel
      go_wp2_with fail
      go_ret
      exact ⟨rfl, rfl⟩
  | some a =>
    by_cases hc : c = 0
    · subst hc
      go_enter Tryz.func61, Tryz.ntmps61
      go_wp2_with fail
      go_loop [7, 16] (fun v i => v = .int .i64 0 ∧ i = .int .i64 0) (fun v i => 0)
      case atStart => exact ⟨rfl, rfl⟩
      case round =>
        obtain ⟨rfl, rfl⟩ := hrel
        go_wp2_with fail
        go_ret
        exact ⟨rfl, rfl⟩
    · go_enter Tryz.func61, Tryz.ntmps61
      go_wp2_with fail
      go_loop [7, 16] (fun v i => v = .int .i64 0 ∧ i = .int .i64 0) (fun v i => 0)
      case atStart => exact ⟨rfl, rfl⟩
      case round =>
        obtain ⟨rfl, rfl⟩ := hrel
        go_wp2_with fail
        go_ret
        exact ⟨rfl, rfl⟩
theorem badS_nil (fr tt : Int) : badS [] fr tt = 0 := by simp [badS, cnt]
/-- Bad ones from one place to another one, wherever the list lies. -/
theorem bad_all (l : List Int) (A : Option Addr) (n c B : Nat) (fr tt : Int) (w : World) (h1 : 0 ≤ fr) (h2 : fr ≤ tt) (h4 : tt ≤ n) (h5 : fr < n ∨ fr = 0) (hs : SlAt w B 1 ivs A n c l) :
    Calls Tryz.prog 61 #[.slice A n c, .int .i64 fr, .int .i64 tt] w fun e w' => e = .returned (.int .i64 (badS l fr tt)) ∧ w = w' := by
  by_cases hn : 0 < n
  · exact bad_any l A n c B fr tt w (by omega) h2 (by omega) h4 (by omega) hn hs
  · obtain rfl : n = 0 := by omega
    obtain rfl : l = [] := List.length_eq_zero_iff.1 hs.len
    obtain rfl : fr = 0 := by omega
    obtain rfl : tt = 0 := by omega
    rw [badS_nil]
    exact bad_nil A c B w hs
theorem badS_all (l : List Int) : badS l 0 (l.length : Int) = cnt l := by unfold badS; simp
end Go.Proofs.YtcmbmmpihiekhaaGreat
