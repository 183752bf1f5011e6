/-
  Shots, walks of the specification: rules.
-/
import Derived.Test.YtfengddpfeneiaaS8
import Derived.Test.YtfengddpfeneiaaQ12
namespace Go.Proofs.Ytfengddpfeneiaa
open Go.RowKit Go.Shelf
set_option linter.unusedSimpArgs false
set_option linter.unusedVariables false

theorem btwY {n lo hi : Int} (h : lo ≤ n ∧ n ≤ hi) (w : World) : Calls Try.prog 54 #[.int .i64 n, .int .i64 lo, .int .i64 hi] w fun e w' => e = .returned (.bool true) ∧ w = w' := by
  have := Between_any n lo hi w
  rwa [decide_eq_true h] at this
theorem btwN {n lo hi : Int} (h : ¬ (lo ≤ n ∧ n ≤ hi)) (w : World) : Calls Try.prog 54 #[.int .i64 n, .int .i64 lo, .int .i64 hi] w fun e w' => e = .returned (.bool false) ∧ w = w' := by
  have := Between_any n lo hi w
  rwa [decide_eq_false h] at this
set_option maxRecDepth 100000 in
set_option maxHeartbeats 1000000 in
theorem RCheckRules_any (r : Rul) (w : World) :
    Calls Try.prog 44 #[.agg #[.int .i64 r.row, .int .i64 r.win, .int .i64 r.many, .int .i64 r.total]] w fun e w' => e = .returned (.int .i64 (chkRul r)) ∧ Below w.heap.size w w' := by
  have b := (Below.refl w.heap.size w).alloc (Nat.le_refl _) (.cells #[.int .i64 r.row, .int .i64 r.win, .int .i64 r.many, .int .i64 r.total] 57)
  by_cases q1 : 1 ≤ r.row ∧ r.row ≤ 12
  · have h1 := fun W => btwY q1 W
    by_cases q2 : 1 ≤ r.win ∧ r.win ≤ 12
    · have h2 := fun W => btwY q2 W
      by_cases q3 : 1 ≤ r.many ∧ r.many ≤ r.win
      · have h3 := fun W => btwY q3 W
        by_cases q4 : 1 ≤ r.total ∧ r.total ≤ 256
        · have h4 := fun W => btwY q4 W
          have hok : Hid (chkRul r = 0) := by show _ = _; unfold chkRul okRul; rw [decide_eq_true (by omega)]; rfl
          clear q1 q2 q3 q4
          go_enter Try.func44, Try.ntmps44
          go_wp2_with fail
          refine (h1 _).mono ?_
          rintro e w' ⟨rfl, rfl⟩
          go_wp2_with fail
          refine (h2 _).mono ?_
          rintro e w' ⟨rfl, rfl⟩
          go_wp2_with fail
          refine (h3 _).mono ?_
          rintro e w' ⟨rfl, rfl⟩
          go_wp2_with fail
          refine (h4 _).mono ?_
          rintro e w' ⟨rfl, rfl⟩
          go_wp2_with fail
          go_ret
          exact ⟨ret_int hok.out.symm, b⟩
        · have h4 := fun W => btwN q4 W
          have hok : Hid (chkRul r = 54) := by show _ = _; unfold chkRul okRul; rw [decide_eq_false (by omega)]; rfl
          clear q1 q2 q3 q4
          go_enter Try.func44, Try.ntmps44
          go_wp2_with fail
          refine (h1 _).mono ?_
          rintro e w' ⟨rfl, rfl⟩
          go_wp2_with fail
          refine (h2 _).mono ?_
          rintro e w' ⟨rfl, rfl⟩
          go_wp2_with fail
          refine (h3 _).mono ?_
          rintro e w' ⟨rfl, rfl⟩
          go_wp2_with fail
          refine (h4 _).mono ?_
          rintro e w' ⟨rfl, rfl⟩
          go_wp2_with fail
          go_ret
          exact ⟨ret_int hok.out.symm, b⟩
      · have h3 := fun W => btwN q3 W
        have hok : Hid (chkRul r = 54) := by show _ = _; unfold chkRul okRul; rw [decide_eq_false (by omega)]; rfl
        clear q1 q2 q3
        go_enter Try.func44, Try.ntmps44
        go_wp2_with fail
        refine (h1 _).mono ?_
        rintro e w' ⟨rfl, rfl⟩
        go_wp2_with fail
        refine (h2 _).mono ?_
        rintro e w' ⟨rfl, rfl⟩
        go_wp2_with fail
        refine (h3 _).mono ?_
        rintro e w' ⟨rfl, rfl⟩
        go_wp2_with fail
        go_ret
        exact ⟨ret_int hok.out.symm, b⟩
    · have h2 := fun W => btwN q2 W
      have hok : Hid (chkRul r = 54) := by show _ = _; unfold chkRul okRul; rw [decide_eq_false (by omega)]; rfl
      clear q1 q2
      go_enter Try.func44, Try.ntmps44
      go_wp2_with fail
      refine (h1 _).mono ?_
      rintro e w' ⟨rfl, rfl⟩
      go_wp2_with fail
      refine (h2 _).mono ?_
      rintro e w' ⟨rfl, rfl⟩
      go_wp2_with fail
      go_ret
      exact ⟨ret_int hok.out.symm, b⟩
  · have h1 := fun W => btwN q1 W
    have hok : Hid (chkRul r = 54) := by show _ = _; unfold chkRul okRul; rw [decide_eq_false (by omega)]; rfl
    clear q1
    go_enter Try.func44, Try.ntmps44
    go_wp2_with fail
    refine (h1 _).mono ?_
    rintro e w' ⟨rfl, rfl⟩
    go_wp2_with fail
    go_ret
    exact ⟨ret_int hok.out.symm, b⟩
set_option maxRecDepth 100000 in
set_option maxHeartbeats 1000000 in
theorem Rresults_any (l : List Int) (most : Int) (A : Option Addr) (n c B : Nat) (w : World) (hs : SlAt w B 1 ivs A n c l) :
    Calls Try.prog 135 #[.slice A n c, .int .i64 most] w fun e w' => e = .returned (.bool (okRes l most)) ∧ Below w.heap.size w w' := by
  have hn := hs.le
  have hl := Lib.hid hs.len
  go_enter Try.func135, Try.ntmps135
  go_wp2
  go_loopw [5] (fun i wr => ∃ k : Nat, i = .int .i64 (k : Int) ∧ k ≤ n ∧ ((l.take k).all fun n => decide (0 ≤ n ∧ n ≤ most)) = true ∧ wr = w) (fun i wr => n - (intOf i).toNat)
  case atStart => exact ⟨0, rfl, Nat.zero_le _, rfl, rfl⟩
  case round =>
    obtain ⟨k, rfl, hk, hall, hwr⟩ := hrel
    rw [hwr]
    clear hwr wr
    replace hall := Lib.hid hall
    by_cases hlt : k < n
    · obtain ⟨x, hx⟩ := some_of_lt hl.out hlt
      obtain ⟨b, off, hA, -, hbl, c0⟩ := hs.int hx
      have hk0 : (0 : Int) ≤ (k : Int) := by omega
      have hk1 : (k : Int) < (n : Int) := by omega
      subst hA
      by_cases hq : 0 ≤ x ∧ x ≤ most
      · have hB := fun W => btwY hq W
        have h2 := Lib.hid (allTake_succ hall.out hx (decide_eq_true hq))
        replace hx := Lib.hid hx
        clear hq
        go_wp2_with fail
        refine (hB _).mono ?_
        rintro e w' ⟨rfl, rfl⟩
        go_wp2_with fail
        go_roundw
        case rel => exact ⟨k + 1, by go_num, by omega, h2.out, by first | rfl | trivial⟩
        case measure => simp [intOf]; omega
      · have hB := fun W => btwN hq W
        have h2 : Hid (okRes l most = false) := by show _ = _; unfold okRes; rw [all_no hx (decide_eq_false hq)]; simp
        replace hx := Lib.hid hx
        clear hq
        go_wp2_with fail
        refine (hB _).mono ?_
        rintro e w' ⟨rfl, rfl⟩
        go_wp2_with fail
        go_ret
        exact ⟨ret_bool h2.out.symm, Below.refl _ _⟩
    · obtain rfl : k = n := by omega
      have hv : Hid (okRes l most = decide ((k : Int) ≤ 256)) := by
        show _ = _
        have := hall.out
        rw [List.take_of_length_le (by rw [hl.out]; exact Nat.le_refl _)] at this
        unfold okRes
        rw [this, hl.out, Bool.and_true]
        exact dec_eq (by omega)
      go_wp2_with fail
      go_ret
      exact ⟨ret_bool (by rw [hv.out]), Below.refl _ _⟩
set_option maxRecDepth 100000 in
set_option maxHeartbeats 1000000 in
theorem Rbad_any (l : List Int) (A : Option Addr) (n c B i : Nat) (m : Int) (w : World) (hm : 1 ≤ m) (hm2 : m ≤ 17592186044416) (hi : i < n) (hs : SlAt w B 1 ivs A n c l) :
    Calls Try.prog 140 #[.slice A n c, .int .i64 i, .int .i64 m] w fun e w' => e = .returned (.int .i64 (badS l ((i : Int) + 1 - m) ((i : Int) + 1))) ∧ w = w' := by
  have hl := Lib.hid hs.len
  have hn := hs.le
  obtain ⟨lo, hlo⟩ : ∃ lo : Nat, max 0 ((i : Int) - m + 1) = lo := ⟨(max 0 ((i : Int) - m + 1)).toNat, by omega⟩
  have hmax := fun ats ty => (max2_int ats ty 0 ((i : Int) - m + 1)).trans (by rw [hlo])
  have hlh : lo ≤ i := by omega
  have u1 := IntWalk.i64_in ((i : Int) - m) (by omega)
  have u2 := IntWalk.i64_in ((i : Int) - m + 1) (by omega)
  have hlen : Hid (((l.take (i + 1)).drop lo).length = i + 1 - lo) := by show _ = _; rw [List.length_drop, List.length_take, hl.out]; omega
  have hbs : Hid (badS l ((i : Int) + 1 - m) ((i : Int) + 1) = cnt ((l.take (i + 1)).drop lo)) := by show _ = _; unfold badS; rw [show ((i : Int) + 1 - m).toNat = lo by omega, show ((i : Int) + 1).toNat = i + 1 by omega]
  clear hlo
  go_enter Try.func140, Try.ntmps140
  go_wp2_with fail
  clear hmax
  obtain ⟨mm, hmm⟩ : ∃ m, (l.take (i + 1)).drop lo = m := ⟨_, rfl⟩
  rw [hmm] at hlen hbs
  replace hmm := Lib.hid hmm
  go_loopw [7, 8] (fun v j wr => ∃ q : Nat, j = .int .i64 (q : Int) ∧ lo ≤ q ∧ q ≤ i + 1 ∧ v = .int .i64 (cnt (mm.take (q - lo))) ∧ wr = w) (fun v j wr => i + 1 - (intOf j).toNat)
  case atStart => exact ⟨lo, rfl, Nat.le_refl _, by omega, by rw [Nat.sub_self]; rfl, rfl⟩
  case round =>
    obtain ⟨q, rfl, hq1, hq2, rfl, hwr⟩ := hrel
    rw [hwr]
    clear hwr wr
    by_cases hlt : q < i + 1
    · have hk0 : (0 : Int) ≤ (q : Int) := by omega
      have hk1 : (q : Int) < (n : Int) := by omega
      have hk2 : (q : Int) ≤ (i : Int) := by omega
      obtain ⟨x, hx⟩ := some_of_lt hlen.out (show q - lo < i + 1 - lo by omega)
      have hlx : l[q]? = some x := by
        rw [← hmm.out, List.getElem?_drop, List.getElem?_take_of_lt (by omega)] at hx
        rwa [show lo + (q - lo) = q by omega] at hx
      obtain ⟨bb, oo, hA, -, hbl, e0⟩ := hs.int hlx
      subst hA
      have hnx := Lib.hid (cnt_take hx)
      have hcb : cnt (mm.take (q - lo)) ≤ q := by
        have := List.countP_le_length (p := fun x => decide (x = 1)) (l := mm.take (q - lo))
        rw [List.length_take] at this
        unfold cnt; omega
      have hsub : Hid (q + 1 - lo = q - lo + 1) := by show _ = _; omega
      generalize cnt (mm.take (q - lo)) = p at *
      have u1 := IntWalk.i64_in ((p : Int) + 1) (by omega)
      replace hx := Lib.hid hx
      replace hlx := Lib.hid hlx
      by_cases hx1 : x = 1
      · rw [if_pos hx1] at hnx
        subst hx1
        go_wp2_with fail
        go_roundw
        case rel => exact ⟨q + 1, by go_num, by omega, by omega, by rw [hsub.out, hnx.out]; rfl, by first | rfl | trivial⟩
        case measure => simp [intOf]; omega
      · rw [if_neg hx1] at hnx
        have hx2 : (x == 1) = false := by rw [beq_eq_false_iff_ne]; exact hx1
        go_wp2_with fail
        go_roundw
        case rel => exact ⟨q + 1, by go_num, by omega, by omega, by rw [hsub.out, hnx.out]; rfl, by first | rfl | trivial⟩
        case measure => simp [intOf]; omega
    · obtain rfl : q = i + 1 := by omega
      rw [List.take_of_length_le (by rw [hlen.out]; exact Nat.le_refl _)]
      rw [← hbs.out]
      have hk2 : ¬ ((i + 1 : Nat) : Int) ≤ (i : Int) := by omega
      have hk3 : ¬ (i : Int) + 1 ≤ (i : Int) := by omega
      go_wp2_with fail
      go_ret
      exact ⟨rfl, rfl⟩
theorem badS_neg (l : List Int) (i n : Nat) (h : i < n) : badS l ((i : Int) + 1 - n) ((i : Int) + 1) = badS l 0 ((i : Int) + 1) := by
  unfold badS; rw [show ((i : Int) + 1 - n).toNat = 0 by omega]; rfl
set_option maxRecDepth 100000 in
set_option maxHeartbeats 1000000 in
theorem Rbreaks_any (r : Rul) (hr : okRul r = true) (l : List Int) (A : Option Addr) (n c B i : Nat) (w : World) (hi : i < n) (hs : SlAt w B 1 ivs A n c l) :
    Calls Try.prog 119 #[.agg #[.int .i64 r.row, .int .i64 r.win, .int .i64 r.many, .int .i64 r.total], .slice A n c, .int .i64 i] w fun e w' => e = .returned (.int .i64 (brkS r l i)) ∧ Below w.heap.size w w' := by
  obtain ⟨p1, p2, p3, p4, p5, p6, p7, p8⟩ := okRul_is hr
  have hn := hs.le
  have hb1 := fun W (h : SlAt W B 1 ivs A n c l) => flip_w (Rbad_any l A n c B i r.row W (by omega) (by omega) hi h)
  have hb2 := fun W (h : SlAt W B 1 ivs A n c l) => flip_w (Rbad_any l A n c B i r.win W (by omega) (by omega) hi h)
  have hb3 := fun W (h : SlAt W B 1 ivs A n c l) => flip_w (Rbad_any l A n c B i (n : Int) W (by omega) (by omega) hi h)
  rw [badS_neg l i n hi] at hb3
  obtain ⟨w1, hw1⟩ : ∃ w1, w1 = w.alloc (.cells #[.int .i64 r.row, .int .i64 r.win, .int .i64 r.many, .int .i64 r.total] 57) := ⟨_, rfl⟩
  have k3 : Blk w1 w.heap.size 57 #[.int .i64 r.row, .int .i64 r.win, .int .i64 r.many, .int .i64 r.total] := by rw [hw1]; exact Blk.new _ _ _
  have b : Below w.heap.size w w1 := by rw [hw1]; exact (Below.refl _ _).alloc (Nat.le_refl _) _
  have hs1 : SlAt w1 B 1 ivs A n c l := by rw [hw1]; exact hs.alloc _
  clear hs
  unfold brkS
  generalize badS l ((i : Int) + 1 - r.row) ((i : Int) + 1) = q1 at *
  generalize badS l ((i : Int) + 1 - r.win) ((i : Int) + 1) = q2 at *
  generalize badS l 0 ((i : Int) + 1) = q3 at *
  clear hr p1 p2 p3 p4 p5 p6 p7 p8
  by_cases c1 : q1 = r.row
  · rw [if_pos c1]
    have c1' : (q1 == r.row) = true := by rw [beq_iff_eq]; exact c1
    replace c1 := Lib.hid c1
    clear hb2 hb3
    go_enter Try.func119, Try.ntmps119
    go_wp2_with fail
    rw [← hw1]
    clear hw1
    obtain ⟨c3, f3, l3⟩ := k3.rules
    go_wp2_with fail
    go_quiet ((go_at_call 140; exact Calls.quiet_of_same (hb1 _ hs1)))
    clear c3 f3 l3
    replace k3 := k3.below (below_drewN (Below.refl _ _) nq)
    replace b := b.trans ((below_drewN (Below.refl _ _) nq).mono b.size)
    replace hs1 := hs1.drewN nq
    generalize w1.drewN nq = w2 at *
    go_wp2_with fail
    go_ret
    exact ⟨rfl, b⟩
  · rw [if_neg c1]
    have c1' : (q1 == r.row) = false := by rw [beq_eq_false_iff_ne]; exact c1
    replace c1 := Lib.hid c1
    by_cases c2 : r.many ≤ q2
    · rw [if_pos c2]
      clear hb3
      go_enter Try.func119, Try.ntmps119
      go_wp2_with fail
      rw [← hw1]
      clear hw1
      obtain ⟨c3, f3, l3⟩ := k3.rules
      go_wp2_with fail
      go_quiet ((go_at_call 140; exact Calls.quiet_of_same (hb1 _ hs1)))
      clear c3 f3 l3
      replace k3 := k3.below (below_drewN (Below.refl _ _) nq)
      replace b := b.trans ((below_drewN (Below.refl _ _) nq).mono b.size)
      replace hs1 := hs1.drewN nq
      generalize w1.drewN nq = w2 at *
      obtain ⟨c3, f3, l3⟩ := k3.rules
      go_wp2_with fail
      go_quiet ((go_at_call 140; exact Calls.quiet_of_same (hb2 _ hs1)))
      clear c3 f3 l3
      replace k3 := k3.below (below_drewN (Below.refl _ _) nq)
      replace b := b.trans ((below_drewN (Below.refl _ _) nq).mono b.size)
      replace hs1 := hs1.drewN nq
      generalize w2.drewN nq = w3 at *
      go_wp2_with fail
      go_ret
      exact ⟨rfl, b⟩
    · rw [if_neg c2]
      by_cases c3 : r.total ≤ q3
      · rw [if_pos c3]
        replace c3 := Lib.hid c3
        have c3' : decide (q3 ≥ r.total) = true := decide_eq_true c3.out
        go_enter Try.func119, Try.ntmps119
        go_wp2_with fail
        rw [← hw1]
        clear hw1
        obtain ⟨c3, f3, l3⟩ := k3.rules
        go_wp2_with fail
        go_quiet ((go_at_call 140; exact Calls.quiet_of_same (hb1 _ hs1)))
        clear c3 f3 l3
        replace k3 := k3.below (below_drewN (Below.refl _ _) nq)
        replace b := b.trans ((below_drewN (Below.refl _ _) nq).mono b.size)
        replace hs1 := hs1.drewN nq
        generalize w1.drewN nq = w2 at *
        obtain ⟨c3, f3, l3⟩ := k3.rules
        go_wp2_with fail
        go_quiet ((go_at_call 140; exact Calls.quiet_of_same (hb2 _ hs1)))
        clear c3 f3 l3
        replace k3 := k3.below (below_drewN (Below.refl _ _) nq)
        replace b := b.trans ((below_drewN (Below.refl _ _) nq).mono b.size)
        replace hs1 := hs1.drewN nq
        generalize w2.drewN nq = w3 at *
        obtain ⟨c3, f3, l3⟩ := k3.rules
        go_wp2_with fail
        go_quiet ((go_at_call 140; exact Calls.quiet_of_same (hb3 _ hs1)))
        clear c3 f3 l3
        replace k3 := k3.below (below_drewN (Below.refl _ _) nq)
        replace b := b.trans ((below_drewN (Below.refl _ _) nq).mono b.size)
        replace hs1 := hs1.drewN nq
        generalize w3.drewN nq = w4 at *
        go_wp2_with fail
        go_ret
        exact ⟨rfl, b⟩
      · rw [if_neg c3]
        replace c3 := Lib.hid c3
        have c3' : decide (q3 ≥ r.total) = false := decide_eq_false c3.out
        go_enter Try.func119, Try.ntmps119
        go_wp2_with fail
        rw [← hw1]
        clear hw1
        obtain ⟨c3, f3, l3⟩ := k3.rules
        go_wp2_with fail
        go_quiet ((go_at_call 140; exact Calls.quiet_of_same (hb1 _ hs1)))
        clear c3 f3 l3
        replace k3 := k3.below (below_drewN (Below.refl _ _) nq)
        replace b := b.trans ((below_drewN (Below.refl _ _) nq).mono b.size)
        replace hs1 := hs1.drewN nq
        generalize w1.drewN nq = w2 at *
        obtain ⟨c3, f3, l3⟩ := k3.rules
        go_wp2_with fail
        go_quiet ((go_at_call 140; exact Calls.quiet_of_same (hb2 _ hs1)))
        clear c3 f3 l3
        replace k3 := k3.below (below_drewN (Below.refl _ _) nq)
        replace b := b.trans ((below_drewN (Below.refl _ _) nq).mono b.size)
        replace hs1 := hs1.drewN nq
        generalize w2.drewN nq = w3 at *
        obtain ⟨c3, f3, l3⟩ := k3.rules
        go_wp2_with fail
        go_quiet ((go_at_call 140; exact Calls.quiet_of_same (hb3 _ hs1)))
        clear c3 f3 l3
        replace k3 := k3.below (below_drewN (Below.refl _ _) nq)
        replace b := b.trans ((below_drewN (Below.refl _ _) nq).mono b.size)
        replace hs1 := hs1.drewN nq
        generalize w3.drewN nq = w4 at *
        go_wp2_with fail
        go_ret
        exact ⟨rfl, b⟩
set_option maxRecDepth 100000 in
set_option maxHeartbeats 1000000 in
theorem Rjudge_any (r : Rul) (hr : okRul r = true) (l : List Int) (A : Option Addr) (n c B : Nat) (w : World) (hs : SlAt w B 1 ivs A n c l) :
    Calls Try.prog 101 #[.agg #[.int .i64 r.row, .int .i64 r.win, .int .i64 r.many, .int .i64 r.total], .slice A n c] w fun e w' => e = .returned (.tuple #[.int .i64 (judgeS r l).1, .int .i64 (judgeS r l).2]) ∧ Below w.heap.size w w' := by
  have hl := Lib.hid hs.len
  have hn := hs.le
  have hbr := Lib.hid (fun i W (hi : i < n) (h : SlAt W B 1 ivs A n c l) => Rbreaks_any r hr l A n c B i W hi h)
  obtain ⟨w1, hw1⟩ : ∃ w1, w1 = w.alloc (.cells #[.int .i64 r.row, .int .i64 r.win, .int .i64 r.many, .int .i64 r.total] 57) := ⟨_, rfl⟩
  have k3 : Blk w1 w.heap.size 57 #[.int .i64 r.row, .int .i64 r.win, .int .i64 r.many, .int .i64 r.total] := by rw [hw1]; exact Blk.new _ _ _
  have b : Below w.heap.size w w1 := by rw [hw1]; exact (Below.refl _ _).alloc (Nat.le_refl _) _
  have hs1 : SlAt w1 B 1 ivs A n c l := by rw [hw1]; exact hs.alloc _
  clear hs
  go_enter Try.func101, Try.ntmps101
  go_wp2_with fail
  rw [← hw1]
  clear hw1
  go_loopw [6] (fun i wr => ∃ k : Nat, i = .int .i64 (k : Int) ∧ k ≤ n ∧ noBrk r l k ∧ Below w1.heap.size w1 wr) (fun i wr => n - (intOf i).toNat)
  case atStart => exact ⟨0, rfl, Nat.zero_le _, rfl, Below.refl _ _⟩
  case round =>
    obtain ⟨k, rfl, hk, hno, hb⟩ := hrel
    replace hno := Lib.hid hno
    by_cases hlt : k < n
    · have hk0 : (0 : Int) ≤ (k : Int) := by omega
      have hk1 : (k : Int) < (n : Int) := by omega
      have hbk := fun W h => hbr.out k W hlt h
      have hsr := hs1.below hb
      have k3r := k3.below hb
      obtain ⟨c3, f3, l3⟩ := k3r.rules
      go_wp2_with fail
      refine (hbk _ hsr).mono ?_
      rintro e W ⟨rfl, hb2⟩
      clear hbk c3 f3 l3
      have hb3 := hb.trans (hb2.mono hb.size)
      by_cases hz : brkS r l k = 0
      · have hnx := Lib.hid (judge_next hno.out (by rw [hl.out]; exact hlt) hz)
        rw [hz]
        replace hz := Lib.hid hz
        go_wp2_with fail
        go_roundw
        case rel => exact ⟨k + 1, by go_num, by omega, hnx.out, hb3⟩
        case measure => simp [intOf]; omega
      · have hht := Lib.hid (judge_hit hno.out (by rw [hl.out]; exact hlt) hz)
        generalize brkS r l k = q at *
        have hz2 : (q != 0) = true := by rw [bne_iff_ne]; exact hz
        replace hz := Lib.hid hz
        go_wp2_with fail
        go_ret2
        exact ⟨by rw [hht.out]; rfl, b.trans (hb3.mono b.size)⟩
    · have hms := Lib.hid (judge_miss hno.out (by rw [hl.out]; omega))
      rw [hl.out] at hms
      go_wp2_with fail
      go_ret2
      exact ⟨by rw [hms.out]; rfl, b.trans (hb.mono b.size)⟩
set_option maxRecDepth 100000 in
set_option maxHeartbeats 1000000 in
theorem Rgiven_any (r : Rul) (l : List Int) (most : Int) (A : Option Addr) (n c B : Nat) (w : World) (hs : SlAt w B 1 ivs A n c l) :
    Calls Try.prog 100 #[.agg #[.int .i64 r.row, .int .i64 r.win, .int .i64 r.many, .int .i64 r.total], .slice A n c, .int .i64 most] w fun e w' => e = .returned (.int .i64 (errJ r l most)) ∧ Below w.heap.size w w' := by
  have h1 := fun W => RCheckRules_any r W
  have h2 := fun W h => Rresults_any l most A n c B W h
  obtain ⟨w1, hw1⟩ : ∃ w1, w1 = w.alloc (.cells #[.int .i64 r.row, .int .i64 r.win, .int .i64 r.many, .int .i64 r.total] 57) := ⟨_, rfl⟩
  have k3 : Blk w1 w.heap.size 57 #[.int .i64 r.row, .int .i64 r.win, .int .i64 r.many, .int .i64 r.total] := by rw [hw1]; exact Blk.new _ _ _
  have b : Below w.heap.size w w1 := by rw [hw1]; exact (Below.refl _ _).alloc (Nat.le_refl _) _
  have hs1 : SlAt w1 B 1 ivs A n c l := by rw [hw1]; exact hs.alloc _
  clear hs
  unfold errJ
  unfold chkRul at h1
  by_cases hr : okRul r = true
  · rw [if_pos hr] at *
    cases hl : okRes l most with
    | true =>
      simp only [hl] at h2
      clear hl hr
      go_enter Try.func100, Try.ntmps100
      go_wp2_with fail
      rw [← hw1]
      clear hw1
      obtain ⟨c3, f3, l3⟩ := k3.rules
      go_wp2_with fail
      refine (h1 _).mono ?_
      rintro e W ⟨rfl, hb⟩
      clear c3 f3 l3
      replace k3 := k3.below hb
      replace b := b.trans (hb.mono b.size)
      replace hs1 := hs1.below hb
      clear hb
      go_wp2_with fail
      refine (h2 _ hs1).mono ?_
      rintro e W ⟨rfl, hb⟩
      go_wp2
      go_ret
      exact ⟨rfl, b.trans (hb.mono b.size)⟩
    | false =>
      simp only [hl] at h2
      clear hl hr
      go_enter Try.func100, Try.ntmps100
      go_wp2_with fail
      rw [← hw1]
      clear hw1
      obtain ⟨c3, f3, l3⟩ := k3.rules
      go_wp2_with fail
      refine (h1 _).mono ?_
      rintro e W ⟨rfl, hb⟩
      clear c3 f3 l3
      replace k3 := k3.below hb
      replace b := b.trans (hb.mono b.size)
      replace hs1 := hs1.below hb
      clear hb
      go_wp2_with fail
      refine (h2 _ hs1).mono ?_
      rintro e W ⟨rfl, hb⟩
      go_wp2
      go_ret
      exact ⟨rfl, b.trans (hb.mono b.size)⟩
  · rw [if_neg hr] at *
    clear h2 hr
    go_enter Try.func100, Try.ntmps100
    go_wp2_with fail
    rw [← hw1]
    clear hw1
    obtain ⟨c3, f3, l3⟩ := k3.rules
    go_wp2_with fail
    refine (h1 _).mono ?_
    rintro e W ⟨rfl, hb⟩
    clear c3 f3 l3
    go_wp2
    go_ret
    exact ⟨rfl, b.trans (hb.mono b.size)⟩
set_option maxRecDepth 100000 in
set_option maxHeartbeats 1000000 in
theorem RJudge_any (r : Rul) (l : List Int) (A : Option Addr) (n c B : Nat) (w : World) (hs : SlAt w B 1 ivs A n c l) :
    Calls Try.prog 42 #[.agg #[.int .i64 r.row, .int .i64 r.win, .int .i64 r.many, .int .i64 r.total], .slice A n c] w fun e w' => e = .returned (.tuple #[.int .i64 (judgeR r l).1, .int .i64 (judgeR r l).2.1, .int .i64 (judgeR r l).2.2]) ∧ Below w.heap.size w w' := by
  have h1 := fun W h => Rgiven_any r l 1 A n c B W h
  obtain ⟨w1, hw1⟩ : ∃ w1, w1 = w.alloc (.cells #[.int .i64 r.row, .int .i64 r.win, .int .i64 r.many, .int .i64 r.total] 57) := ⟨_, rfl⟩
  have k3 : Blk w1 w.heap.size 57 #[.int .i64 r.row, .int .i64 r.win, .int .i64 r.many, .int .i64 r.total] := by rw [hw1]; exact Blk.new _ _ _
  have b : Below w.heap.size w w1 := by rw [hw1]; exact (Below.refl _ _).alloc (Nat.le_refl _) _
  have hs1 : SlAt w1 B 1 ivs A n c l := by rw [hw1]; exact hs.alloc _
  clear hs
  unfold judgeR
  by_cases her : errJ r l 1 = 0
  · rw [if_pos her]
    have hr : okRul r = true := (errJ_ok her).1
    have h2 := fun W h => Rjudge_any r hr l A n c B W h
    rw [her] at h1
    clear her hr
    go_enter Try.func42, Try.ntmps42
    go_wp2_with fail
    rw [← hw1]
    clear hw1
    obtain ⟨c3, f3, l3⟩ := k3.rules
    go_wp2_with fail
    refine (h1 _ hs1).mono ?_
    rintro e W ⟨rfl, hb⟩
    clear c3 f3 l3
    replace k3 := k3.below hb
    replace b := b.trans (hb.mono b.size)
    replace hs1 := hs1.below hb
    clear hb
    obtain ⟨c3, f3, l3⟩ := k3.rules
    go_wp2_with fail
    refine (h2 _ hs1).mono ?_
    rintro e W ⟨rfl, hb⟩
    clear c3 f3 l3
    go_wp2_with fail
    go_ret3
    exact ⟨rfl, b.trans (hb.mono b.size)⟩
  · rw [if_neg her]
    generalize errJ r l 1 = q at *
    have hz2 : (q != 0) = true := by rw [bne_iff_ne]; exact her
    replace her := Lib.hid her
    go_enter Try.func42, Try.ntmps42
    go_wp2_with fail
    rw [← hw1]
    clear hw1
    obtain ⟨c3, f3, l3⟩ := k3.rules
    go_wp2_with fail
    refine (h1 _ hs1).mono ?_
    rintro e W ⟨rfl, hb⟩
    clear c3 f3 l3
    go_wp2_with fail
    go_ret3
    exact ⟨rfl, b.trans (hb.mono b.size)⟩
theorem knownL_at {l : List Int} {x y : Int} {k : Nat} (h : l[k]? = some y) : (knownL l x)[k]? = some (if y = 2 then x else y) := by
  unfold knownL; rw [List.getElem?_map, h]; rfl
set_option maxRecDepth 100000 in
set_option maxHeartbeats 1000000 in
theorem Rknown_any (l : List Int) (x : Int) (A : Option Addr) (n c B : Nat) (w : World) (hn : n ≤ 1000) (hs : SlAt w B 1 ivs A n c l) :
    Calls Try.prog 103 #[.slice A n c, .int .i64 x] w fun e w' => ∃ O co, e = .returned (.slice O n co) ∧ SlAt w' w.heap.size 1 ivs O n co (knownL l x) ∧ Below w.heap.size w w' := by
  have hl := Lib.hid hs.len
  go_enter Try.func103, Try.ntmps103
  go_wp2_with fail
  go_loopw [5, 6] (fun u i wr => ∃ k : Nat, i = .int .i64 (k : Int) ∧ k ≤ n ∧ wr.ownsRow w.heap.size 3 1 u k (((knownL l x).take k).map (.int .i64 ·)) ∧ Below w.heap.size w wr) (fun u i wr => n - (intOf i).toNat)
  case atStart => exact ⟨0, rfl, Nat.zero_le _, ⟨rfl, .inl ⟨rfl, rfl⟩⟩, Below.refl _ _⟩
  case round =>
    obtain ⟨k, rfl, hk, hown, hb⟩ := hrel
    by_cases hlt : k < n
    · have hk0 : (0 : Int) ≤ (k : Int) := by omega
      have hk1 : (k : Int) < (n : Int) := by omega
      obtain ⟨y, hy⟩ := some_of_lt hl.out hlt
      obtain ⟨ba, oa, hA, -, hbl, e0⟩ := (hs.below hb).int hy
      have hke := knownL_at (x := x) hy
      subst hA
      replace hy := Lib.hid hy
      by_cases h2 : y = 2
      · rw [if_pos h2] at hke
        have htk : Hid (((knownL l x).take (k + 1)).map (Value.int .i64 ·) = ((knownL l x).take k).map (.int .i64 ·) ++ [.int .i64 x]) := by show _ = _; rw [List.take_add_one, hke]; simp
        clear hke
        subst h2
        have hbig1 : Hid (k + 1 ≤ maxLen) := by show k + 1 ≤ maxLen; unfold maxLen; omega
        have hbig2 : Hid ((k + 1) * 8 ≤ 140737488355328) := by show (k + 1) * 8 ≤ 140737488355328; omega
        obtain ⟨i0, hi0, hz0, hz1, hz2⟩ := info_parts Try.infoInt
        have hnews : ∀ (j : Nat) (u : Value), ([.int .i64 (x)] : List Value)[j]? = some u → (wr.alloc (.cells #[.int .i64 (x)] 3)).cell? ((⟨wr.heap.size, 0, none⟩ : Addr).add j) = some u :=
          World.news_of_block (cs := #[.int .i64 (x)]) (World.alloc_heap_new wr _)
        have hownf := hown.alloc (.cells #[.int .i64 (x)] 3)
        have hbf := hb.alloc hb.size (.cells #[.int .i64 (x)] 3)
        go_wp2_with (at_builtin; refine wpList_append_lies _ rfl (.tmp 18) (.tmp 20) 22 rfl w.heap.size 3 i0 (.int .i64 0) 1 8 Try.underlying22 hi0 hz0 hz1 hz2 rfl (by decide) u5 k (((knownL l x).take k).map (.int .i64 ·)) rfl hownf ⟨wr.heap.size, 0, none⟩ 1 1 [.int .i64 (x)] rfl rfl hnews (by simp [Value.oneCell']) (by decide) hbig1.out hbig2.out (hbf.size) (wr.heap.size + 1) (by simp) ?_; intro g cap w7 hown7 hgrow hlies hlt7)
        have hbg : Below w.heap.size _ w7 := ⟨hgrow.os, hgrow.tape, hgrow.output, hgrow.size, fun b hb2 => hgrow.block b (Nat.lt_of_lt_of_le hb2 hbf.size) (fun e => by have := (hownf.lt _ e.symm).1; omega)⟩
        have hbh := hbf.trans hbg
        go_roundw
        case rel => exact ⟨k + 1, by go_num, by omega, by rw [htk.out]; exact hown7, hbh⟩
        case measure => simp [intOf]; omega
      · rw [if_neg h2] at hke
        have htk : Hid (((knownL l x).take (k + 1)).map (Value.int .i64 ·) = ((knownL l x).take k).map (.int .i64 ·) ++ [.int .i64 y]) := by show _ = _; rw [List.take_add_one, hke]; simp
        have h3 : (y == 2) = false := by rw [beq_eq_false_iff_ne]; exact h2
        clear hke
        have hbig1 : Hid (k + 1 ≤ maxLen) := by show k + 1 ≤ maxLen; unfold maxLen; omega
        have hbig2 : Hid ((k + 1) * 8 ≤ 140737488355328) := by show (k + 1) * 8 ≤ 140737488355328; omega
        obtain ⟨i0, hi0, hz0, hz1, hz2⟩ := info_parts Try.infoInt
        have hnews : ∀ (j : Nat) (u : Value), ([.int .i64 (y)] : List Value)[j]? = some u → (wr.alloc (.cells #[.int .i64 (y)] 3)).cell? ((⟨wr.heap.size, 0, none⟩ : Addr).add j) = some u :=
          World.news_of_block (cs := #[.int .i64 (y)]) (World.alloc_heap_new wr _)
        have hownf := hown.alloc (.cells #[.int .i64 (y)] 3)
        have hbf := hb.alloc hb.size (.cells #[.int .i64 (y)] 3)
        go_wp2_with (at_builtin; refine wpList_append_lies _ rfl (.tmp 22) (.tmp 27) 22 rfl w.heap.size 3 i0 (.int .i64 0) 1 8 Try.underlying22 hi0 hz0 hz1 hz2 rfl (by decide) u5 k (((knownL l x).take k).map (.int .i64 ·)) rfl hownf ⟨wr.heap.size, 0, none⟩ 1 1 [.int .i64 (y)] rfl rfl hnews (by simp [Value.oneCell']) (by decide) hbig1.out hbig2.out (hbf.size) (wr.heap.size + 1) (by simp) ?_; intro g cap w7 hown7 hgrow hlies hlt7)
        have hbg : Below w.heap.size _ w7 := ⟨hgrow.os, hgrow.tape, hgrow.output, hgrow.size, fun b hb2 => hgrow.block b (Nat.lt_of_lt_of_le hb2 hbf.size) (fun e => by have := (hownf.lt _ e.symm).1; omega)⟩
        have hbh := hbf.trans hbg
        go_roundw
        case rel => exact ⟨k + 1, by go_num, by omega, by rw [htk.out]; exact hown7, hbh⟩
        case measure => simp [intOf]; omega
    · obtain rfl : k = n := by omega
      rw [List.take_of_length_le (by rw [knownL_len, hl.out]; exact Nat.le_refl _)] at hown
      obtain ⟨P, pc, rfl, hP1⟩ := SlAt.of_own (enc := ivs) hown (by omega) (knownL l x) (flatMap_ivs _).symm (fun _ => rfl) (by rw [knownL_len]; exact hl.out)
      go_wp2_with fail
      go_ret
      exact ⟨P, pc, rfl, hP1, hb⟩
set_option maxRecDepth 100000 in
set_option maxHeartbeats 2000000 in
theorem RForesee_any (r : Rul) (l : List Int) (A : Option Addr) (n c B : Nat) (w : World) (hs : SlAt w B 1 ivs A n c l) :
    Calls Try.prog 46 #[.agg #[.int .i64 r.row, .int .i64 r.win, .int .i64 r.many, .int .i64 r.total], .slice A n c] w fun e w' => e = .returned (.tuple #[.agg #[.int .i64 (foreR r l).1.lo, .int .i64 (foreR r l).1.hi], .int .i64 (foreR r l).2]) ∧ Below w.heap.size w w' := by
  have h1 := fun W h => Rgiven_any r l 2 A n c B W h
  have hl := Lib.hid hs.len
  obtain ⟨w1, hw1⟩ : ∃ w1, w1 = (w.alloc (.cells #[.int .i64 r.row, .int .i64 r.win, .int .i64 r.many, .int .i64 r.total] 57)).alloc (.cells #[.int .i64 0, .int .i64 0] 62) := ⟨_, rfl⟩
  have k3 : Blk w1 w.heap.size 57 #[.int .i64 r.row, .int .i64 r.win, .int .i64 r.many, .int .i64 r.total] := by rw [hw1]; exact (Blk.new _ _ _).alloc _
  have k4 : Blk w1 (w.heap.size + 1) 62 #[.int .i64 0, .int .i64 0] := by rw [hw1]; exact Blk.newAt (by simp)
  have b : Below w.heap.size w w1 := by rw [hw1]; exact ((Below.refl _ _).alloc (Nat.le_refl _) _).alloc (by simp) _
  have hs1 : SlAt w1 B 1 ivs A n c l := by rw [hw1]; exact (hs.alloc _).alloc _
  clear hs
  unfold foreR
  by_cases her : errJ r l 2 = 0
  · rw [if_pos her]
    obtain ⟨hr, hok⟩ := errJ_ok her
    have hn : n ≤ 1000 := by have := okRes_len hok; rw [hl.out] at this; omega
    have hkn := fun x W h => Rknown_any l x A n c B W hn h
    have hju := fun m A n c B W h => Rjudge_any r hr m A n c B W h
    rw [her] at h1
    clear her hr hok
    unfold foreS
    dsimp only
    go_enter Try.func46, Try.ntmps46
    go_wp2_with fail
    rw [← hw1]
    clear hw1
    obtain ⟨c3, f3, l3⟩ := k3.rules
    go_wp2_with fail
    refine (h1 _ hs1).mono ?_
    rintro e W ⟨rfl, hb⟩
    clear c3 f3 l3 h1
    replace k3 := k3.below hb
    replace k4 := k4.below hb
    replace b := b.trans (hb.mono b.size)
    replace hs1 := hs1.below hb
    clear hb
    go_wp2_with fail
    refine wp_held_np (fun w' : World => (∀ j, w'.cell? ⟨w.heap.size, j, none⟩ = #[Value.int .i64 r.row, .int .i64 r.win, .int .i64 r.many, .int .i64 r.total][j]?) ∧ True) (by kernel_rfl) ?_
    replace k3 := k3.drew
    replace k4 := k4.drew
    replace b := b.drew
    replace hs1 := hs1.drew
    generalize W.drew = wd at *
    have hS : (fun w' : World => (∀ j, w'.cell? ⟨w.heap.size, j, none⟩ = #[Value.int .i64 r.row, .int .i64 r.win, .int .i64 r.many, .int .i64 r.total][j]?) ∧ True) wd := ⟨k3.cell, trivial⟩
    refine held_take (i := 0) (v := ?_) 19 rfl rfl (by kernel_rfl) (by kernel_rfl) (by kernel_rfl) (fun _ _ _ h => h) (Or.inl ⟨by rfl, ?_⟩) hS ?_
    rotate_left 1
    · intro w' hSw
      try dsimp only at hSw
      obtain ⟨q1, q2⟩ := hSw
      go_simp
      all_goals with_reducible rfl
    try simp only [Act.put, List.setIfInBounds_toArray, List.set_cons_zero, List.set_cons_succ]
    refine held_take (i := 1) (v := ?_) 20 rfl rfl (by kernel_rfl) (by kernel_rfl) (by kernel_rfl) (fun _ _ _ h => h) (Or.inl ⟨by rfl, ?_⟩) hS ?_
    rotate_left 1
    · intro w' hSw
      try dsimp only at hSw
      obtain ⟨q1, q2⟩ := hSw
      go_simp
      all_goals with_reducible rfl
    try simp only [Act.put, List.setIfInBounds_toArray, List.set_cons_zero, List.set_cons_succ]
    clear hS
    refine held_one (i := 2) (by kernel_rfl) rfl rfl (fun K hK => ?_)
    go_simp
    refine (hkn 1 _ hs1).mono ?_
    rintro e Wk ⟨O, co, rfl, hO, hb⟩
    replace k3 := k3.below hb
    replace k4 := k4.below hb
    replace b := b.trans (hb.mono b.size)
    replace hs1 := hs1.below hb
    clear hb
    refine hK _ _ ⟨k3.cell, trivial⟩ ?_
    clear hK K
    try simp only [Act.put, List.setIfInBounds_toArray, List.set_cons_zero, List.set_cons_succ]
    refine held_one (i := 3) (by kernel_rfl) rfl rfl (fun K hK => ?_)
    go_simp
    refine (hju (knownL l 1) _ _ _ _ _ hO).mono ?_
    rintro e W5 ⟨rfl, hb⟩
    clear hO
    replace k3 := k3.below hb
    replace k4 := k4.below hb
    replace b := b.trans (hb.mono b.size)
    replace hs1 := hs1.below hb
    clear hb
    refine hK _ _ ⟨k3.cell, trivial⟩ ?_
    clear hK K
    try simp only [Act.put, List.setIfInBounds_toArray, List.set_cons_zero, List.set_cons_succ]
    have hS : (fun w' : World => (∀ j, w'.cell? ⟨w.heap.size, j, none⟩ = #[Value.int .i64 r.row, .int .i64 r.win, .int .i64 r.many, .int .i64 r.total][j]?) ∧ True) W5 := ⟨k3.cell, trivial⟩
    refine held_take (i := 4) (v := ?_) 18 rfl rfl (by kernel_rfl) (by kernel_rfl) (by kernel_rfl) (fun _ _ _ h => h) (Or.inl ⟨by rfl, ?_⟩) hS ?_
    rotate_left 1
    · intro w' hSw
      try dsimp only at hSw
      obtain ⟨q1, q2⟩ := hSw
      go_simp
      all_goals with_reducible rfl
    try simp only [Act.put, List.setIfInBounds_toArray, List.set_cons_zero, List.set_cons_succ]
    refine held_take (i := 5) (v := ?_) 23 rfl rfl (by kernel_rfl) (by kernel_rfl) (by kernel_rfl) (fun _ _ _ h => h) (Or.inl ⟨by rfl, ?_⟩) hS ?_
    rotate_left 1
    · intro w' hSw
      try dsimp only at hSw
      obtain ⟨q1, q2⟩ := hSw
      go_simp
      all_goals with_reducible rfl
    try simp only [Act.put, List.setIfInBounds_toArray, List.set_cons_zero, List.set_cons_succ]
    refine held_take (i := 6) (v := ?_) 24 rfl rfl (by kernel_rfl) (by kernel_rfl) (by kernel_rfl) (fun _ _ _ h => h) (Or.inl ⟨by rfl, ?_⟩) hS ?_
    rotate_left 1
    · intro w' hSw
      try dsimp only at hSw
      obtain ⟨q1, q2⟩ := hSw
      go_simp
      all_goals with_reducible rfl
    try simp only [Act.put, List.setIfInBounds_toArray, List.set_cons_zero, List.set_cons_succ]
    refine held_take (i := 7) (v := ?_) 7 rfl rfl (by kernel_rfl) (by kernel_rfl) (by kernel_rfl) (fun _ _ _ h => h) (Or.inl ⟨by rfl, ?_⟩) hS ?_
    rotate_left 1
    · intro w' hSw
      try dsimp only at hSw
      obtain ⟨q1, q2⟩ := hSw
      go_simp
      all_goals with_reducible rfl
    try simp only [Act.put, List.setIfInBounds_toArray, List.set_cons_zero, List.set_cons_succ]
    refine held_take (i := 8) (v := ?_) 8 rfl rfl (by kernel_rfl) (by kernel_rfl) (by kernel_rfl) (fun _ _ _ h => h) (Or.inl ⟨by rfl, ?_⟩) hS ?_
    rotate_left 1
    · intro w' hSw
      try dsimp only at hSw
      obtain ⟨q1, q2⟩ := hSw
      go_simp
      all_goals with_reducible rfl
    try simp only [Act.put, List.setIfInBounds_toArray, List.set_cons_zero, List.set_cons_succ]
    refine wpAnyH_done (by kernel_rfl) (noPanic_normal ?_) _
    clear hS
    try simp only [Act.put, List.setIfInBounds_toArray, List.set_cons_zero, List.set_cons_succ]
    go_wp2_with fail
    refine wp_held_np (fun w' : World => (∀ j, w'.cell? ⟨w.heap.size, j, none⟩ = #[Value.int .i64 r.row, .int .i64 r.win, .int .i64 r.many, .int .i64 r.total][j]?) ∧ True) (by kernel_rfl) ?_
    replace k3 := k3.drew
    replace k4 := k4.drew
    replace b := b.drew
    replace hs1 := hs1.drew
    generalize W5.drew = wd at *
    have hS : (fun w' : World => (∀ j, w'.cell? ⟨w.heap.size, j, none⟩ = #[Value.int .i64 r.row, .int .i64 r.win, .int .i64 r.many, .int .i64 r.total][j]?) ∧ True) wd := ⟨k3.cell, trivial⟩
    refine held_take (i := 0) (v := ?_) 26 rfl rfl (by kernel_rfl) (by kernel_rfl) (by kernel_rfl) (fun _ _ _ h => h) (Or.inl ⟨by rfl, ?_⟩) hS ?_
    rotate_left 1
    · intro w' hSw
      try dsimp only at hSw
      obtain ⟨q1, q2⟩ := hSw
      go_simp
      all_goals with_reducible rfl
    try simp only [Act.put, List.setIfInBounds_toArray, List.set_cons_zero, List.set_cons_succ]
    refine held_take (i := 1) (v := ?_) 27 rfl rfl (by kernel_rfl) (by kernel_rfl) (by kernel_rfl) (fun _ _ _ h => h) (Or.inl ⟨by rfl, ?_⟩) hS ?_
    rotate_left 1
    · intro w' hSw
      try dsimp only at hSw
      obtain ⟨q1, q2⟩ := hSw
      go_simp
      all_goals with_reducible rfl
    try simp only [Act.put, List.setIfInBounds_toArray, List.set_cons_zero, List.set_cons_succ]
    clear hS
    refine held_one (i := 2) (by kernel_rfl) rfl rfl (fun K hK => ?_)
    go_simp
    refine (hkn 0 _ hs1).mono ?_
    rintro e Wk ⟨O, co, rfl, hO, hb⟩
    replace k3 := k3.below hb
    replace k4 := k4.below hb
    replace b := b.trans (hb.mono b.size)
    replace hs1 := hs1.below hb
    clear hb
    refine hK _ _ ⟨k3.cell, trivial⟩ ?_
    clear hK K
    try simp only [Act.put, List.setIfInBounds_toArray, List.set_cons_zero, List.set_cons_succ]
    refine held_one (i := 3) (by kernel_rfl) rfl rfl (fun K hK => ?_)
    go_simp
    refine (hju (knownL l 0) _ _ _ _ _ hO).mono ?_
    rintro e W6 ⟨rfl, hb⟩
    clear hO
    replace k3 := k3.below hb
    replace k4 := k4.below hb
    replace b := b.trans (hb.mono b.size)
    replace hs1 := hs1.below hb
    clear hb
    refine hK _ _ ⟨k3.cell, trivial⟩ ?_
    clear hK K
    try simp only [Act.put, List.setIfInBounds_toArray, List.set_cons_zero, List.set_cons_succ]
    have hS : (fun w' : World => (∀ j, w'.cell? ⟨w.heap.size, j, none⟩ = #[Value.int .i64 r.row, .int .i64 r.win, .int .i64 r.many, .int .i64 r.total][j]?) ∧ True) W6 := ⟨k3.cell, trivial⟩
    refine held_take (i := 4) (v := ?_) 25 rfl rfl (by kernel_rfl) (by kernel_rfl) (by kernel_rfl) (fun _ _ _ h => h) (Or.inl ⟨by rfl, ?_⟩) hS ?_
    rotate_left 1
    · intro w' hSw
      try dsimp only at hSw
      obtain ⟨q1, q2⟩ := hSw
      go_simp
      all_goals with_reducible rfl
    try simp only [Act.put, List.setIfInBounds_toArray, List.set_cons_zero, List.set_cons_succ]
    refine held_take (i := 5) (v := ?_) 30 rfl rfl (by kernel_rfl) (by kernel_rfl) (by kernel_rfl) (fun _ _ _ h => h) (Or.inl ⟨by rfl, ?_⟩) hS ?_
    rotate_left 1
    · intro w' hSw
      try dsimp only at hSw
      obtain ⟨q1, q2⟩ := hSw
      go_simp
      all_goals with_reducible rfl
    try simp only [Act.put, List.setIfInBounds_toArray, List.set_cons_zero, List.set_cons_succ]
    refine held_take (i := 6) (v := ?_) 31 rfl rfl (by kernel_rfl) (by kernel_rfl) (by kernel_rfl) (fun _ _ _ h => h) (Or.inl ⟨by rfl, ?_⟩) hS ?_
    rotate_left 1
    · intro w' hSw
      try dsimp only at hSw
      obtain ⟨q1, q2⟩ := hSw
      go_simp
      all_goals with_reducible rfl
    try simp only [Act.put, List.setIfInBounds_toArray, List.set_cons_zero, List.set_cons_succ]
    refine held_take (i := 7) (v := ?_) 9 rfl rfl (by kernel_rfl) (by kernel_rfl) (by kernel_rfl) (fun _ _ _ h => h) (Or.inl ⟨by rfl, ?_⟩) hS ?_
    rotate_left 1
    · intro w' hSw
      try dsimp only at hSw
      obtain ⟨q1, q2⟩ := hSw
      go_simp
      all_goals with_reducible rfl
    try simp only [Act.put, List.setIfInBounds_toArray, List.set_cons_zero, List.set_cons_succ]
    refine held_take (i := 8) (v := ?_) 10 rfl rfl (by kernel_rfl) (by kernel_rfl) (by kernel_rfl) (fun _ _ _ h => h) (Or.inl ⟨by rfl, ?_⟩) hS ?_
    rotate_left 1
    · intro w' hSw
      try dsimp only at hSw
      obtain ⟨q1, q2⟩ := hSw
      go_simp
      all_goals with_reducible rfl
    try simp only [Act.put, List.setIfInBounds_toArray, List.set_cons_zero, List.set_cons_succ]
    refine wpAnyH_done (by kernel_rfl) (noPanic_normal ?_) _
    clear hS
    try simp only [Act.put, List.setIfInBounds_toArray, List.set_cons_zero, List.set_cons_succ]
    obtain ⟨c4, f4, l4⟩ := k4.rules
    have k4z := (k4.set_ 0 (.int .i64 (judgeS r (knownL l 1)).1)).set_ 1 (.int .i64 (judgeS r (knownL l 0)).1)
    have bz := (b.setCell (p := ⟨w.heap.size + 1, 0, none⟩) (by dsimp only; omega) (.int .i64 (judgeS r (knownL l 1)).1)).setCell (p := ⟨w.heap.size + 1, 1, none⟩) (by dsimp only; omega) (.int .i64 (judgeS r (knownL l 0)).1)
    simp only [List.setIfInBounds_toArray, List.set_cons_zero, List.set_cons_succ] at k4z
    obtain ⟨Wz, hwz⟩ : ∃ x, x = (W6.setCell ⟨w.heap.size + 1, 0, none⟩ (.int .i64 (judgeS r (knownL l 1)).1)).setCell ⟨w.heap.size + 1, 1, none⟩ (.int .i64 (judgeS r (knownL l 0)).1) := ⟨_, rfl⟩
    rw [← hwz] at k4z bz
    go_wp2_with fail
    rw [← hwz]
    clear hwz c4 f4 l4
    obtain ⟨c4, f4, l4⟩ := k4z.rules
    exact bodyPost_ret (v := .tuple #[.agg #[.int .i64 (judgeS r (knownL l 1)).1, .int .i64 (judgeS r (knownL l 0)).1], .int .i64 0]) (by simp [results, Try.results46, go_sem, c4]) rfl ⟨rfl, bz⟩
  · rw [if_neg her]
    generalize errJ r l 2 = q at *
    have hz2 : (q != 0) = true := by rw [bne_iff_ne]; exact her
    replace her := Lib.hid her
    go_enter Try.func46, Try.ntmps46
    go_wp2_with fail
    rw [← hw1]
    clear hw1
    obtain ⟨c3, f3, l3⟩ := k3.rules
    go_wp2_with fail
    refine (h1 _ hs1).mono ?_
    rintro e W ⟨rfl, hb⟩
    clear c3 f3 l3 h1
    replace k3 := k3.below hb
    replace k4 := k4.below hb
    replace b := b.trans (hb.mono b.size)
    replace hs1 := hs1.below hb
    clear hb
    obtain ⟨c4, f4, l4⟩ := k4.rules
    have k4z := (k4.set_ 0 (.int .i64 0)).set_ 1 (.int .i64 0)
    have bz := (b.setCell (p := ⟨w.heap.size + 1, 0, none⟩) (by dsimp only; omega) (.int .i64 0)).setCell (p := ⟨w.heap.size + 1, 1, none⟩) (by dsimp only; omega) (.int .i64 0)
    simp only [List.setIfInBounds_toArray, List.set_cons_zero, List.set_cons_succ] at k4z
    obtain ⟨Wz, hwz⟩ : ∃ x, x = (W.setCell ⟨w.heap.size + 1, 0, none⟩ (.int .i64 0)).setCell ⟨w.heap.size + 1, 1, none⟩ (.int .i64 0) := ⟨_, rfl⟩
    rw [← hwz] at k4z bz
    go_wp2_with fail
    rw [← hwz]
    clear hwz c4 f4 l4
    obtain ⟨c4, f4, l4⟩ := k4z.rules
    exact bodyPost_ret (v := .tuple #[.agg #[.int .i64 0, .int .i64 0], .int .i64 q]) (by simp [results, Try.results46, go_sem, c4]) rfl ⟨rfl, bz⟩
end Go.Proofs.Ytfengddpfeneiaa
