/-
  Shots, walks: checks of arrays, and what a gun gives.
  Lists of rows in memory, a list of one's own: what several walks share.
  Shots, walks: rules and results.
-/
import Derived.Test.YtcmbmmpihiekhaaGreatI1
import Derived.Test.YtcmbmmpihiekhaaGreatTQ
import Derived.Deep.AppendLies
import Derived.Deep.Slices
import Derived.Deep.DeepCutAuto
set_option maxRecDepth 100000
set_option maxHeartbeats 16000000
set_option linter.unusedSimpArgs false
set_option linter.unusedVariables false
namespace Go.Proofs.YtcmbmmpihiekhaaGreat
open Go.RowKit Go.Shelf

theorem sWithin_any (n lo hi : Int) (w : World) :
    Calls Tryz.prog 37 #[.int .i64 n, .int .i64 lo, .int .i64 hi] w fun e w' => e = .returned (.bool (decide (lo ≤ n ∧ n ≤ hi))) ∧ w = w' := by
  by_cases h : lo ≤ n
  · go_enter Tryz.func37, Tryz.ntmps37
    go_wp2
    go_ret
    simp [h]
  · go_enter Tryz.func37, Tryz.ntmps37
    go_wp2
    go_ret
    simp; omega
theorem sWithin_yes {n lo hi : Int} (h : lo ≤ n ∧ n ≤ hi) (w : World) : Calls Tryz.prog 37 #[.int .i64 n, .int .i64 lo, .int .i64 hi] w fun e w' => e = .returned (.bool true) ∧ w = w' := by
  have := sWithin_any n lo hi w
  rwa [decide_eq_true h] at this
theorem sWithin_no {n lo hi : Int} (h : ¬ (lo ≤ n ∧ n ≤ hi)) (w : World) : Calls Tryz.prog 37 #[.int .i64 n, .int .i64 lo, .int .i64 hi] w fun e w' => e = .returned (.bool false) ∧ w = w' := by
  have := sWithin_any n lo hi w
  rwa [decide_eq_false h] at this

/-! Lists of truth values. -/

theorem sCheckRules_any (r : Rul) (w : World) :
    Calls Tryz.prog 108 #[.agg #[.int .i64 r.row, .int .i64 r.win, .int .i64 r.many, .int .i64 r.total]] w fun e w' => e = .returned (.int .i64 (chkRul r)) ∧ Below w.heap.size w w' := by
  have b := (Below.refl w.heap.size w).alloc (Nat.le_refl _) (.cells #[.int .i64 r.row, .int .i64 r.win, .int .i64 r.many, .int .i64 r.total] 97)
  by_cases q1 : 1 ≤ r.row ∧ r.row ≤ 12
  · have h1 := fun W => sWithin_yes q1 W
    by_cases q2 : 1 ≤ r.win ∧ r.win ≤ 12
    · have h2 := fun W => sWithin_yes q2 W
      by_cases q3 : 1 ≤ r.many ∧ r.many ≤ r.win
      · have h3 := fun W => sWithin_yes q3 W
        by_cases q4 : 1 ≤ r.total ∧ r.total ≤ 256
        · have h4 := fun W => sWithin_yes q4 W
          have hok : Hid (chkRul r = 0) := by show _ = _; unfold chkRul okRul; rw [decide_eq_true (by omega)]; rfl
          clear q1 q2 q3 q4
          go_enter Tryz.func108, Tryz.ntmps108
          go_wp2_with fail
          refine (h1 _).mono ?_
          rintro e w' ⟨rfl, rfl⟩
          go_wp2_with fail
          refine (h2 _).mono ?_
          rintro e w' ⟨rfl, rfl⟩
          go_wp2_with fail
          refine (h3 _).mono ?_
          rintro e w' ⟨rfl, rfl⟩
          go_wp2_with fail
          refine (h4 _).mono ?_
          rintro e w' ⟨rfl, rfl⟩
          go_wp2_with fail
          go_ret
          exact ⟨ret_int hok.out.symm, b⟩
        · have h4 := fun W => sWithin_no q4 W
          have hok : Hid (chkRul r = 54) := by show _ = _; unfold chkRul okRul; rw [decide_eq_false (by omega)]; rfl
          clear q1 q2 q3 q4
          go_enter Tryz.func108, Tryz.ntmps108
          go_wp2_with fail
          refine (h1 _).mono ?_
          rintro e w' ⟨rfl, rfl⟩
          go_wp2_with fail
          refine (h2 _).mono ?_
          rintro e w' ⟨rfl, rfl⟩
          go_wp2_with fail
          refine (h3 _).mono ?_
          rintro e w' ⟨rfl, rfl⟩
          go_wp2_with fail
          refine (h4 _).mono ?_
          rintro e w' ⟨rfl, rfl⟩
          go_wp2_with fail
          go_ret
          exact ⟨ret_int hok.out.symm, b⟩
      · have h3 := fun W => sWithin_no q3 W
        have hok : Hid (chkRul r = 54) := by show _ = _; unfold chkRul okRul; rw [decide_eq_false (by omega)]; rfl
        clear q1 q2 q3
        go_enter Tryz.func108, Tryz.ntmps108
        go_wp2_with fail
        refine (h1 _).mono ?_
        rintro e w' ⟨rfl, rfl⟩
        go_wp2_with fail
        refine (h2 _).mono ?_
        rintro e w' ⟨rfl, rfl⟩
        go_wp2_with fail
        refine (h3 _).mono ?_
        rintro e w' ⟨rfl, rfl⟩
        go_wp2_with fail
        go_ret
        exact ⟨ret_int hok.out.symm, b⟩
    · have h2 := fun W => sWithin_no q2 W
      have hok : Hid (chkRul r = 54) := by show _ = _; unfold chkRul okRul; rw [decide_eq_false (by omega)]; rfl
      clear q1 q2
      go_enter Tryz.func108, Tryz.ntmps108
      go_wp2_with fail
      refine (h1 _).mono ?_
      rintro e w' ⟨rfl, rfl⟩
      go_wp2_with fail
      refine (h2 _).mono ?_
      rintro e w' ⟨rfl, rfl⟩
      go_wp2_with fail
      go_ret
      exact ⟨ret_int hok.out.symm, b⟩
  · have h1 := fun W => sWithin_no q1 W
    have hok : Hid (chkRul r = 54) := by show _ = _; unfold chkRul okRul; rw [decide_eq_false (by omega)]; rfl
    clear q1
    go_enter Tryz.func108, Tryz.ntmps108
    go_wp2_with fail
    refine (h1 _).mono ?_
    rintro e w' ⟨rfl, rfl⟩
    go_wp2_with fail
    go_ret
    exact ⟨ret_int hok.out.symm, b⟩
theorem results1_any (most : Int) (bm : Nat) (w : World) (hbm : bm < w.heap.size) (hc : w.cell? ⟨bm, 0, none⟩ = some (.int .i64 most)) :
    PredB 137 #[.pointer (some ⟨bm, 0, none⟩)] (fun n => Value.int .i64 n) (fun n => !decide (0 ≤ n ∧ n ≤ most)) w := by
  intro W x hb
  have hc' := (hb.cell (p := ⟨bm, 0, none⟩) hbm).trans hc
  have hin := fun W => sWithin_any x 0 most W
  clear hc
  show Calls Tryz.prog 137 #[.int .i64 x, .pointer (some ⟨bm, 0, none⟩)] W _
  go_enter Tryz.func137, Tryz.ntmps137
  go_wp2_with fail
  refine (hin _).mono ?_
  rintro e w' ⟨rfl, rfl⟩
  go_wp2
  go_ret
  exact ⟨ret_bool (by simp), Below.refl _ _⟩
theorem eg_results1 : Enters Tryz.prog 137 := enters_of Tryz.func137 (by kernel_rfl) rfl
theorem results_any (l : List Int) (most : Int) (O : Option Addr) (no co B : Nat) (w : World) (hs : SlAt w B 1 ivs O no co l) :
    Calls Tryz.prog 109 #[.slice O no co, .int .i64 most] w fun e w' => e = .returned (.bool (okRes l most)) ∧ Below w.heap.size w w' := by
  have hl := Lib.hid hs.len
  have hc := fun W h1 h2 => contains_int (fun n => !decide (0 ≤ n ∧ n ≤ most)) O no co B 137 #[.pointer (some ⟨w.heap.size, 0, none⟩)] eg_results1 l W h1 h2
  have hv : okRes l most = (decide (no ≤ 256) && !l.any fun n => !decide (0 ≤ n ∧ n ≤ most)) := by
    unfold okRes; rw [hl.out, any_not]
  rw [hv]
  clear hv
  have hp := results1_any most w.heap.size (w.alloc (.cells #[.int .i64 most] 3)) (by simp) (by simp [go_sem])
  have hs2 := hs.alloc (.cells #[.int .i64 most] 3)
  by_cases h : no ≤ 256
  · have h2 : (no : Int) ≤ 256 := by omega
    rw [decide_eq_true h, Bool.true_and]
    go_enter Tryz.func109, Tryz.ntmps109
    go_wp2_with fail
    refine (hc _ hp hs2).mono ?_
    rintro e w' ⟨rfl, hb⟩
    go_wp2
    go_ret
    exact ⟨ret_bool (by simp), ((Below.refl _ _).alloc (Nat.le_refl _) _).trans (hb.mono (by simp))⟩
  · have h2 : ¬ (no : Int) ≤ 256 := by omega
    rw [decide_eq_false h, Bool.false_and]
    clear hc hp hs2
    go_enter Tryz.func109, Tryz.ntmps109
    go_wp2
    go_ret
    exact ⟨rfl, (Below.refl _ _).alloc (Nat.le_refl _) _⟩
theorem ruled_any (r : Rul) (l : List Int) (O : Option Addr) (no co B : Nat) (w : World) (hs : SlAt w B 1 ivs O no co l) :
    Calls Tryz.prog 58 #[.agg #[.int .i64 r.row, .int .i64 r.win, .int .i64 r.many, .int .i64 r.total], .slice O no co] w fun e w' => e = .returned (.int .i64 (errJ r l 1)) ∧ Below w.heap.size w w' := by
  have h1 := fun W => sCheckRules_any r W
  have h2 := fun W h => results_any l 1 O no co B W h
  have b := (Below.refl w.heap.size w).alloc (Nat.le_refl _) (.cells #[.int .i64 r.row, .int .i64 r.win, .int .i64 r.many, .int .i64 r.total] 97)
  have hs1 := hs.alloc (.cells #[.int .i64 r.row, .int .i64 r.win, .int .i64 r.many, .int .i64 r.total] 97)
  unfold errJ
  unfold chkRul at h1
  by_cases hr : okRul r = true
  · rw [if_pos hr] at *
    cases hl : okRes l 1 with
    | true =>
      simp only [hl] at h2
      go_enter Tryz.func58, Tryz.ntmps58
      go_wp2_with fail
      refine (h1 _).mono ?_
      rintro e W ⟨rfl, hb⟩
      replace b := b.trans (hb.mono b.size)
      replace hs1 := hs1.below hb
      clear hb h1
      go_wp2_with fail
      refine (h2 _ hs1).mono ?_
      rintro e W ⟨rfl, hb⟩
      go_wp2
      go_ret
      exact ⟨rfl, b.trans (hb.mono b.size)⟩
    | false =>
      simp only [hl] at h2
      go_enter Tryz.func58, Tryz.ntmps58
      go_wp2_with fail
      refine (h1 _).mono ?_
      rintro e W ⟨rfl, hb⟩
      replace b := b.trans (hb.mono b.size)
      replace hs1 := hs1.below hb
      clear hb h1
      go_wp2_with fail
      refine (h2 _ hs1).mono ?_
      rintro e W ⟨rfl, hb⟩
      go_wp2
      go_ret
      exact ⟨rfl, b.trans (hb.mono b.size)⟩
  · rw [if_neg hr] at *
    clear h2
    go_enter Tryz.func58, Tryz.ntmps58
    go_wp2_with fail
    refine (h1 _).mono ?_
    rintro e W ⟨rfl, hb⟩
    go_wp2
    go_ret
    exact ⟨rfl, b.trans (hb.mono b.size)⟩
theorem cnt_take {m : List Int} {k : Nat} {x : Int} (h : m[k]? = some x) : cnt (m.take (k + 1)) = cnt (m.take k) + (if x = 1 then 1 else 0) := by
  rw [List.take_add_one, h, cnt_append]
  congr 1
  simp only [Option.toList_some, cnt, List.countP_cons, List.countP_nil, Nat.zero_add]
  by_cases e : x = 1 <;> simp [e]
theorem bad_any (l : List Int) (A : Option Addr) (n c B : Nat) (fr tt : Int) (w : World) (h1 : -1000000 ≤ fr) (h2 : fr ≤ tt) (h3 : 0 ≤ tt) (h4 : tt ≤ n) (h5 : fr < n) (hn0 : 0 < n) (hs : SlAt w B 1 ivs A n c l) :
    Calls Tryz.prog 61 #[.slice A n c, .int .i64 fr, .int .i64 tt] w fun e w' => e = .returned (.int .i64 (badS l fr tt)) ∧ w = w' := by
  have hl := Lib.hid hs.len
  have hnc := hs.lec
  have hmax := max2_int
  obtain ⟨x0, hx0⟩ := some_of_lt hl.out hn0
  obtain ⟨b, off, rfl, -, -, -⟩ := hs.int hx0
  obtain ⟨lo, hlo⟩ : ∃ lo : Nat, max 0 fr = lo := ⟨(max 0 fr).toNat, by omega⟩
  obtain ⟨hi, rfl⟩ : ∃ hi : Nat, tt = hi := ⟨tt.toNat, by omega⟩
  have hlh : lo ≤ hi := by omega
  have hcl : ¬ c = lo := by omega
  have hlen : Hid (((l.take hi).drop lo).length = hi - lo) := by show _ = _; rw [List.length_drop, List.length_take, hl.out]; omega
  have hbs : Hid (badS l fr hi = cnt ((l.take hi).drop lo)) := by show _ = _; unfold badS; rw [show fr.toNat = lo by omega, Int.toNat_natCast]
  go_enter Tryz.func61, Tryz.ntmps61
  go_wp2_with fail
  clear hmax
  obtain ⟨m, hm⟩ : ∃ m, (l.take hi).drop lo = m := ⟨_, rfl⟩
  rw [hm] at hlen hbs
  replace hm := Lib.hid hm
  go_loop [7, 16] (fun v i => ∃ k : Nat, i = .int .i64 (k : Int) ∧ k ≤ hi - lo ∧ v = .int .i64 (cnt (m.take k))) (fun v i => hi - lo - (intOf i).toNat)
  case atStart => exact ⟨0, rfl, Nat.zero_le _, rfl⟩
  case round =>
    obtain ⟨k, rfl, hk, rfl⟩ := hrel
    by_cases hlt : k < hi - lo
    · have hk0 : (0 : Int) ≤ (k : Int) := by omega
      have hk1 : (k : Int) < ((hi - lo : Nat) : Int) := by omega
      obtain ⟨x, hx⟩ := some_of_lt hlen.out hlt
      have hlx : l[lo + k]? = some x := by
        rw [← hm.out, List.getElem?_drop, List.getElem?_take_of_lt (by omega)] at hx; exact hx
      obtain ⟨bb, oo, hA, -, hbl, e0⟩ := hs.int hlx
      simp only [Option.some.injEq, Addr.mk.injEq, and_true] at hA
      obtain ⟨rfl, rfl⟩ := hA
      rw [← Nat.add_assoc] at e0
      have hnx := Lib.hid (cnt_take hx)
      have hcb : cnt (m.take k) ≤ k := by
        have := List.countP_le_length (p := fun x => decide (x = 1)) (l := m.take k)
        rw [List.length_take] at this
        unfold cnt; omega
      have hhn : hi ≤ 17592186044416 := by have := hs.le; omega
      generalize cnt (m.take k) = q at *
      have u1 := IntWalk.i64_in ((q : Int) + 1) (by omega)
      replace hx := Lib.hid hx
      replace hlx := Lib.hid hlx
      by_cases hx1 : x = 1
      · rw [if_pos hx1] at hnx
        subst hx1
        go_wp2_with fail
        go_round
        case rel => exact ⟨k + 1, by go_num, by omega, by rw [hnx.out]; rfl⟩
        case measure => simp [intOf]; omega
      · rw [if_neg hx1] at hnx
        have hx2 : (x == 1) = false := by rw [beq_eq_false_iff_ne]; exact hx1
        go_wp2_with fail
        go_round
        case rel => exact ⟨k + 1, by go_num, by omega, by rw [hnx.out]; rfl⟩
        case measure => simp [intOf]; omega
    · obtain rfl : k = hi - lo := by omega
      rw [List.take_of_length_le (by rw [hlen.out]; exact Nat.le_refl _)]
      rw [← hbs.out]
      go_wp2_with fail
      go_ret
      exact ⟨rfl, rfl⟩
theorem okRul_is {r : Rul} (h : okRul r = true) : 1 ≤ r.row ∧ r.row ≤ 12 ∧ 1 ≤ r.win ∧ r.win ≤ 12 ∧ 1 ≤ r.many ∧ r.many ≤ r.win ∧ 1 ≤ r.total ∧ r.total ≤ 256 := by unfold okRul at h; exact of_decide_eq_true h
theorem broken_any (r : Rul) (hr : okRul r = true) (l : List Int) (A : Option Addr) (n c B i : Nat) (w : World) (hi : i < n) (hs : SlAt w B 1 ivs A n c l) :
    Calls Tryz.prog 110 #[.agg #[.int .i64 r.row, .int .i64 r.win, .int .i64 r.many, .int .i64 r.total], .slice A n c, .int .i64 i] w fun e w' => e = .returned (.int .i64 (brkS r l i)) ∧ Below w.heap.size w w' := by
  obtain ⟨p1, p2, p3, p4, p5, p6, p7, p8⟩ := okRul_is hr
  have hn := hs.le
  have hb1 := fun W (h : SlAt W B 1 ivs A n c l) => flip_w (bad_any l A n c B ((i : Int) + 1 - r.row) ((i : Int) + 1) W (by omega) (by omega) (by omega) (by omega) (by omega) (by omega) h)
  have hb2 := fun W (h : SlAt W B 1 ivs A n c l) => flip_w (bad_any l A n c B ((i : Int) + 1 - r.win) ((i : Int) + 1) W (by omega) (by omega) (by omega) (by omega) (by omega) (by omega) h)
  have hb3 := fun W (h : SlAt W B 1 ivs A n c l) => flip_w (bad_any l A n c B 0 ((i : Int) + 1) W (by omega) (by omega) (by omega) (by omega) (by omega) (by omega) h)
  have u1 := IntWalk.i64_in ((i : Int) + 1) (by omega)
  have u2 := IntWalk.i64_in ((i : Int) + 1 - r.row) (by omega)
  have u3 := IntWalk.i64_in ((i : Int) + 1 - r.win) (by omega)
  obtain ⟨w1, hw1⟩ : ∃ w1, w1 = w.alloc (.cells #[.int .i64 r.row, .int .i64 r.win, .int .i64 r.many, .int .i64 r.total] 97) := ⟨_, rfl⟩
  have k3 : Blk w1 w.heap.size 97 #[.int .i64 r.row, .int .i64 r.win, .int .i64 r.many, .int .i64 r.total] := by rw [hw1]; exact Blk.new _ _ _
  have b : Below w.heap.size w w1 := by rw [hw1]; exact (Below.refl _ _).alloc (Nat.le_refl _) _
  have hs1 : SlAt w1 B 1 ivs A n c l := by rw [hw1]; exact hs.alloc _
  unfold brkS
  generalize badS l ((i : Int) + 1 - r.row) ((i : Int) + 1) = q1 at *
  generalize badS l ((i : Int) + 1 - r.win) ((i : Int) + 1) = q2 at *
  generalize badS l 0 ((i : Int) + 1) = q3 at *
  clear hr p1 p2 p3 p4 p5 p6 p7 p8 hs
  by_cases c1 : q1 = r.row
  · rw [if_pos c1]
    have c1' : (q1 == r.row) = true := by rw [beq_iff_eq]; exact c1
    replace c1 := Lib.hid c1
    clear hb2 hb3
    go_enter Tryz.func110, Tryz.ntmps110
    go_wp2_with fail
    rw [← hw1]
    clear hw1
    obtain ⟨c3, f3, l3⟩ := k3.rules
    go_wp2_with fail
    go_quiet ((go_at_call 61; exact Calls.quiet_of_same (hb1 _ hs1)))
    clear c3 f3 l3
    replace k3 := k3.below (below_drewN (Below.refl _ _) nq)
    replace b := b.trans ((below_drewN (Below.refl _ _) nq).mono b.size)
    replace hs1 := hs1.drewN nq
    generalize w1.drewN nq = w2 at *
    go_wp2_with fail
    go_ret
    exact ⟨rfl, b⟩
  · rw [if_neg c1]
    have c1' : (q1 == r.row) = false := by rw [beq_eq_false_iff_ne]; exact c1
    replace c1 := Lib.hid c1
    by_cases c2 : r.many ≤ q2
    · rw [if_pos c2]
      clear hb3
      go_enter Tryz.func110, Tryz.ntmps110
      go_wp2_with fail
      rw [← hw1]
      clear hw1
      obtain ⟨c3, f3, l3⟩ := k3.rules
      go_wp2_with fail
      go_quiet ((go_at_call 61; exact Calls.quiet_of_same (hb1 _ hs1)))
      clear c3 f3 l3
      replace k3 := k3.below (below_drewN (Below.refl _ _) nq)
      replace b := b.trans ((below_drewN (Below.refl _ _) nq).mono b.size)
      replace hs1 := hs1.drewN nq
      generalize w1.drewN nq = w2 at *
      obtain ⟨c3, f3, l3⟩ := k3.rules
      go_wp2_with fail
      go_quiet ((go_at_call 61; exact Calls.quiet_of_same (hb2 _ hs1)))
      clear c3 f3 l3
      replace k3 := k3.below (below_drewN (Below.refl _ _) nq)
      replace b := b.trans ((below_drewN (Below.refl _ _) nq).mono b.size)
      replace hs1 := hs1.drewN nq
      generalize w2.drewN nq = w3 at *
      go_wp2_with fail
      go_ret
      exact ⟨rfl, b⟩
    · rw [if_neg c2]
      by_cases c3 : r.total ≤ q3
      · rw [if_pos c3]
        replace c3 := Lib.hid c3
        have c3' : decide (q3 ≥ r.total) = true := decide_eq_true c3.out
        go_enter Tryz.func110, Tryz.ntmps110
        go_wp2_with fail
        rw [← hw1]
        clear hw1
        obtain ⟨c3, f3, l3⟩ := k3.rules
        go_wp2_with fail
        go_quiet ((go_at_call 61; exact Calls.quiet_of_same (hb1 _ hs1)))
        clear c3 f3 l3
        replace k3 := k3.below (below_drewN (Below.refl _ _) nq)
        replace b := b.trans ((below_drewN (Below.refl _ _) nq).mono b.size)
        replace hs1 := hs1.drewN nq
        generalize w1.drewN nq = w2 at *
        obtain ⟨c3, f3, l3⟩ := k3.rules
        go_wp2_with fail
        go_quiet ((go_at_call 61; exact Calls.quiet_of_same (hb2 _ hs1)))
        clear c3 f3 l3
        replace k3 := k3.below (below_drewN (Below.refl _ _) nq)
        replace b := b.trans ((below_drewN (Below.refl _ _) nq).mono b.size)
        replace hs1 := hs1.drewN nq
        generalize w2.drewN nq = w3 at *
        obtain ⟨c3, f3, l3⟩ := k3.rules
        go_wp2_with fail
        go_quiet ((go_at_call 61; exact Calls.quiet_of_same (hb3 _ hs1)))
        clear c3 f3 l3
        replace k3 := k3.below (below_drewN (Below.refl _ _) nq)
        replace b := b.trans ((below_drewN (Below.refl _ _) nq).mono b.size)
        replace hs1 := hs1.drewN nq
        generalize w3.drewN nq = w4 at *
        go_wp2_with fail
        go_ret
        exact ⟨rfl, b⟩
      · rw [if_neg c3]
        replace c3 := Lib.hid c3
        have c3' : decide (q3 ≥ r.total) = false := decide_eq_false c3.out
        go_enter Tryz.func110, Tryz.ntmps110
        go_wp2_with fail
        rw [← hw1]
        clear hw1
        obtain ⟨c3, f3, l3⟩ := k3.rules
        go_wp2_with fail
        go_quiet ((go_at_call 61; exact Calls.quiet_of_same (hb1 _ hs1)))
        clear c3 f3 l3
        replace k3 := k3.below (below_drewN (Below.refl _ _) nq)
        replace b := b.trans ((below_drewN (Below.refl _ _) nq).mono b.size)
        replace hs1 := hs1.drewN nq
        generalize w1.drewN nq = w2 at *
        obtain ⟨c3, f3, l3⟩ := k3.rules
        go_wp2_with fail
        go_quiet ((go_at_call 61; exact Calls.quiet_of_same (hb2 _ hs1)))
        clear c3 f3 l3
        replace k3 := k3.below (below_drewN (Below.refl _ _) nq)
        replace b := b.trans ((below_drewN (Below.refl _ _) nq).mono b.size)
        replace hs1 := hs1.drewN nq
        generalize w2.drewN nq = w3 at *
        obtain ⟨c3, f3, l3⟩ := k3.rules
        go_wp2_with fail
        go_quiet ((go_at_call 61; exact Calls.quiet_of_same (hb3 _ hs1)))
        clear c3 f3 l3
        replace k3 := k3.below (below_drewN (Below.refl _ _) nq)
        replace b := b.trans ((below_drewN (Below.refl _ _) nq).mono b.size)
        replace hs1 := hs1.drewN nq
        generalize w3.drewN nq = w4 at *
        go_wp2_with fail
        go_ret
        exact ⟨rfl, b⟩
def noBrk (r : Rul) (l : List Int) (k : Nat) : Prop := judgeS r l = judgeTo r l (l.length - k)
theorem judge_hit {r : Rul} {l : List Int} {k : Nat} (h : noBrk r l k) (hk : k < l.length) (hb : brkS r l k ≠ 0) : judgeS r l = ((k : Int), brkS r l k) := by
  unfold noBrk at h
  rw [h, show l.length - k = (l.length - k - 1) + 1 by omega, judgeTo, show l.length - (l.length - k - 1 + 1) = k by omega, if_neg hb]
theorem judge_next {r : Rul} {l : List Int} {k : Nat} (h : noBrk r l k) (hk : k < l.length) (hb : brkS r l k = 0) : noBrk r l (k + 1) := by
  unfold noBrk at *
  rw [h, show l.length - k = (l.length - (k + 1)) + 1 by omega, judgeTo, show l.length - (l.length - (k + 1) + 1) = k by omega, if_pos hb]
theorem judge_miss {r : Rul} {l : List Int} {k : Nat} (h : noBrk r l k) (hk : l.length ≤ k) : judgeS r l = ((l.length : Int), 0) := by
  unfold noBrk at h
  rw [h, show l.length - k = 0 by omega]; rfl
theorem judge_any (r : Rul) (hr : okRul r = true) (l : List Int) (A : Option Addr) (n c B : Nat) (w : World) (hs : SlAt w B 1 ivs A n c l) :
    Calls Tryz.prog 59 #[.agg #[.int .i64 r.row, .int .i64 r.win, .int .i64 r.many, .int .i64 r.total], .slice A n c] w fun e w' => e = .returned (.tuple #[.int .i64 (judgeS r l).1, .int .i64 (judgeS r l).2]) ∧ Below w.heap.size w w' := by
  have hl := Lib.hid hs.len
  have hn := hs.le
  have hbr := Lib.hid (fun i W (hi : i < n) (h : SlAt W B 1 ivs A n c l) => broken_any r hr l A n c B i W hi h)
  obtain ⟨w1, hw1⟩ : ∃ w1, w1 = w.alloc (.cells #[.int .i64 r.row, .int .i64 r.win, .int .i64 r.many, .int .i64 r.total] 97) := ⟨_, rfl⟩
  have k3 : Blk w1 w.heap.size 97 #[.int .i64 r.row, .int .i64 r.win, .int .i64 r.many, .int .i64 r.total] := by rw [hw1]; exact Blk.new _ _ _
  have b : Below w.heap.size w w1 := by rw [hw1]; exact (Below.refl _ _).alloc (Nat.le_refl _) _
  have hs1 : SlAt w1 B 1 ivs A n c l := by rw [hw1]; exact hs.alloc _
  clear hs
  go_enter Tryz.func59, Tryz.ntmps59
  go_wp2_with fail
  rw [← hw1]
  clear hw1
  go_loopw [10] (fun i wr => ∃ k : Nat, i = .int .i64 (k : Int) ∧ k ≤ n ∧ noBrk r l k ∧ Below w1.heap.size w1 wr) (fun i wr => n - (intOf i).toNat)
  case atStart => exact ⟨0, rfl, Nat.zero_le _, rfl, Below.refl _ _⟩
  case round =>
    obtain ⟨k, rfl, hk, hno, hb⟩ := hrel
    replace hno := Lib.hid hno
    by_cases hlt : k < n
    · have hk0 : (0 : Int) ≤ (k : Int) := by omega
      have hk1 : (k : Int) < (n : Int) := by omega
      have hbk := fun W h => hbr.out k W hlt h
      have hsr := hs1.below hb
      have k3r := k3.below hb
      obtain ⟨c3, f3, l3⟩ := k3r.rules
      go_wp2_with fail
      refine (hbk _ hsr).mono ?_
      rintro e W ⟨rfl, hb2⟩
      clear hbk c3 f3 l3
      have hb3 := hb.trans (hb2.mono hb.size)
      by_cases hz : brkS r l k = 0
      · have hnx := Lib.hid (judge_next hno.out (by rw [hl.out]; exact hlt) hz)
        rw [hz]
        replace hz := Lib.hid hz
        go_wp2_with fail
        go_roundw
        case rel => exact ⟨k + 1, by go_num, by omega, hnx.out, hb3⟩
        case measure => simp [intOf]; omega
      · have hht := Lib.hid (judge_hit hno.out (by rw [hl.out]; exact hlt) hz)
        generalize brkS r l k = q at *
        have hz2 : (q != 0) = true := by rw [bne_iff_ne]; exact hz
        replace hz := Lib.hid hz
        go_wp2_with fail
        go_ret2
        exact ⟨by rw [hht.out]; rfl, b.trans (hb3.mono b.size)⟩
    · have hms := Lib.hid (judge_miss hno.out (by rw [hl.out]; omega))
      rw [hl.out] at hms
      go_wp2_with fail
      go_ret2
      exact ⟨by rw [hms.out]; rfl, b.trans (hb.mono b.size)⟩
end Go.Proofs.YtcmbmmpihiekhaaGreat
