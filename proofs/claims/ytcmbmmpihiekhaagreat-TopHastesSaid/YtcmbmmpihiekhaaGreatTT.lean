/-
  Shots, walks: firing.
  Shots, walks: evened bounds.
  Shots, walks: Fire, evened bounds, Times, Weak, Pace.
-/
import Derived.Test.YtcmbmmpihiekhaaGreatTS
import Derived.Test.YtcmbmmpihiekhaaGreatTQ
import Derived.Deep.Cut
import Derived.StillTailTactics
set_option maxRecDepth 100000
set_option maxHeartbeats 16000000
set_option linter.unusedSimpArgs false
set_option linter.unusedVariables false
namespace Go.Proofs.YtcmbmmpihiekhaaGreat
open Go.RowKit Go.Shelf

theorem sCheckFiring_any (f : Fir) (w : World) :
    Calls Tryz.prog 42 #[.agg #[.int .i64 f.start, .int .i64 f.every, .int .i64 f.srcs, .int .i64 f.shots, .int .i64 f.charge]] w fun e w' => e = .returned (.int .i64 (chkFir f)) ∧ Below w.heap.size w w' := by
  have b := (Below.refl w.heap.size w).alloc (Nat.le_refl _) (.cells #[.int .i64 f.start, .int .i64 f.every, .int .i64 f.srcs, .int .i64 f.shots, .int .i64 f.charge] 23)
  by_cases q1 : 0 ≤ f.start ∧ f.start ≤ 1048576
  · have h1 := fun W => sWithin_yes q1 W
    by_cases q2 : 1 ≤ f.every ∧ f.every ≤ 1000
    · have h2 := fun W => sWithin_yes q2 W
      by_cases q3 : 1 ≤ f.srcs ∧ f.srcs ≤ 4
      · have h3 := fun W => sWithin_yes q3 W
        by_cases q4 : 1 ≤ f.shots ∧ f.shots ≤ 64
        · have h4 := fun W => sWithin_yes q4 W
          by_cases q5 : 0 ≤ f.charge ∧ f.charge ≤ 1000
          · have h5 := fun W => sWithin_yes q5 W
            have hok : Hid (chkFir f = 0) := by show _ = _; unfold chkFir okFir; rw [decide_eq_true (by omega)]; rfl
            clear q1 q2 q3 q4 q5
            go_enter Tryz.func42, Tryz.ntmps42
            go_wp2_with fail
            refine (h1 _).mono ?_
            rintro e w' ⟨rfl, rfl⟩
            go_wp2_with fail
            refine (h2 _).mono ?_
            rintro e w' ⟨rfl, rfl⟩
            go_wp2_with fail
            refine (h3 _).mono ?_
            rintro e w' ⟨rfl, rfl⟩
            go_wp2_with fail
            refine (h4 _).mono ?_
            rintro e w' ⟨rfl, rfl⟩
            go_wp2_with fail
            refine (h5 _).mono ?_
            rintro e w' ⟨rfl, rfl⟩
            go_wp2_with fail
            go_ret
            exact ⟨ret_int hok.out.symm, b⟩
          · have h5 := fun W => sWithin_no q5 W
            have hok : Hid (chkFir f = 52) := by show _ = _; unfold chkFir okFir; rw [decide_eq_false (by omega)]; rfl
            clear q1 q2 q3 q4 q5
            go_enter Tryz.func42, Tryz.ntmps42
            go_wp2_with fail
            refine (h1 _).mono ?_
            rintro e w' ⟨rfl, rfl⟩
            go_wp2_with fail
            refine (h2 _).mono ?_
            rintro e w' ⟨rfl, rfl⟩
            go_wp2_with fail
            refine (h3 _).mono ?_
            rintro e w' ⟨rfl, rfl⟩
            go_wp2_with fail
            refine (h4 _).mono ?_
            rintro e w' ⟨rfl, rfl⟩
            go_wp2_with fail
            refine (h5 _).mono ?_
            rintro e w' ⟨rfl, rfl⟩
            go_wp2_with fail
            go_ret
            exact ⟨ret_int hok.out.symm, b⟩
        · have h4 := fun W => sWithin_no q4 W
          have hok : Hid (chkFir f = 52) := by show _ = _; unfold chkFir okFir; rw [decide_eq_false (by omega)]; rfl
          clear q1 q2 q3 q4
          go_enter Tryz.func42, Tryz.ntmps42
          go_wp2_with fail
          refine (h1 _).mono ?_
          rintro e w' ⟨rfl, rfl⟩
          go_wp2_with fail
          refine (h2 _).mono ?_
          rintro e w' ⟨rfl, rfl⟩
          go_wp2_with fail
          refine (h3 _).mono ?_
          rintro e w' ⟨rfl, rfl⟩
          go_wp2_with fail
          refine (h4 _).mono ?_
          rintro e w' ⟨rfl, rfl⟩
          go_wp2_with fail
          go_ret
          exact ⟨ret_int hok.out.symm, b⟩
      · have h3 := fun W => sWithin_no q3 W
        have hok : Hid (chkFir f = 52) := by show _ = _; unfold chkFir okFir; rw [decide_eq_false (by omega)]; rfl
        clear q1 q2 q3
        go_enter Tryz.func42, Tryz.ntmps42
        go_wp2_with fail
        refine (h1 _).mono ?_
        rintro e w' ⟨rfl, rfl⟩
        go_wp2_with fail
        refine (h2 _).mono ?_
        rintro e w' ⟨rfl, rfl⟩
        go_wp2_with fail
        refine (h3 _).mono ?_
        rintro e w' ⟨rfl, rfl⟩
        go_wp2_with fail
        go_ret
        exact ⟨ret_int hok.out.symm, b⟩
    · have h2 := fun W => sWithin_no q2 W
      have hok : Hid (chkFir f = 52) := by show _ = _; unfold chkFir okFir; rw [decide_eq_false (by omega)]; rfl
      clear q1 q2
      go_enter Tryz.func42, Tryz.ntmps42
      go_wp2_with fail
      refine (h1 _).mono ?_
      rintro e w' ⟨rfl, rfl⟩
      go_wp2_with fail
      refine (h2 _).mono ?_
      rintro e w' ⟨rfl, rfl⟩
      go_wp2_with fail
      go_ret
      exact ⟨ret_int hok.out.symm, b⟩
  · have h1 := fun W => sWithin_no q1 W
    have hok : Hid (chkFir f = 52) := by show _ = _; unfold chkFir okFir; rw [decide_eq_false (by omega)]; rfl
    clear q1
    go_enter Tryz.func42, Tryz.ntmps42
    go_wp2_with fail
    refine (h1 _).mono ?_
    rintro e w' ⟨rfl, rfl⟩
    go_wp2_with fail
    go_ret
    exact ⟨ret_int hok.out.symm, b⟩
def firOk (f : Fir) : Prop := 0 ≤ f.start ∧ f.start ≤ 1048576 ∧ 1 ≤ f.every ∧ f.every ≤ 1000 ∧ 1 ≤ f.srcs ∧ f.srcs ≤ 4 ∧ 1 ≤ f.shots ∧ f.shots ≤ 64 ∧ 0 ≤ f.charge ∧ f.charge ≤ 1000
theorem okFir_is {f : Fir} (h : okFir f = true) : firOk f := by unfold okFir at h; unfold firOk; exact of_decide_eq_true h
theorem dueS_bd {f : Fir} (h : firOk f) {n : Nat} (hn : n ≤ 1000) : 0 ≤ dueS f n ∧ dueS f n ≤ 10000000 := by
  unfold firOk at h
  have := mul_bd (n : Int) f.every 1000 1000 (by omega) (by omega) (by omega) (by omega) (by omega)
  have h2 : 0 ≤ (n : Int) * f.every := Int.mul_nonneg (by omega) (by omega)
  unfold dueS
  omega
theorem due_any (f : Fir) (n : Nat) (w : World) (h : firOk f) (hn : n ≤ 1000) :
    Calls Tryz.prog 45 #[.agg #[.int .i64 f.start, .int .i64 f.every, .int .i64 f.srcs, .int .i64 f.shots, .int .i64 f.charge], .int .i64 n] w fun e w' => e = .returned (.int .i64 (dueS f n)) ∧ Below w.heap.size w w' := by
  have hd := dueS_bd h hn
  unfold dueS at *
  have h2 : 0 ≤ (n : Int) * f.every := by unfold firOk at h; exact Int.mul_nonneg (by omega) (by omega)
  have u1 := IntWalk.i64_in ((n : Int) * f.every) (by unfold firOk at h; omega)
  have u2 := IntWalk.i64_in (f.start + (n : Int) * f.every) (by omega)
  clear hd h2 h
  go_enter Tryz.func45, Tryz.ntmps45
  go_wp2
  go_ret
  exact ⟨rfl, (Below.refl _ _).alloc (Nat.le_refl _) _⟩
theorem reachS_idx (far : Int) : ∀ (l : List Int) (k : Nat), idxf (fun n => decide (far ≤ n)) l k = reachS l far k
  | [], _ => rfl
  | x :: l, k => by
    rw [idxf, reachS, reachS_idx far l (k + 1)]
    by_cases h : far ≤ x
    · rw [if_pos (decide_eq_true h), if_pos h]
    · rw [if_neg (by simp [h]), if_neg h]
theorem reached1_any (far : Int) (bm : Nat) (w : World) (hbm : bm < w.heap.size) (hc : w.cell? ⟨bm, 0, none⟩ = some (.int .i64 far)) :
    PredB 92 #[.pointer (some ⟨bm, 0, none⟩)] (fun n => Value.int .i64 n) (fun n => decide (far ≤ n)) w := by
  intro W x hb
  have hc' := (hb.cell (p := ⟨bm, 0, none⟩) hbm).trans hc
  clear hc
  show Calls Tryz.prog 92 #[.int .i64 x, .pointer (some ⟨bm, 0, none⟩)] W _
  go_enter Tryz.func92, Tryz.ntmps92
  go_wp2
  go_ret
  exact ⟨ret_bool (by simp), Below.refl _ _⟩
theorem eg_reached1 : Enters Tryz.prog 92 := enters_of Tryz.func92 (by kernel_rfl) rfl
theorem reached_any (l : List Int) (far : Int) (O : Option Addr) (no co B : Nat) (w : World) (hs : SlAt w B 1 ivs O no co l) :
    Calls Tryz.prog 44 #[.slice O no co, .int .i64 far] w fun e w' => e = .returned (.int .i64 (reachS l far 0)) ∧ Below w.heap.size w w' := by
  go_enter Tryz.func44, Tryz.ntmps44
  go_wp2_with (go_at_call 91; refine (index_int (fun n => decide (far ≤ n)) O no co B _ _ eg_reached1 l _ (reached1_any far w.heap.size _ (by simp) (by simp [go_sem])) (hs.alloc _)).mono ?_; rintro e w' ⟨rfl, hb⟩)
  go_ret
  exact ⟨ret_int (by rw [reachS_idx]), ((Below.refl _ _).alloc (Nat.le_refl _) _).trans (hb.mono (by simp))⟩
theorem nan_any (n : Int) (w : World) : Calls Tryz.prog 132 #[.int .i64 n] w fun e w' => e = .returned (.bool false) ∧ w = w' := by
  go_enter Tryz.func132, Tryz.ntmps132
  go_wp2
  go_ret
  exact ⟨ret_bool (by simp), rfl⟩
theorem less_any (a c : Int) (w : World) : Calls Tryz.prog 93 #[.int .i64 a, .int .i64 c] w fun e w' => e = .returned (.bool (decide (a < c))) ∧ w = w' := by
  go_enter Tryz.func93, Tryz.ntmps93
  go_wp2_with (go_at_call 132; refine (nan_any _ _).mono ?_; rintro e w' ⟨rfl, rfl⟩)
  go_ret
  exact ⟨ret_bool (by simp), rfl⟩
def SrtRes (l : List Int) (w : World) (e : Ending) (w' : World) : Prop := e = .returned (.bool (sorted l)) ∧ Below w.heap.size w w'
def upFrom (l : List Int) (k : Nat) : Prop := ∀ (i : Nat) (x y : Int), k ≤ i → l[i]? = some x → l[i + 1]? = some y → x ≤ y
theorem isSorted_any (l : List Int) (O : Option Addr) (no co B : Nat) (w : World) (hs : SlAt w B 1 ivs O no co l) :
    Calls Tryz.prog 46 #[.slice O no co] w (SrtRes l w) := by
  have hl := Lib.hid hs.len
  have hn := hs.le
  have t0 := IntWalk.i64_in ((no : Int) - 1) (by omega)
  have hless := fun a c W => flip_w (less_any a c W)
  go_enter Tryz.func46, Tryz.ntmps46
  go_wp2_with fail
  go_loopw [3] (fun i wr => ∃ k : Int, i = .int .i64 k ∧ 0 ≤ k + 1 ∧ k + 1 ≤ no ∧ upFrom l k.toNat ∧ Below w.heap.size w wr) (fun i wr => (intOf i).toNat)
  case atStart =>
    refine ⟨_, rfl, by omega, by omega, ?_, Below.refl _ _⟩
    intro i x y hi h1 h2
    have := (List.getElem?_eq_some_iff.1 h2).1
    have := hl.out
    omega
  case round =>
    obtain ⟨k, rfl, hk1, hk2, hup, hb⟩ := hrel
    by_cases hlt : 0 < k
    · obtain ⟨j, rfl⟩ : ∃ j : Nat, k = (j : Int) + 1 := ⟨(k - 1).toNat, by omega⟩
      obtain ⟨y, hy⟩ := some_of_lt hl.out (show j + 1 < no by omega)
      obtain ⟨x, hx⟩ := some_of_lt hl.out (show j < no by omega)
      obtain ⟨bb, off, hA, -, hbl, e1⟩ := (hs.below hb).int hy
      obtain ⟨bb2, off2, hA2, -, hbl2, e2⟩ := (hs.below hb).int hx
      rw [hA] at hA2
      simp only [Option.some.injEq, Addr.mk.injEq, and_true] at hA2
      obtain ⟨rfl, rfl⟩ := hA2
      subst hA
      have t1 := IntWalk.i64_in ((j : Int) + 1 - 1) (by omega)
      have t2 : (j : Int) + 1 - 1 = (j : Int) := by omega
      rw [t2] at t1
      have t3 := IntWalk.i64_in ((j : Int) + 1 - 1) (by omega)
      have hk0 : (0 : Int) ≤ (j : Int) + 1 := by omega
      have hk3 : (j : Int) + 1 < (no : Int) := by omega
      have hk4 : (0 : Int) ≤ (j : Int) := by omega
      have hk5 : (j : Int) < (no : Int) := by omega
      have hk6 : ((j : Int) + 1).toNat = j + 1 := by omega
      replace hx := Lib.hid hx
      replace hy := Lib.hid hy
      replace hup := Lib.hid hup
      clear t3
      by_cases hc : y < x
      · have hns : Hid (sorted l = false) := by
          show _ = _
          cases h : sorted l
          · rfl
          · have := sorted_at h (i := j) (j := j + 1) (by omega) hx.out hy.out
            omega
        have hc2 : decide (y < x) = true := decide_eq_true hc
        clear hup
        go_wp2_with fail
        go_quiet ((go_at_call 93; exact Calls.quiet_of_same (hless _ _ _)))
        go_wp2_with fail
        go_ret
        exact ⟨ret_bool hns.out.symm, below_drewN hb _⟩
      · have hc2 : decide (y < x) = false := decide_eq_false hc
        have hxy : Hid (x ≤ y) := by show x ≤ y; omega
        have hxy1 : x ≤ y := by omega
        clear hc
        go_wp2_with fail
        go_quiet ((go_at_call 93; exact Calls.quiet_of_same (hless _ _ _)))
        go_wp2_with fail
        go_roundw
        case rel =>
          refine ⟨(j : Int), rfl, by omega, by omega, ?_, below_drewN hb _⟩
          intro i a c hi h1 h2
          by_cases e : i = j
          · subst e
            have e1 := h1.symm.trans hx.out
            have e2 := h2.symm.trans hy.out
            simp only [Option.some.injEq] at e1 e2
            rw [e1, e2]; exact hxy.out
          · exact hup.out i a c (by omega) h1 h2
        case measure => simp [intOf]
    · have hs2 : Hid (sorted l = true) := by
        show _ = _
        exact sorted_of fun i x y h1 h2 => hup i x y (by omega) h1 h2
      clear hup
      go_wp2_with fail
      go_ret
      exact ⟨ret_bool hs2.out.symm, hb⟩
theorem wpStill_skip {P : Program} {ops : Array Oper} {w : World} {Q : Act → Prop} {a : Act} {o : Oper} {rest : List Oper} (hw : Region.wanted o (yielded ops a.tmps) = false) (h : wpStill P ops w Q rest (a.put o.dst undef)) : wpStill P ops w Q (o :: rest) a := by
  unfold wpStill
  rw [hw]
  exact h
attribute [local irreducible] wpStill
theorem Tryz.infoSht : (Tryz.prog.info? 76).map (fun i => (i.zero, i.size, i.bytes)) = some (some (.agg #[.int .i64 0, .int .i64 0, .bool false]), 3, 24) := by kernel_rfl
theorem fire_any (f : Fir) (h : firOk f) (way : List Int) (A : Option Addr) (n c B : Nat) (w : World) (hs : SlAt w B 1 ivs A n c way) :
    Calls Tryz.prog 47 #[.agg #[.int .i64 f.start, .int .i64 f.every, .int .i64 f.srcs, .int .i64 f.shots, .int .i64 f.charge], .slice A n c] w fun e w' => ∃ P pc, e = .returned (.slice P f.shots.toNat pc) ∧ SlAt w' w.heap.size 3 Sht.cells P f.shots.toNat pc (shotL f way) ∧ Below w.heap.size w w' := by
  have hf := Lib.hid h
  have hs0 := Lib.hid hs
  have hwl := hs.len
  have hwn := hs.le
  have hre0 := Lib.hid (fun far W (hsx : SlAt W B 1 ivs A n c way) => reached_any way far A n c B W hsx)
  have hdu0 := Lib.hid (fun k (hk : k ≤ 1000) W => due_any f k W h hk)
  have htb := Lib.hid (fun k => show -1 ≤ tickS f way k ∧ tickS f way k < 100000000000000 from by have := reachS_bd way (dueS f k) 0; unfold tickS; omega)
  obtain ⟨w1, hw1⟩ : ∃ w1, w1 = w.alloc (.cells #[.int .i64 f.start, .int .i64 f.every, .int .i64 f.srcs, .int .i64 f.shots, .int .i64 f.charge] 23) := ⟨_, rfl⟩
  have k2 : Blk w1 w.heap.size 23 #[.int .i64 f.start, .int .i64 f.every, .int .i64 f.srcs, .int .i64 f.shots, .int .i64 f.charge] := by rw [hw1]; exact Blk.new _ _ _
  have b : Below w.heap.size w w1 := by rw [hw1]; exact (Below.refl _ _).alloc (Nat.le_refl _) _
  have hown0 : w1.ownsRow w.heap.size 76 3 (.slice none 0 0) 0 [] := ⟨rfl, .inl ⟨rfl, rfl⟩⟩
  clear hs h
  go_enter Tryz.func47, Tryz.ntmps47
  go_wp2_with fail
  rw [← hw1]
  clear hw1
  obtain ⟨c2, f2, l2⟩ := k2.rules
  go_wp2_with fail
  clear c2 f2 l2
  go_loopw [5, 10] (fun v i wr => ∃ k : Nat, i = .int .i64 k ∧ k ≤ f.shots.toNat ∧ wr.ownsRow w.heap.size 76 3 v k (((List.range k).map (shotS f way)).flatMap Sht.cells) ∧ (∀ p, v.ownBlock = some p → w.heap.size < p) ∧ Blk wr w.heap.size 23 #[.int .i64 f.start, .int .i64 f.every, .int .i64 f.srcs, .int .i64 f.shots, .int .i64 f.charge] ∧ Below w.heap.size w wr) (fun v i wr => f.shots.toNat - (intOf i).toNat)
  case atStart => exact ⟨0, rfl, Nat.zero_le _, hown0, (fun p h => by cases h), k2, b⟩
  case round =>
    clear hown0 k2 b
    obtain ⟨k, rfl, hk, hown, hvb, k2, hb⟩ := hrel
    obtain ⟨p1, p2, p3, p4, p5, p6, p7, p8, p9, p10⟩ := hf.out
    by_cases hlt : k < f.shots.toNat
    · have hk1 : (k : Int) < f.shots := by omega
      have hk0 : (0 : Int) ≤ (k : Int) := by omega
      have hdu := fun W => hdu0.out k (by omega) W
      have hre := fun W hsx => hre0.out (dueS f k) W hsx
      rw [show reachS way (dueS f k) 0 = tickS f way k from rfl] at hre
      have htk := htb.out k
      generalize hdue : dueS f k = due at hdu hre
      clear hdue
      have hsr1 : 0 ≤ (k : Int) % f.srcs := Int.emod_nonneg _ (by omega)
      have hsr : Hid (shotS f way k = ⟨tickS f way k, (k : Int) % f.srcs, weakS f way k⟩) := rfl
      have hwk : Hid (weakS f way k = (decide (0 ≤ tickS f way k) && decide (f.srcs ≤ k) && decide (tickS f way k - tickS f way (k - f.srcs.toNat) < f.charge))) := rfl
      have hsr3 : (k : Int) % f.srcs < f.srcs := Int.emod_lt_of_pos _ (by omega)
      obtain ⟨sr, hsr2⟩ : ∃ x, x = (k : Int) % f.srcs := ⟨_, rfl⟩
      rw [← hsr2] at hsr1 hsr hsr3
      have hsr4 : (k : Int).tmod f.srcs = sr := by rw [hsr2]; exact Int.tmod_eq_emod_of_nonneg hk0
      have hsr5 := IntWalk.i64_in sr (by omega)
      clear hsr2
      generalize tickS f way k = tk at *
      have hz0 : ¬ f.srcs = 0 := by omega
      go_wp2_with fail
      refine wp_held_np (fun w' : World => (∀ j, w'.cell? ⟨w.heap.size, j, none⟩ = #[Value.int .i64 f.start, .int .i64 f.every, .int .i64 f.srcs, .int .i64 f.shots, .int .i64 f.charge][j]?) ∧ True) (by kernel_rfl) ?_
      have hSb : Hid (∀ W', Below wr.heap.size wr W' → (fun w' : World => (∀ j, w'.cell? ⟨w.heap.size, j, none⟩ = #[Value.int .i64 f.start, .int .i64 f.every, .int .i64 f.srcs, .int .i64 f.shots, .int .i64 f.charge][j]?) ∧ True) W') := by
        show ∀ _, _
        intro W' hb9
        exact ⟨(k2.below hb9).cell, trivial⟩
      have hb9 : Below wr.heap.size wr wr.drew := (Below.refl _ _).drew
      have hSx := hSb.out _ hb9
      generalize wr.drew = wd at *
      refine hTk 0 13 ?_
      refine hTk 1 14 ?_
      refine hTk 2 15 ?_
      refine hTk 5 18 ?_
      refine hTk 6 19 ?_
      refine hTk 7 20 ?_
      refine hTk 8 21 ?_
      refine wpAnyH_fin (f := fun a q => ((((a.put (some 16) (.int .i64 due)).put (some 17) (.int .i64 tk)).put (some 22) (.agg #[.int .i64 tk, .int .i64 sr, .bool false])).put (some 7) (.pointer (some ⟨q, 0, none⟩)))) (B := fun q W' => Blk W' q 76 #[.int .i64 tk, .int .i64 sr, .bool false] ∧ wr.heap.size ≤ q ∧ Below wr.heap.size wr W') ?_ (fun hrest => ?_)
      · rintro g9 W3 ⟨k9, hg9, hb10⟩
        try simp only [Act.put, sA, sZ, sS]
        refine noPanic_normal ?_
        clear hSx hSb hb9 hdu hre hsr4 hsr5
        have hl2 := k2.lt
        have k2w := k2.below hb10
        have hown3 := ownsRow_below hown hb10
        have hb3 := hb.trans (hb10.mono hb.size)
        have hvn : ∀ p, u5.ownBlock = some p → p ≠ g9 := fun p hp => by have := (hown.lt p hp).2; omega
        replace hown := Lib.hid hown
        replace hvn := Lib.hid hvn
        clear hb10 k2 hb
        by_cases q1 : 0 ≤ tk
        · by_cases q2 : f.srcs ≤ (k : Int)
          · obtain ⟨j, hj⟩ : ∃ j : Nat, (k : Int) - f.srcs = j := ⟨((k : Int) - f.srcs).toNat, by omega⟩
            have hjk : j < k := by omega
            have t1 : IntKind.i64.wrap ((k : Int) - f.srcs) = (j : Int) := by rw [IntWalk.i64_in _ (by omega)]; exact hj
            have hj2 : Hid (k - f.srcs.toNat = j) := by show _ = _; omega
            have hj0 : (0 : Int) ≤ (j : Int) := by omega
            have hj1 : (j : Int) < (k : Int) := by omega
            have htj := htb.out j
            obtain ⟨O5, c5, rfl, hsl⟩ := SlAt.of_own (enc := Sht.cells) hown3 (by omega) ((List.range k).map (shotS f way)) rfl (fun _ => rfl) (by simp)
            obtain ⟨bb, off, hO, -, hbb, e0, -, -⟩ := hsl.sht (mapRange_at (shotS f way) hjk)
            subst hO
            rw [show (shotS f way j).tick = tickS f way j from rfl] at e0
            rw [hj2.out] at hwk
            generalize tickS f way j = tj at *
            have u1 := IntWalk.i64_in (tk - tj) (by omega)
            have q1' : decide (0 ≤ tk) = true := decide_eq_true q1
            have q2' : decide (f.srcs ≤ (k : Int)) = true := decide_eq_true q2
            clear hsl hbb hj
            by_cases q3 : tk - tj < f.charge
            · have hwk2 : Hid (weakS f way k = true) := by show _ = _; rw [hwk.out, decide_eq_true q1, decide_eq_true q2, decide_eq_true q3]; rfl
              have q3' : decide (tk - tj < f.charge) = true := decide_eq_true q3
              go_wp2_with fail
              obtain ⟨c9, f9, l9⟩ := k9.rules
              obtain ⟨c2, f2, l2⟩ := k2w.rules
              refine wp_region_still_tail 26 (by kernel_rfl) (by kernel_rfl) ?_
              simp only [List.take_succ_cons, List.take_zero, List.drop_succ_cons, List.drop_zero]
              (iterate 26 still_step)
              apply still_end
              change wpList _ _ _ _ _ W3.drew
              have hd : Below W3.heap.size W3 W3.drew := (Below.refl _ _).drew
              clear c9 f9 c2 f2 l2 hown e0
              replace k9 := k9.below hd
              replace k2w := k2w.below hd
              replace hown3 := ownsRow_below hown3 hd
              replace hb3 := hb3.trans (hd.mono hb3.size)
              clear hd
              generalize W3.drew = Wd at *
              obtain ⟨c9, f9, l9'⟩ := k9.rules
              go_upto_region 7 with fail
              clear c9 f9 l9'
              have k9z := k9.set_ 2 (.bool true)
              simp only [sA, sZ, sS] at k9z
              replace k2w := k2w.far (p := ⟨g9, 2, none⟩) (by dsimp only; omega) (.bool true)
              replace hown3 := ownsRow_setCell hown3 (p := ⟨g9, 2, none⟩) (fun e => hvn.out _ e rfl) (.bool true)
              replace hb3 := hb3.setCell (p := ⟨g9, 2, none⟩) (by dsimp only; omega) (.bool true)
              generalize Wd.setCell ⟨g9, 2, none⟩ (.bool true) = Wz at *
              have hbig1 : Hid (k + 1 ≤ maxLen) := by show k + 1 ≤ maxLen; unfold maxLen; omega
              have hbig2 : Hid ((k + 1) * 24 ≤ 140737488355328) := by show (k + 1) * 24 ≤ 140737488355328; omega
              obtain ⟨i0, hi0, hz0, hz1, hz2⟩ := info_parts Tryz.infoSht
              have hnews : ∀ (j : Nat) (u : Value), ([.int .i64 tk, .int .i64 sr, .bool true] : List Value)[j]? = some u → (Wz.alloc (.cells #[.int .i64 tk, .int .i64 sr, .bool true] 76)).cell? ((⟨Wz.heap.size, 0, none⟩ : Addr).add j) = some u :=
                World.news_of_block (cs := #[.int .i64 tk, .int .i64 sr, .bool true]) (World.alloc_heap_new Wz _)
              have hownf := hown3.alloc (.cells #[.int .i64 tk, .int .i64 sr, .bool true] 76)
              have hbf := hb3.alloc hb3.size (.cells #[.int .i64 tk, .int .i64 sr, .bool true] 76)
              have k2f := k2w.alloc (.cells #[.int .i64 tk, .int .i64 sr, .bool true] 76)
              obtain ⟨c9, f9, l9'⟩ := k9z.rules
              go_wp2_with (at_builtin; refine wpList_append_lies _ rfl (.tmp 49) (.tmp 51) 72 rfl w.heap.size 76 i0 (.agg #[.int .i64 0, .int .i64 0, .bool false]) 3 24 Tryz.underlying72 hi0 hz0 hz1 hz2 rfl (by decide) (.slice (some ⟨bb, off, none⟩) k c5) k (((List.range k).map (shotS f way)).flatMap Sht.cells) rfl hownf ⟨Wz.heap.size, 0, none⟩ 1 1 [.int .i64 tk, .int .i64 sr, .bool true] rfl rfl hnews (by simp [Value.oneCell']) (by decide) hbig1.out hbig2.out (hbf.size) (Wz.heap.size + 1) (by simp) ?_; intro g cap w7 hown7 hgrow hlies hlt7)
              have hbg : Below w.heap.size _ w7 := ⟨hgrow.os, hgrow.tape, hgrow.output, hgrow.size, fun b hb2 => hgrow.block b (Nat.lt_of_lt_of_le hb2 hbf.size) (fun e => by have := (hownf.lt _ e.symm).1; omega)⟩
              have hbh := hbf.trans hbg
              have k2h := k2f.grown hgrow (fun e => by have := hvb _ e.symm; omega)
              clear c9 f9 l9'
              go_roundw
              case rel =>
                refine ⟨k + 1, by go_num, by omega, ?_, ?_, k2h, hbh⟩
                · rw [mapRange_succ, List.flatMap_append, hsr.out, hwk2.out]
                  exact hown7
                · intro p hp
                  simp only [Value.ownBlock, Option.some.injEq] at hp
                  subst hp
                  rcases hlies with h | h
                  · exact hvb _ h
                  · have := k2f.lt; have := hb3.size; omega
              case measure => simp [intOf]; omega
            · have hwk2 : Hid (weakS f way k = false) := by show _ = _; rw [hwk.out, decide_eq_true q1, decide_eq_true q2, decide_eq_false q3]; rfl
              have q3' : decide (tk - tj < f.charge) = false := decide_eq_false q3
              go_wp2_with fail
              obtain ⟨c9, f9, l9⟩ := k9.rules
              obtain ⟨c2, f2, l2⟩ := k2w.rules
              refine wp_region_still_tail 26 (by kernel_rfl) (by kernel_rfl) ?_
              simp only [List.take_succ_cons, List.take_zero, List.drop_succ_cons, List.drop_zero]
              (iterate 26 still_step)
              apply still_end
              change wpList _ _ _ _ _ W3.drew
              have hd : Below W3.heap.size W3 W3.drew := (Below.refl _ _).drew
              clear c9 f9 c2 f2 l2 hown e0
              replace k9 := k9.below hd
              replace k2w := k2w.below hd
              replace hown3 := ownsRow_below hown3 hd
              replace hb3 := hb3.trans (hd.mono hb3.size)
              clear hd
              generalize W3.drew = Wd at *
              obtain ⟨c9, f9, l9'⟩ := k9.rules
              go_upto_region 7 with fail
              clear c9 f9 l9'
              have k9z := k9.set_ 2 (.bool false)
              simp only [sA, sZ, sS] at k9z
              replace k2w := k2w.far (p := ⟨g9, 2, none⟩) (by dsimp only; omega) (.bool false)
              replace hown3 := ownsRow_setCell hown3 (p := ⟨g9, 2, none⟩) (fun e => hvn.out _ e rfl) (.bool false)
              replace hb3 := hb3.setCell (p := ⟨g9, 2, none⟩) (by dsimp only; omega) (.bool false)
              generalize Wd.setCell ⟨g9, 2, none⟩ (.bool false) = Wz at *
              have hbig1 : Hid (k + 1 ≤ maxLen) := by show k + 1 ≤ maxLen; unfold maxLen; omega
              have hbig2 : Hid ((k + 1) * 24 ≤ 140737488355328) := by show (k + 1) * 24 ≤ 140737488355328; omega
              obtain ⟨i0, hi0, hz0, hz1, hz2⟩ := info_parts Tryz.infoSht
              have hnews : ∀ (j : Nat) (u : Value), ([.int .i64 tk, .int .i64 sr, .bool false] : List Value)[j]? = some u → (Wz.alloc (.cells #[.int .i64 tk, .int .i64 sr, .bool false] 76)).cell? ((⟨Wz.heap.size, 0, none⟩ : Addr).add j) = some u :=
                World.news_of_block (cs := #[.int .i64 tk, .int .i64 sr, .bool false]) (World.alloc_heap_new Wz _)
              have hownf := hown3.alloc (.cells #[.int .i64 tk, .int .i64 sr, .bool false] 76)
              have hbf := hb3.alloc hb3.size (.cells #[.int .i64 tk, .int .i64 sr, .bool false] 76)
              have k2f := k2w.alloc (.cells #[.int .i64 tk, .int .i64 sr, .bool false] 76)
              obtain ⟨c9, f9, l9'⟩ := k9z.rules
              go_wp2_with (at_builtin; refine wpList_append_lies _ rfl (.tmp 49) (.tmp 51) 72 rfl w.heap.size 76 i0 (.agg #[.int .i64 0, .int .i64 0, .bool false]) 3 24 Tryz.underlying72 hi0 hz0 hz1 hz2 rfl (by decide) (.slice (some ⟨bb, off, none⟩) k c5) k (((List.range k).map (shotS f way)).flatMap Sht.cells) rfl hownf ⟨Wz.heap.size, 0, none⟩ 1 1 [.int .i64 tk, .int .i64 sr, .bool false] rfl rfl hnews (by simp [Value.oneCell']) (by decide) hbig1.out hbig2.out (hbf.size) (Wz.heap.size + 1) (by simp) ?_; intro g cap w7 hown7 hgrow hlies hlt7)
              have hbg : Below w.heap.size _ w7 := ⟨hgrow.os, hgrow.tape, hgrow.output, hgrow.size, fun b hb2 => hgrow.block b (Nat.lt_of_lt_of_le hb2 hbf.size) (fun e => by have := (hownf.lt _ e.symm).1; omega)⟩
              have hbh := hbf.trans hbg
              have k2h := k2f.grown hgrow (fun e => by have := hvb _ e.symm; omega)
              clear c9 f9 l9'
              go_roundw
              case rel =>
                refine ⟨k + 1, by go_num, by omega, ?_, ?_, k2h, hbh⟩
                · rw [mapRange_succ, List.flatMap_append, hsr.out, hwk2.out]
                  exact hown7
                · intro p hp
                  simp only [Value.ownBlock, Option.some.injEq] at hp
                  subst hp
                  rcases hlies with h | h
                  · exact hvb _ h
                  · have := k2f.lt; have := hb3.size; omega
              case measure => simp [intOf]; omega
          · have hwk2 : Hid (weakS f way k = false) := by show _ = _; rw [hwk.out, decide_eq_false q2]; simp
            have q1' : decide (0 ≤ tk) = true := decide_eq_true q1
            have q2' : decide (f.srcs ≤ (k : Int)) = false := decide_eq_false q2
            replace q1 := Lib.hid q1
            replace q2 := Lib.hid q2
            go_wp2_with fail
            obtain ⟨c9, f9, l9⟩ := k9.rules
            obtain ⟨c2, f2, l2⟩ := k2w.rules
            refine wp_region_still_tail 26 (by kernel_rfl) (by kernel_rfl) ?_
            simp only [List.take_succ_cons, List.take_zero, List.drop_succ_cons, List.drop_zero]
            (iterate 10 still_step)
            (iterate 14 (refine wpStill_skip (by rfl) ?_; (try simp only [Act.put, sA, sZ, sS])))
            (iterate 2 still_step)
            apply still_end
            change wpList _ _ _ _ _ W3.drew
            have hd : Below W3.heap.size W3 W3.drew := (Below.refl _ _).drew
            clear c9 f9 c2 f2 l2 hown
            replace k9 := k9.below hd
            replace k2w := k2w.below hd
            replace hown3 := ownsRow_below hown3 hd
            replace hb3 := hb3.trans (hd.mono hb3.size)
            clear hd
            generalize W3.drew = Wd at *
            obtain ⟨c9, f9, l9'⟩ := k9.rules
            go_upto_region 7 with fail
            clear c9 f9 l9'
            have k9z := k9.set_ 2 (.bool false)
            simp only [sA, sZ, sS] at k9z
            replace k2w := k2w.far (p := ⟨g9, 2, none⟩) (by dsimp only; omega) (.bool false)
            replace hown3 := ownsRow_setCell hown3 (p := ⟨g9, 2, none⟩) (fun e => hvn.out _ e rfl) (.bool false)
            replace hb3 := hb3.setCell (p := ⟨g9, 2, none⟩) (by dsimp only; omega) (.bool false)
            generalize Wd.setCell ⟨g9, 2, none⟩ (.bool false) = Wz at *
            have hbig1 : Hid (k + 1 ≤ maxLen) := by show k + 1 ≤ maxLen; unfold maxLen; omega
            have hbig2 : Hid ((k + 1) * 24 ≤ 140737488355328) := by show (k + 1) * 24 ≤ 140737488355328; omega
            obtain ⟨i0, hi0, hz0, hz1, hz2⟩ := info_parts Tryz.infoSht
            have hnews : ∀ (j : Nat) (u : Value), ([.int .i64 tk, .int .i64 sr, .bool false] : List Value)[j]? = some u → (Wz.alloc (.cells #[.int .i64 tk, .int .i64 sr, .bool false] 76)).cell? ((⟨Wz.heap.size, 0, none⟩ : Addr).add j) = some u :=
              World.news_of_block (cs := #[.int .i64 tk, .int .i64 sr, .bool false]) (World.alloc_heap_new Wz _)
            have hownf := hown3.alloc (.cells #[.int .i64 tk, .int .i64 sr, .bool false] 76)
            have hbf := hb3.alloc hb3.size (.cells #[.int .i64 tk, .int .i64 sr, .bool false] 76)
            have k2f := k2w.alloc (.cells #[.int .i64 tk, .int .i64 sr, .bool false] 76)
            obtain ⟨c9, f9, l9'⟩ := k9z.rules
            go_wp2_with (at_builtin; refine wpList_append_lies _ rfl (.tmp 49) (.tmp 51) 72 rfl w.heap.size 76 i0 (.agg #[.int .i64 0, .int .i64 0, .bool false]) 3 24 Tryz.underlying72 hi0 hz0 hz1 hz2 rfl (by decide) u5 k (((List.range k).map (shotS f way)).flatMap Sht.cells) rfl hownf ⟨Wz.heap.size, 0, none⟩ 1 1 [.int .i64 tk, .int .i64 sr, .bool false] rfl rfl hnews (by simp [Value.oneCell']) (by decide) hbig1.out hbig2.out (hbf.size) (Wz.heap.size + 1) (by simp) ?_; intro g cap w7 hown7 hgrow hlies hlt7)
            have hbg : Below w.heap.size _ w7 := ⟨hgrow.os, hgrow.tape, hgrow.output, hgrow.size, fun b hb2 => hgrow.block b (Nat.lt_of_lt_of_le hb2 hbf.size) (fun e => by have := (hownf.lt _ e.symm).1; omega)⟩
            have hbh := hbf.trans hbg
            have k2h := k2f.grown hgrow (fun e => by have := hvb _ e.symm; omega)
            clear c9 f9 l9'
            go_roundw
            case rel =>
              refine ⟨k + 1, by go_num, by omega, ?_, ?_, k2h, hbh⟩
              · rw [mapRange_succ, List.flatMap_append, hsr.out, hwk2.out]
                exact hown7
              · intro p hp
                simp only [Value.ownBlock, Option.some.injEq] at hp
                subst hp
                rcases hlies with h | h
                · exact hvb _ h
                · have := k2f.lt; have := hb3.size; omega
            case measure => simp [intOf]; omega
        · have hwk2 : Hid (weakS f way k = false) := by show _ = _; rw [hwk.out, decide_eq_false q1]; rfl
          have q1' : decide (0 ≤ tk) = false := decide_eq_false q1
          replace q1 := Lib.hid q1
          go_wp2_with fail
          obtain ⟨c9, f9, l9⟩ := k9.rules
          obtain ⟨c2, f2, l2⟩ := k2w.rules
          refine wp_region_still_tail 26 (by kernel_rfl) (by kernel_rfl) ?_
          simp only [List.take_succ_cons, List.take_zero, List.drop_succ_cons, List.drop_zero]
          (iterate 4 still_step)
          (iterate 4 (refine wpStill_skip (by rfl) ?_; (try simp only [Act.put, sA, sZ, sS])))
          (iterate 2 still_step)
          (iterate 14 (refine wpStill_skip (by rfl) ?_; (try simp only [Act.put, sA, sZ, sS])))
          (iterate 2 still_step)
          apply still_end
          change wpList _ _ _ _ _ W3.drew
          have hd : Below W3.heap.size W3 W3.drew := (Below.refl _ _).drew
          clear c9 f9 c2 f2 l2 hown
          replace k9 := k9.below hd
          replace k2w := k2w.below hd
          replace hown3 := ownsRow_below hown3 hd
          replace hb3 := hb3.trans (hd.mono hb3.size)
          clear hd
          generalize W3.drew = Wd at *
          obtain ⟨c9, f9, l9'⟩ := k9.rules
          go_upto_region 7 with fail
          clear c9 f9 l9'
          have k9z := k9.set_ 2 (.bool false)
          simp only [sA, sZ, sS] at k9z
          replace k2w := k2w.far (p := ⟨g9, 2, none⟩) (by dsimp only; omega) (.bool false)
          replace hown3 := ownsRow_setCell hown3 (p := ⟨g9, 2, none⟩) (fun e => hvn.out _ e rfl) (.bool false)
          replace hb3 := hb3.setCell (p := ⟨g9, 2, none⟩) (by dsimp only; omega) (.bool false)
          generalize Wd.setCell ⟨g9, 2, none⟩ (.bool false) = Wz at *
          have hbig1 : Hid (k + 1 ≤ maxLen) := by show k + 1 ≤ maxLen; unfold maxLen; omega
          have hbig2 : Hid ((k + 1) * 24 ≤ 140737488355328) := by show (k + 1) * 24 ≤ 140737488355328; omega
          obtain ⟨i0, hi0, hz0, hz1, hz2⟩ := info_parts Tryz.infoSht
          have hnews : ∀ (j : Nat) (u : Value), ([.int .i64 tk, .int .i64 sr, .bool false] : List Value)[j]? = some u → (Wz.alloc (.cells #[.int .i64 tk, .int .i64 sr, .bool false] 76)).cell? ((⟨Wz.heap.size, 0, none⟩ : Addr).add j) = some u :=
            World.news_of_block (cs := #[.int .i64 tk, .int .i64 sr, .bool false]) (World.alloc_heap_new Wz _)
          have hownf := hown3.alloc (.cells #[.int .i64 tk, .int .i64 sr, .bool false] 76)
          have hbf := hb3.alloc hb3.size (.cells #[.int .i64 tk, .int .i64 sr, .bool false] 76)
          have k2f := k2w.alloc (.cells #[.int .i64 tk, .int .i64 sr, .bool false] 76)
          obtain ⟨c9, f9, l9'⟩ := k9z.rules
          go_wp2_with (at_builtin; refine wpList_append_lies _ rfl (.tmp 49) (.tmp 51) 72 rfl w.heap.size 76 i0 (.agg #[.int .i64 0, .int .i64 0, .bool false]) 3 24 Tryz.underlying72 hi0 hz0 hz1 hz2 rfl (by decide) u5 k (((List.range k).map (shotS f way)).flatMap Sht.cells) rfl hownf ⟨Wz.heap.size, 0, none⟩ 1 1 [.int .i64 tk, .int .i64 sr, .bool false] rfl rfl hnews (by simp [Value.oneCell']) (by decide) hbig1.out hbig2.out (hbf.size) (Wz.heap.size + 1) (by simp) ?_; intro g cap w7 hown7 hgrow hlies hlt7)
          have hbg : Below w.heap.size _ w7 := ⟨hgrow.os, hgrow.tape, hgrow.output, hgrow.size, fun b hb2 => hgrow.block b (Nat.lt_of_lt_of_le hb2 hbf.size) (fun e => by have := (hownf.lt _ e.symm).1; omega)⟩
          have hbh := hbf.trans hbg
          have k2h := k2f.grown hgrow (fun e => by have := hvb _ e.symm; omega)
          clear c9 f9 l9'
          go_roundw
          case rel =>
            refine ⟨k + 1, by go_num, by omega, ?_, ?_, k2h, hbh⟩
            · rw [mapRange_succ, List.flatMap_append, hsr.out, hwk2.out]
              exact hown7
            · intro p hp
              simp only [Value.ownBlock, Option.some.injEq] at hp
              subst hp
              rcases hlies with h | h
              · exact hvb _ h
              · have := k2f.lt; have := hb3.size; omega
          case measure => simp [intOf]; omega
      · try simp only [Act.put, sA, sZ, sS] at hrest
        refine held_two (i := 3) (j := 10) (by kernel_rfl) rfl rfl rfl rfl (fun K hK => ?_) (fun K hK => ?_)
        · skip
          go_simp
          refine (hdu wd).mono ?_
          rintro e X1 ⟨rfl, hbel⟩
          replace hb9 := hb9.trans (hbel.mono hb9.size)
          try replace k9 := k9.below hbel
          clear hSx hbel
          have hSx := hSb.out _ hb9
          refine hK _ _ hSx ?_
          clear hK K
          try simp only [Act.put, sA, sZ, sS]
          refine held_two (i := 4) (j := 10) (by kernel_rfl) rfl rfl rfl rfl (fun K hK => ?_) (fun K hK => ?_)
          · skip
            go_simp
            refine (hre X1 (hs0.out.below (hb.trans (hb9.mono hb.size)))).mono ?_
            rintro e X2 ⟨rfl, hbel⟩
            replace hb9 := hb9.trans (hbel.mono hb9.size)
            try replace k9 := k9.below hbel
            clear hSx hbel
            have hSx := hSb.out _ hb9
            refine hK _ _ hSx ?_
            clear hK K
            try simp only [Act.put, sA, sZ, sS]
            refine hTk 9 22 ?_
            refine hOne 10 fun K hK => ?_
            go_simp
            have hgg := hb9.size
            have k9 := Blk.new X2 76 #[.int .i64 0, .int .i64 0, .bool false]
            replace hb9 := hb9.alloc hb9.size (.cells #[.int .i64 0, .int .i64 0, .bool false] 76)
            clear hSx
            have hSx := hSb.out _ hb9
            refine hK _ _ hSx ?_
            clear hK K
            try simp only [Act.put, sA, sZ, sS]
            generalize X2.heap.size = g9 at *
            generalize X2.alloc (.cells #[.int .i64 0, .int .i64 0, .bool false] 76) = X3 at *
            refine hOne 11 fun K hK => ?_
            have kz := ((k9.set_ 0 (.int .i64 tk)).set_ 1 (.int .i64 sr)).set_ 2 (.bool false)
            simp only [sA, sZ, sS] at kz
            have bz := ((hb9.setCell (p := ⟨g9, 0, none⟩) (by dsimp only; omega) (.int .i64 tk)).setCell (p := ⟨g9, 1, none⟩) (by dsimp only; omega) (.int .i64 sr)).setCell (p := ⟨g9, 2, none⟩) (by dsimp only; omega) (.bool false)
            obtain ⟨X4, hwz⟩ : ∃ y, y = ((X3.setCell ⟨g9, 0, none⟩ (.int .i64 tk)).setCell ⟨g9, 1, none⟩ (.int .i64 sr)).setCell ⟨g9, 2, none⟩ (.bool false) := ⟨_, rfl⟩
            rw [← hwz] at kz bz
            obtain ⟨c9, f9, l9⟩ := k9.rules
            go_simp
            rw [← hwz]
            clear hwz c9 f9 l9 hSx
            have hSx := hSb.out _ bz
            refine hK _ _ hSx ?_
            clear hK K
            try simp only [Act.put, sA, sZ, sS]
            refine wpAnyH_done (by kernel_rfl) (hrest (g9) _ ⟨kz, (by omega), bz⟩) _
          · skip
            go_simp
            have hgg := hb9.size
            have k9 := Blk.new X1 76 #[.int .i64 0, .int .i64 0, .bool false]
            replace hb9 := hb9.alloc hb9.size (.cells #[.int .i64 0, .int .i64 0, .bool false] 76)
            clear hSx
            have hSx := hSb.out _ hb9
            refine hK _ _ hSx ?_
            clear hK K
            try simp only [Act.put, sA, sZ, sS]
            generalize X1.heap.size = g9 at *
            generalize X1.alloc (.cells #[.int .i64 0, .int .i64 0, .bool false] 76) = X5 at *
            refine hOne 4 fun K hK => ?_
            go_simp
            refine (hre X5 (hs0.out.below (hb.trans (hb9.mono hb.size)))).mono ?_
            rintro e X6 ⟨rfl, hbel⟩
            replace hb9 := hb9.trans (hbel.mono hb9.size)
            try replace k9 := k9.below hbel
            clear hSx hbel
            have hSx := hSb.out _ hb9
            refine hK _ _ hSx ?_
            clear hK K
            try simp only [Act.put, sA, sZ, sS]
            refine hTk 9 22 ?_
            refine hOne 11 fun K hK => ?_
            have kz := ((k9.set_ 0 (.int .i64 tk)).set_ 1 (.int .i64 sr)).set_ 2 (.bool false)
            simp only [sA, sZ, sS] at kz
            have bz := ((hb9.setCell (p := ⟨g9, 0, none⟩) (by dsimp only; omega) (.int .i64 tk)).setCell (p := ⟨g9, 1, none⟩) (by dsimp only; omega) (.int .i64 sr)).setCell (p := ⟨g9, 2, none⟩) (by dsimp only; omega) (.bool false)
            obtain ⟨X7, hwz⟩ : ∃ y, y = ((X6.setCell ⟨g9, 0, none⟩ (.int .i64 tk)).setCell ⟨g9, 1, none⟩ (.int .i64 sr)).setCell ⟨g9, 2, none⟩ (.bool false) := ⟨_, rfl⟩
            rw [← hwz] at kz bz
            obtain ⟨c9, f9, l9⟩ := k9.rules
            go_simp
            rw [← hwz]
            clear hwz c9 f9 l9 hSx
            have hSx := hSb.out _ bz
            refine hK _ _ hSx ?_
            clear hK K
            try simp only [Act.put, sA, sZ, sS]
            refine wpAnyH_done (by kernel_rfl) (hrest (g9) _ ⟨kz, (by omega), bz⟩) _
        · skip
          go_simp
          have hgg := hb9.size
          have k9 := Blk.new wd 76 #[.int .i64 0, .int .i64 0, .bool false]
          replace hb9 := hb9.alloc hb9.size (.cells #[.int .i64 0, .int .i64 0, .bool false] 76)
          clear hSx
          have hSx := hSb.out _ hb9
          refine hK _ _ hSx ?_
          clear hK K
          try simp only [Act.put, sA, sZ, sS]
          generalize wd.heap.size = g9 at *
          generalize wd.alloc (.cells #[.int .i64 0, .int .i64 0, .bool false] 76) = X8 at *
          refine hOne 3 fun K hK => ?_
          go_simp
          refine (hdu X8).mono ?_
          rintro e X9 ⟨rfl, hbel⟩
          replace hb9 := hb9.trans (hbel.mono hb9.size)
          try replace k9 := k9.below hbel
          clear hSx hbel
          have hSx := hSb.out _ hb9
          refine hK _ _ hSx ?_
          clear hK K
          try simp only [Act.put, sA, sZ, sS]
          refine hOne 4 fun K hK => ?_
          go_simp
          refine (hre X9 (hs0.out.below (hb.trans (hb9.mono hb.size)))).mono ?_
          rintro e X10 ⟨rfl, hbel⟩
          replace hb9 := hb9.trans (hbel.mono hb9.size)
          try replace k9 := k9.below hbel
          clear hSx hbel
          have hSx := hSb.out _ hb9
          refine hK _ _ hSx ?_
          clear hK K
          try simp only [Act.put, sA, sZ, sS]
          refine hTk 9 22 ?_
          refine hOne 11 fun K hK => ?_
          have kz := ((k9.set_ 0 (.int .i64 tk)).set_ 1 (.int .i64 sr)).set_ 2 (.bool false)
          simp only [sA, sZ, sS] at kz
          have bz := ((hb9.setCell (p := ⟨g9, 0, none⟩) (by dsimp only; omega) (.int .i64 tk)).setCell (p := ⟨g9, 1, none⟩) (by dsimp only; omega) (.int .i64 sr)).setCell (p := ⟨g9, 2, none⟩) (by dsimp only; omega) (.bool false)
          obtain ⟨X11, hwz⟩ : ∃ y, y = ((X10.setCell ⟨g9, 0, none⟩ (.int .i64 tk)).setCell ⟨g9, 1, none⟩ (.int .i64 sr)).setCell ⟨g9, 2, none⟩ (.bool false) := ⟨_, rfl⟩
          rw [← hwz] at kz bz
          obtain ⟨c9, f9, l9⟩ := k9.rules
          go_simp
          rw [← hwz]
          clear hwz c9 f9 l9 hSx
          have hSx := hSb.out _ bz
          refine hK _ _ hSx ?_
          clear hK K
          try simp only [Act.put, sA, sZ, sS]
          refine wpAnyH_done (by kernel_rfl) (hrest (g9) _ ⟨kz, (by omega), bz⟩) _
    · obtain rfl : k = f.shots.toNat := by omega
      have hx : ¬ ((f.shots.toNat : Nat) : Int) < f.shots := by omega
      obtain ⟨O, co, rfl, h1⟩ := SlAt.of_own (enc := Sht.cells) hown (by omega) (shotL f way) rfl (fun _ => rfl) (by simp [shotL])
      clear hown hvb
      go_wp2_with fail
      go_ret
      exact ⟨O, co, rfl, h1, hb⟩
end Go.Proofs.YtcmbmmpihiekhaaGreat
namespace Go.Proofs.YtcmbmmpihiekhaaGreat
open Go.RowKit Go.Shelf
attribute [local irreducible] wpStill

end Go.Proofs.YtcmbmmpihiekhaaGreat
namespace Go.Proofs.YtcmbmmpihiekhaaGreat
open Go.RowKit Go.Shelf

theorem Fire_any (f : Fir) (l : List Int) (A : Option Addr) (n c B : Nat) (w : World) (hs : SlAt w B 1 ivs A n c l) :
    Calls Tryz.prog 18 #[.agg #[.int .i64 f.start, .int .i64 f.every, .int .i64 f.srcs, .int .i64 f.shots, .int .i64 f.charge], .slice A n c] w (RetSl 3 Sht.cells (fireR f l) w) := by
  have h1 := fun W => sCheckFiring_any f W
  have hl := Lib.hid hs.len
  have hn := hs.le
  obtain ⟨w1, hw1⟩ : ∃ w1, w1 = w.alloc (.cells #[.int .i64 f.start, .int .i64 f.every, .int .i64 f.srcs, .int .i64 f.shots, .int .i64 f.charge] 23) := ⟨_, rfl⟩
  have k3 : Blk w1 w.heap.size 23 #[.int .i64 f.start, .int .i64 f.every, .int .i64 f.srcs, .int .i64 f.shots, .int .i64 f.charge] := by rw [hw1]; exact Blk.new _ _ _
  have b : Below w.heap.size w w1 := by rw [hw1]; exact (Below.refl _ _).alloc (Nat.le_refl _) _
  have hs1 : SlAt w1 B 1 ivs A n c l := by rw [hw1]; exact hs.alloc _
  clear hs
  unfold chkFir at h1
  by_cases hf : okFir f = true
  · rw [if_pos hf] at h1
    by_cases hr : 1 ≤ (n : Int) ∧ (n : Int) ≤ 512
    · have h2 := fun W => sWithin_yes hr W
      have h3 := fun W h => isSorted_any l A n c B W h
      unfold SrtRes at h3
      cases hsr : sorted l with
      | false =>
        have hv : Hid (fireR f l = ([], 53)) := by
          show _ = _
          unfold fireR okWay
          rw [if_pos hf, hsr]; simp
        simp only [hsr] at h3
        replace hr := Lib.hid hr
        go_enter Tryz.func18, Tryz.ntmps18
        go_wp2_with fail
        rw [← hw1]
        clear hw1
        obtain ⟨c3, f3, l3⟩ := k3.rules
        go_wp2_with fail
        refine (h1 _).mono ?_
        rintro e W ⟨rfl, hb⟩
        clear c3 f3 l3 h1
        replace k3 := k3.below hb
        replace b := b.trans (hb.mono b.size)
        replace hs1 := hs1.below hb
        clear hb
        go_wp2_with fail
        refine (h2 _).mono ?_
        rintro e w' ⟨rfl, rfl⟩
        go_wp2_with fail
        refine (h3 _ hs1).mono ?_
        rintro e W3 ⟨rfl, hb⟩
        go_wp2_with fail
        go_ret2
        rw [hv.out]
        exact RetSl.none_ (b.trans (hb.mono b.size))
      | true =>
        simp only [hsr] at h3
        obtain ⟨x, hx⟩ := some_of_lt hl.out (show 0 < n by omega)
        obtain ⟨y, hy⟩ := some_of_lt hl.out (show n - 1 < n by omega)
        have hends := okWay_ends (by rw [hl.out]; omega) (by rw [hl.out]; omega) hsr hx (by rw [hl.out]; exact hy)
        have hv : Hid (fireR f l = if 0 ≤ x ∧ y ≤ 1048576 then (shotL f l, 0) else ([], 53)) := by
          show _ = _
          unfold fireR
          rw [if_pos hf, hends]
          simp only [decide_eq_true_eq]
        have h4 := fun W h => fire_any f (okFir_is hf) l A n c B W h
        have hn1 : 1 ≤ n := by omega
        replace hr := Lib.hid hr
        clear hends
        go_enter Tryz.func18, Tryz.ntmps18
        go_wp2_with fail
        rw [← hw1]
        clear hw1
        obtain ⟨c3, f3, l3⟩ := k3.rules
        go_wp2_with fail
        refine (h1 _).mono ?_
        rintro e W ⟨rfl, hb⟩
        clear c3 f3 l3 h1
        replace k3 := k3.below hb
        replace b := b.trans (hb.mono b.size)
        replace hs1 := hs1.below hb
        clear hb
        go_wp2_with fail
        refine (h2 _).mono ?_
        rintro e w' ⟨rfl, rfl⟩
        go_wp2_with fail
        refine (h3 _ hs1).mono ?_
        rintro e W3 ⟨rfl, hb⟩
        replace k3 := k3.below hb
        replace b := b.trans (hb.mono b.size)
        replace hs1 := hs1.below hb
        clear hb h2 h3
        have hs2 := hs1
        obtain ⟨bb, off, hA, -, hbl, e0⟩ := hs1.int hx
        obtain ⟨bb2, off2, hA2, -, -, e1⟩ := hs1.int hy
        rw [hA] at hA2
        simp only [Option.some.injEq, Addr.mk.injEq, and_true] at hA2
        obtain ⟨rfl, rfl⟩ := hA2
        subst hA
        rw [Nat.add_zero] at e0
        have t1 : IntKind.i64.wrap ((n : Int) - 1) = ((n - 1 : Nat) : Int) := by rw [IntWalk.i64_in _ (by omega)]; omega
        have n0 : (0 : Int) < (n : Int) := by omega
        have n1 : ((n - 1 : Nat) : Int) < (n : Int) := by omega
        have n2 : (0 : Int) ≤ ((n - 1 : Nat) : Int) := by omega
        replace hx := Lib.hid hx
        replace hy := Lib.hid hy
        generalize n - 1 = m at *
        by_cases q1 : x < 0
        · rw [if_neg (by omega)] at hv
          clear h4
          go_wp2_with fail
          go_ret2
          rw [hv.out]
          exact RetSl.none_ b
        · by_cases q2 : y > 1048576
          · rw [if_neg (by omega)] at hv
            clear h4
            go_wp2_with fail
            go_ret2
            rw [hv.out]
            exact RetSl.none_ b
          · rw [if_pos (by omega)] at hv
            obtain ⟨c3, f3, l3⟩ := k3.rules
            go_wp2_with fail
            refine (h4 _ hs2).mono ?_
            rintro e W4 ⟨P, pc, rfl, hP, hb⟩
            go_wp2_with fail
            go_ret2
            rw [hv.out]
            exact ⟨P, _, pc, rfl, hP.mono b.size, b.trans (hb.mono b.size)⟩
    · have h2 := fun W => sWithin_no hr W
      have hv : Hid (fireR f l = ([], 53)) := by
        show _ = _
        unfold fireR okWay
        rw [if_pos hf, decide_eq_false (by rw [hl.out]; omega)]; simp
      replace hr := Lib.hid hr
      go_enter Tryz.func18, Tryz.ntmps18
      go_wp2_with fail
      rw [← hw1]
      clear hw1
      obtain ⟨c3, f3, l3⟩ := k3.rules
      go_wp2_with fail
      refine (h1 _).mono ?_
      rintro e W ⟨rfl, hb⟩
      clear c3 f3 l3 h1
      replace k3 := k3.below hb
      replace b := b.trans (hb.mono b.size)
      replace hs1 := hs1.below hb
      clear hb
      go_wp2_with fail
      refine (h2 _).mono ?_
      rintro e w' ⟨rfl, rfl⟩
      go_wp2_with fail
      go_ret2
      rw [hv.out]
      exact RetSl.none_ b
  · rw [if_neg hf] at h1
    have hv : Hid (fireR f l = ([], 52)) := by show _ = _; unfold fireR; rw [if_neg hf]
    go_enter Tryz.func18, Tryz.ntmps18
    go_wp2_with fail
    rw [← hw1]
    clear hw1
    obtain ⟨c3, f3, l3⟩ := k3.rules
    go_wp2_with fail
    refine (h1 _).mono ?_
    rintro e W ⟨rfl, hb⟩
    clear c3 f3 l3 h1
    replace k3 := k3.below hb
    replace b := b.trans (hb.mono b.size)
    replace hs1 := hs1.below hb
    clear hb
    go_wp2_with fail
    go_ret2
    rw [hv.out]
    exact RetSl.none_ b
end Go.Proofs.YtcmbmmpihiekhaaGreat
