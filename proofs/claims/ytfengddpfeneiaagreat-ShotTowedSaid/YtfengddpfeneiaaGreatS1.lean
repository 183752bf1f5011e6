/-
  Shots, walks: checks of arrays, and what a gun gives.
-/
import Derived.Test.YtfengddpfeneiaaGreatI1
import Derived.Test.YtfengddpfeneiaaGreatQ2
namespace Go.Proofs.YtfengddpfeneiaaGreat
open Go.RowKit Go.Shelf
set_option linter.unusedSimpArgs false
set_option linter.unusedVariables false

set_option maxHeartbeats 400000 in
theorem sWithin_any (n lo hi : Int) (w : World) :
    Calls Tryz.prog 25 #[.int .i64 n, .int .i64 lo, .int .i64 hi] w fun e w' => e = .returned (.bool (decide (lo ≤ n ∧ n ≤ hi))) ∧ w = w' := by
  by_cases h : lo ≤ n
  · go_enter Tryz.func25, Tryz.ntmps25
    go_wp2
    go_ret
    simp [h]
  · go_enter Tryz.func25, Tryz.ntmps25
    go_wp2
    go_ret
    simp; omega
theorem sWithin_yes {n lo hi : Int} (h : lo ≤ n ∧ n ≤ hi) (w : World) : Calls Tryz.prog 25 #[.int .i64 n, .int .i64 lo, .int .i64 hi] w fun e w' => e = .returned (.bool true) ∧ w = w' := by
  have := sWithin_any n lo hi w
  rwa [decide_eq_true h] at this
theorem sWithin_no {n lo hi : Int} (h : ¬ (lo ≤ n ∧ n ≤ hi)) (w : World) : Calls Tryz.prog 25 #[.int .i64 n, .int .i64 lo, .int .i64 hi] w fun e w' => e = .returned (.bool false) ∧ w = w' := by
  have := sWithin_any n lo hi w
  rwa [decide_eq_false h] at this
theorem allTake_succ {α : Type} {p : α → Bool} {xs : List α} {k : Nat} {x : α} (h : (xs.take k).all p = true) (hx : xs[k]? = some x) (hp : p x = true) : (xs.take (k + 1)).all p = true := by
  rw [List.take_add_one, hx, List.all_append, h]; simp [hp]
theorem all_no {α : Type} {p : α → Bool} {xs : List α} {k : Nat} {x : α} (hx : xs[k]? = some x) (hp : p x = false) : xs.all p = false := by
  cases h : xs.all p
  · rfl
  · rw [List.all_eq_true] at h
    rw [h x (List.mem_of_getElem? hx)] at hp; cases hp
set_option maxRecDepth 100000 in
set_option maxHeartbeats 2000000 in
theorem sCheck_any (a : Arr) (S G : Option Addr) (ns cs ng cg : Nat) (w : World) (hS : SlAt w 0 1 ivs S ns cs a.sh) (hG : SlAt w 0 4 Gun.cells G ng cg a.gs) :
    Calls Tryz.prog 85 #[.agg #[.slice S ns cs, .slice G ng cg]] w fun e w' => e = .returned (.int .i64 (chkArr a)) ∧ Below w.heap.size w w' := by
  have hsl := Lib.hid hS.len
  have hgl := Lib.hid hG.len
  have hsn := hS.le
  have hgn := hG.le
  obtain ⟨w1, hw1⟩ : ∃ w1, w1 = w.alloc (.cells #[.slice S ns cs, .slice G ng cg] 83) := ⟨_, rfl⟩
  have k3 : Blk w1 w.heap.size 83 #[.slice S ns cs, .slice G ng cg] := by rw [hw1]; exact Blk.new _ _ _
  have b : Below w.heap.size w w1 := by rw [hw1]; exact (Below.refl _ _).alloc (Nat.le_refl _) _
  replace hS : SlAt w1 0 1 ivs S ns cs a.sh := by rw [hw1]; exact hS.alloc _
  replace hG : SlAt w1 0 4 Gun.cells G ng cg a.gs := by rw [hw1]; exact hG.alloc _
  by_cases h1 : 1 ≤ (ns : Int) ∧ (ns : Int) ≤ 32
  · have hw := fun W => sWithin_yes h1 W
    by_cases h2 : 1 ≤ (ng : Int) ∧ (ng : Int) ≤ 8
    · have hv := fun W => sWithin_yes h2 W
      have har : Hid (arrLen a) := by show arrLen a; unfold arrLen; have := hsl.out; have := hgl.out; omega
      obtain ⟨h11, h12⟩ := h1
      obtain ⟨h21, h22⟩ := h2
      go_enter Tryz.func85, Tryz.ntmps85
      go_wp2_with fail
      rw [← hw1]
      clear hw1
      obtain ⟨c3, f3, l3⟩ := k3.rules
      go_wp2_with fail
      refine (hw _).mono ?_
      rintro e w' ⟨rfl, rfl⟩
      go_wp2_with fail
      refine (hv _).mono ?_
      rintro e w' ⟨rfl, rfl⟩
      clear hw hv
      go_wp2_with fail
      go_loop [22] (fun i => ∃ k : Nat, i = .int .i64 k ∧ k ≤ ns ∧ (a.sh.take k).all (okNum 1000) = true) (fun i => ns - (intOf i).toNat)
      case atStart => exact ⟨0, rfl, Nat.zero_le _, rfl⟩
      case round =>
        obtain ⟨k, rfl, hk, hall⟩ := hrel
        by_cases hlt : k < ns
        · obtain ⟨x, hx⟩ := some_of_lt hsl.out hlt
          obtain ⟨bb, off, rfl, -, hbl, e0⟩ := hS.int hx
          replace hx := Lib.hid hx
          have hk0 : (0 : Int) ≤ (k : Int) := by omega
          have hk1 : (k : Int) < (ns : Int) := by omega
          replace hall := Lib.hid hall
          by_cases hok : -1000 ≤ x ∧ x ≤ 1000
          · have hw := fun W => sWithin_yes hok W
            have hok2 := Lib.hid hok
            clear hok
            go_wp2_with fail
            refine (hw _).mono ?_
            rintro e w' ⟨rfl, rfl⟩
            go_wp2_with fail
            go_round
            case rel => exact ⟨k + 1, by go_num, by omega, allTake_succ hall.out hx.out (decide_eq_true hok2.out)⟩
            case measure => simp [intOf]; omega
          · have hw := fun W => sWithin_no hok W
            have hok2 := Lib.hid hok
            clear hok
            go_wp2_with fail
            refine (hw _).mono ?_
            rintro e w' ⟨rfl, rfl⟩
            go_wp2_with fail
            go_ret
            refine ⟨ret_int ?_, b⟩
            unfold chkArr okArr
            rw [all_no hx.out (decide_eq_false hok2.out)]
            simp
        · obtain rfl : k = ns := by omega
          have hsh : Hid (a.sh.all (okNum 1000) = true) := by show _ = _; rw [List.take_of_length_le (by rw [hsl.out]; exact Nat.le_refl _)] at hall; exact hall
          clear hall
          obtain ⟨c3, f3, l3⟩ := k3.rules
          go_wp2_with fail
          clear c3 f3 l3
          go_loopw [33] (fun i wr => ∃ k : Nat, i = .int .i64 k ∧ k ≤ ng ∧ (a.gs.take k).all okGun = true ∧ Below w1.heap.size w1 wr) (fun i wr => ng - (intOf i).toNat)
          case atStart => exact ⟨0, rfl, Nat.zero_le _, rfl, Below.refl _ _⟩
          case round =>
            obtain ⟨j, rfl, hj, hall, hb⟩ := hrel
            by_cases hlt : j < ng
            · obtain ⟨g, hg⟩ := some_of_lt hgl.out hlt
              obtain ⟨bb, off, rfl, -, hbl, e0, e1, e2, e3⟩ := (hG.below hb).gun hg
              replace hg := Lib.hid hg
              have hj0 : (0 : Int) ≤ (j : Int) := by omega
              have hj1 : (j : Int) < (ng : Int) := by omega
              replace hall := Lib.hid hall
              have hin := fun n lo hi W => sWithin_any n lo hi W
              by_cases q1 : 1 ≤ g.vol ∧ g.vol ≤ 1000
              · have hw1 := fun W => sWithin_yes q1 W
                by_cases q2 : 0 ≤ g.time ∧ g.time ≤ 16
                · have hw2 := fun W => sWithin_yes q2 W
                  by_cases q3 : -16 ≤ g.late.lo ∧ g.late.lo ≤ g.late.hi
                  · have hw3 := fun W => sWithin_yes q3 W
                    by_cases q4 : g.late.hi > 16
                    · have hok : Hid (okGun g = false) := by show _ = _; unfold okGun; exact decide_eq_false (by omega)
                      replace q1 := Lib.hid q1
                      replace q2 := Lib.hid q2
                      replace q3 := Lib.hid q3
                      go_wp2_with fail
                      refine (hw1 _).mono ?_
                      rintro e w' ⟨rfl, rfl⟩
                      go_wp2_with fail
                      refine (hw2 _).mono ?_
                      rintro e w' ⟨rfl, rfl⟩
                      go_wp2_with fail
                      refine (hw3 _).mono ?_
                      rintro e w' ⟨rfl, rfl⟩
                      go_wp2_with fail
                      go_ret
                      refine ⟨ret_int ?_, b.trans ((hb.alloc hb.size _).mono b.size)⟩
                      unfold chkArr okArr
                      rw [all_no hg.out hok.out]
                      simp
                    · have hok : Hid (okGun g = true) := by show _ = _; unfold okGun; exact decide_eq_true (by omega)
                      replace q1 := Lib.hid q1
                      replace q2 := Lib.hid q2
                      replace q3 := Lib.hid q3
                      go_wp2_with fail
                      refine (hw1 _).mono ?_
                      rintro e w' ⟨rfl, rfl⟩
                      go_wp2_with fail
                      refine (hw2 _).mono ?_
                      rintro e w' ⟨rfl, rfl⟩
                      go_wp2_with fail
                      refine (hw3 _).mono ?_
                      rintro e w' ⟨rfl, rfl⟩
                      go_wp2_with fail
                      go_roundw
                      case rel => exact ⟨j + 1, by go_num, by omega, allTake_succ hall.out hg.out hok.out, hb.alloc hb.size _⟩
                      case measure => simp [intOf]; omega
                  · have hw3 := fun W => sWithin_no q3 W
                    have hok : Hid (okGun g = false) := by show _ = _; unfold okGun; exact decide_eq_false (by omega)
                    replace q1 := Lib.hid q1
                    replace q2 := Lib.hid q2
                    replace q3 := Lib.hid q3
                    go_wp2_with fail
                    refine (hw1 _).mono ?_
                    rintro e w' ⟨rfl, rfl⟩
                    go_wp2_with fail
                    refine (hw2 _).mono ?_
                    rintro e w' ⟨rfl, rfl⟩
                    go_wp2_with fail
                    refine (hw3 _).mono ?_
                    rintro e w' ⟨rfl, rfl⟩
                    go_wp2_with fail
                    go_ret
                    refine ⟨ret_int ?_, b.trans ((hb.alloc hb.size _).mono b.size)⟩
                    unfold chkArr okArr
                    rw [all_no hg.out hok.out]
                    simp
                · have hw2 := fun W => sWithin_no q2 W
                  have hok : Hid (okGun g = false) := by show _ = _; unfold okGun; exact decide_eq_false (by omega)
                  replace q1 := Lib.hid q1
                  replace q2 := Lib.hid q2
                  go_wp2_with fail
                  refine (hw1 _).mono ?_
                  rintro e w' ⟨rfl, rfl⟩
                  go_wp2_with fail
                  refine (hw2 _).mono ?_
                  rintro e w' ⟨rfl, rfl⟩
                  go_wp2_with fail
                  go_ret
                  refine ⟨ret_int ?_, b.trans ((hb.alloc hb.size _).mono b.size)⟩
                  unfold chkArr okArr
                  rw [all_no hg.out hok.out]
                  simp
              · have hw1 := fun W => sWithin_no q1 W
                have hok : Hid (okGun g = false) := by show _ = _; unfold okGun; exact decide_eq_false (by omega)
                replace q1 := Lib.hid q1
                go_wp2_with fail
                refine (hw1 _).mono ?_
                rintro e w' ⟨rfl, rfl⟩
                go_wp2_with fail
                go_ret
                refine ⟨ret_int ?_, b.trans ((hb.alloc hb.size _).mono b.size)⟩
                unfold chkArr okArr
                rw [all_no hg.out hok.out]
                simp
            · obtain rfl : j = ng := by omega
              rw [List.take_of_length_le (by rw [hgl.out]; exact Nat.le_refl _)] at hall
              replace hall := Lib.hid hall
              go_wp2_with fail
              go_ret
              refine ⟨ret_int ?_, b.trans (hb.mono b.size)⟩
              unfold chkArr okArr
              rw [hall.out, hsh.out, decide_eq_true har.out]
              rfl
    · have hv := fun W => sWithin_no h2 W
      have har : Hid (¬ arrLen a) := by show ¬ arrLen a; unfold arrLen; have := hsl.out; have := hgl.out; omega
      replace h1 := Lib.hid h1
      replace h2 := Lib.hid h2
      go_enter Tryz.func85, Tryz.ntmps85
      go_wp2_with fail
      rw [← hw1]
      clear hw1
      obtain ⟨c3, f3, l3⟩ := k3.rules
      go_wp2_with fail
      refine (hw _).mono ?_
      rintro e w' ⟨rfl, rfl⟩
      go_wp2_with fail
      refine (hv _).mono ?_
      rintro e w' ⟨rfl, rfl⟩
      go_wp2_with fail
      go_ret
      refine ⟨ret_int ?_, b⟩
      unfold chkArr okArr
      rw [decide_eq_false har.out]
      rfl
  · have hw := fun W => sWithin_no h1 W
    have har : Hid (¬ arrLen a) := by show ¬ arrLen a; unfold arrLen; have := hsl.out; have := hgl.out; omega
    replace h1 := Lib.hid h1
    go_enter Tryz.func85, Tryz.ntmps85
    go_wp2_with fail
    rw [← hw1]
    clear hw1
    obtain ⟨c3, f3, l3⟩ := k3.rules
    go_wp2_with fail
    refine (hw _).mono ?_
    rintro e w' ⟨rfl, rfl⟩
    go_wp2_with fail
    go_ret
    refine ⟨ret_int ?_, b⟩
    unfold chkArr okArr
    rw [decide_eq_false har.out]
    rfl
end Go.Proofs.YtfengddpfeneiaaGreat
