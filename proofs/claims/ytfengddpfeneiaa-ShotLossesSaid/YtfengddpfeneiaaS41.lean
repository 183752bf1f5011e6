/-
  Shots, walks of the specification: arrays of guns.
-/
import Derived.Test.YtfengddpfeneiaaS5
import Derived.Test.YtfengddpfeneiaaS30
import Derived.Test.YtfengddpfeneiaaI2
namespace Go.Proofs.Ytfengddpfeneiaa
open Go.RowKit Go.Shelf
set_option linter.unusedSimpArgs false
set_option linter.unusedVariables false

set_option maxHeartbeats 1000000 in
theorem RendsA_any (x : Bnd) (lo hi : Int) (w : World) :
    Calls Try.prog 115 #[.agg #[.int .i64 x.lo, .int .i64 x.hi], .int .i64 lo, .int .i64 hi] w fun e w' => e = .returned (.bool (decide (lo ≤ x.lo ∧ x.lo ≤ x.hi ∧ x.hi ≤ hi))) ∧ Below w.heap.size w w' := by
  have b := (Below.refl w.heap.size w).alloc (Nat.le_refl _) (.cells #[.int .i64 x.lo, .int .i64 x.hi] 62)
  obtain ⟨d, hd⟩ : ∃ d, d = decide (lo ≤ x.lo ∧ x.lo ≤ x.hi ∧ x.hi ≤ hi) := ⟨_, rfl⟩
  rw [← hd]
  by_cases q1 : lo ≤ x.lo
  · have q4 : x.lo ≥ lo := q1
    by_cases q2 : x.lo ≤ x.hi
    · by_cases q3 : x.hi ≤ hi
      · have hv : Hid (d = true) := hd.trans (decide_eq_true ⟨q1, q2, q3⟩)
        clear hd
        go_enter Try.func115, Try.ntmps115
        go_wp2_with fail
        go_ret
        exact ⟨ret_bool hv.out.symm, b⟩
      · have hv : Hid (d = false) := hd.trans (decide_eq_false (fun h => q3 h.2.2))
        clear hd
        go_enter Try.func115, Try.ntmps115
        go_wp2_with fail
        go_ret
        exact ⟨ret_bool hv.out.symm, b⟩
    · have hv : Hid (d = false) := hd.trans (decide_eq_false (fun h => q2 h.2.1))
      clear hd
      go_enter Try.func115, Try.ntmps115
      go_wp2_with fail
      go_ret
      exact ⟨ret_bool hv.out.symm, b⟩
  · have hv : Hid (d = false) := hd.trans (decide_eq_false (fun h => q1 h.1))
    have q4 : ¬ (x.lo ≥ lo) := q1
    clear hd
    go_enter Try.func115, Try.ntmps115
    go_wp2_with fail
    go_ret
    exact ⟨ret_bool hv.out.symm, b⟩
/-! Check -/
def lenB (ns ng : Nat) : Bool := decide (1 ≤ (ns : Int) ∧ (ns : Int) ≤ 32) && decide (1 ≤ (ng : Int) ∧ (ng : Int) ≤ 8)
theorem okArr_b {a : Arr} {ns ng : Nat} (h1 : a.sh.length = ns) (h2 : a.gs.length = ng) : okArr a = (lenB ns ng && a.sh.all (okNum 1000) && a.gs.all okGun) := by
  have e : decide (arrLen a) = lenB ns ng := by
    unfold lenB
    rw [← Bool.decide_and]
    exact dec_eq (by unfold arrLen; rw [h1, h2]; omega)
  unfold okArr
  rw [e]
def shB (ns ng : Nat) (a : Arr) (k : Nat) : Bool := lenB ns ng && (a.sh.take k).all (okNum 1000)
def gsB (ns ng : Nat) (a : Arr) (k : Nat) : Bool := lenB ns ng && a.sh.all (okNum 1000) && (a.gs.take k).all okGun
theorem all_succ {α : Type} (p : α → Bool) {xs : List α} {k : Nat} {x : α} (h : xs[k]? = some x) : (xs.take (k + 1)).all p = ((xs.take k).all p && p x) := by
  rw [List.take_add_one, h, List.all_append]; simp
theorem shB_succ (ns ng : Nat) {a : Arr} {k : Nat} {x : Int} (h : a.sh[k]? = some x) : shB ns ng a (k + 1) = (shB ns ng a k && okNum 1000 x) := by
  unfold shB; rw [all_succ _ h, Bool.and_assoc]
theorem gsB_succ (ns ng : Nat) {a : Arr} {k : Nat} {x : Gun} (h : a.gs[k]? = some x) : gsB ns ng a (k + 1) = (gsB ns ng a k && okGun x) := by
  unfold gsB; rw [all_succ _ h]; simp only [Bool.and_assoc]
theorem shB_end {ns ng : Nat} {a : Arr} (h1 : a.sh.length = ns) : shB ns ng a ns = gsB ns ng a 0 := by
  unfold shB gsB; rw [List.take_of_length_le (by omega)]; simp
theorem gsB_end {ns ng : Nat} {a : Arr} (h1 : a.sh.length = ns) (h2 : a.gs.length = ng) : gsB ns ng a ng = okArr a := by
  unfold gsB; rw [okArr_b h1 h2, List.take_of_length_le (by omega)]
theorem shB_start (ns ng : Nat) (a : Arr) : shB ns ng a 0 = lenB ns ng := by unfold shB; simp
theorem btA_yes {n lo hi : Int} (h : lo ≤ n ∧ n ≤ hi) (w : World) : Calls Try.prog 54 #[.int .i64 n, .int .i64 lo, .int .i64 hi] w fun e w' => e = .returned (.bool true) ∧ w = w' := by
  have := Between_any n lo hi w
  rwa [decide_eq_true h] at this
theorem btA_no {n lo hi : Int} (h : ¬ (lo ≤ n ∧ n ≤ hi)) (w : World) : Calls Try.prog 54 #[.int .i64 n, .int .i64 lo, .int .i64 hi] w fun e w' => e = .returned (.bool false) ∧ w = w' := by
  have := Between_any n lo hi w
  rwa [decide_eq_false h] at this
set_option maxRecDepth 100000 in
set_option maxHeartbeats 4000000 in
theorem RCheckA_any (a : Arr) (S G : Option Addr) (ns cs ng cg : Nat) (w : World) (hS : SlAt w 0 1 ivs S ns cs a.sh) (hG : SlAt w 0 4 Gun.cells G ng cg a.gs) :
    Calls Try.prog 65 #[.agg #[.slice S ns cs, .slice G ng cg]] w fun e w' => e = .returned (.int .i64 (chkArr a)) ∧ Below w.heap.size w w' := by
  have hsl := Lib.hid hS.len
  have hgl := Lib.hid hG.len
  have hsn := hS.le
  have hgn := hG.le
  obtain ⟨w1, hw1⟩ : ∃ w1, w1 = w.alloc (.cells #[.slice S ns cs, .slice G ng cg] 25) := ⟨_, rfl⟩
  have k3 : Blk w1 w.heap.size 25 #[.slice S ns cs, .slice G ng cg] := by rw [hw1]; exact Blk.new _ _ _
  have b : Below w.heap.size w w1 := by rw [hw1]; exact (Below.refl _ _).alloc (Nat.le_refl _) _
  have hS1 : SlAt w1 0 1 ivs S ns cs a.sh := by rw [hw1]; exact hS.alloc _
  have hG1 : SlAt w1 0 4 Gun.cells G ng cg a.gs := by rw [hw1]; exact hG.alloc _
  clear hS hG
  have hge := Lib.hid (gsB_end (a := a) hsl.out hgl.out)
  have hse := Lib.hid (shB_end (ng := ng) hsl.out)
  have hst0 := shB_start ns ng a
  by_cases q1 : 1 ≤ (ns : Int) ∧ (ns : Int) ≤ 32
  · have h1 := fun W => btA_yes q1 W
    have h2 := fun W => Between_any (ng : Int) 1 8 W
    have hst : Hid (shB ns ng a 0 = decide (1 ≤ (ng : Int) ∧ (ng : Int) ≤ 8)) := by show _ = _; rw [hst0]; unfold lenB; rw [decide_eq_true q1, Bool.true_and]
    generalize decide (1 ≤ (ng : Int) ∧ (ng : Int) ≤ 8) = d2 at *
    clear q1 hst0
    go_enter Try.func65, Try.ntmps65
    go_wp2_with fail
    rw [← hw1]
    clear hw1
    obtain ⟨c3, f3, l3⟩ := k3.rules
    go_wp2_with fail
    refine (h1 _).mono ?_
    rintro e w' ⟨rfl, rfl⟩
    go_wp2_with fail
    refine (h2 _).mono ?_
    rintro e w' ⟨rfl, rfl⟩
    go_wp2_with fail
    clear c3 f3 l3 h1 h2
    go_loopw [3, 4] (fun o i wr => ∃ k : Nat, i = .int .i64 (k : Int) ∧ k ≤ ns ∧ o = .bool (shB ns ng a k) ∧ wr = w1) (fun o i wr => ns - (intOf i).toNat)
    case atStart => exact ⟨0, rfl, Nat.zero_le _, by rw [hst.out], rfl⟩
    case round =>
      obtain ⟨k, rfl, hk, rfl, hwr⟩ := hrel
      rw [hwr]
      clear hwr wr
      obtain ⟨c3, f3, l3⟩ := k3.rules
      by_cases hlt : k < ns
      · obtain ⟨x, hx⟩ := some_of_lt hsl.out hlt
        obtain ⟨bq, oq, hA, -, -, e0⟩ := hS1.int hx
        have hk0 : (0 : Int) ≤ (k : Int) := by omega
        have hk1 : (k : Int) < (ns : Int) := by omega
        have hnx := Lib.hid (shB_succ ns ng hx)
        have hB : ∀ W, Calls _ _ _ _ _ := fun W => Between_any x (-1000) 1000 W
        rw [show decide (-1000 ≤ x ∧ x ≤ 1000) = okNum 1000 x from rfl] at hB
        generalize okNum 1000 x = q at *
        generalize shB ns ng a k = o at *
        subst hA
        clear hx
        cases o with
        | true =>
          go_wp2_with fail
          refine (hB _).mono ?_
          rintro e w' ⟨rfl, rfl⟩
          go_wp2_with fail
          go_roundw
          case rel => exact ⟨k + 1, by go_num, by omega, by rw [hnx.out]; rfl, by first | rfl | trivial⟩
          case measure => simp [intOf]; omega
        | false =>
          clear hB
          go_wp2_with fail
          go_roundw
          case rel => exact ⟨k + 1, by go_num, by omega, by rw [hnx.out]; rfl, by first | rfl | trivial⟩
          case measure => simp [intOf]; omega
      · obtain rfl : k = ns := by omega
        rw [hse.out]
        go_wp2_with fail
        clear c3 f3 l3
        go_loopw [3, 5] (fun o i wr => ∃ j : Nat, i = .int .i64 (j : Int) ∧ j ≤ ng ∧ o = .bool (gsB k ng a j) ∧ Below w1.heap.size w1 wr) (fun o i wr => ng - (intOf i).toNat)
        case atStart => exact ⟨0, rfl, Nat.zero_le _, rfl, Below.refl _ _⟩
        case round =>
          obtain ⟨j, rfl, hj, rfl, hb9⟩ := hrel
          have k3r := k3.below hb9
          by_cases hlt : j < ng
          · obtain ⟨x, hx⟩ := some_of_lt hgl.out hlt
            obtain ⟨bq, oq, hA, -, -, e0, e1, e2, e3⟩ := (hG1.below hb9).gun hx
            have hj0 : (0 : Int) ≤ (j : Int) := by omega
            have hj1 : (j : Int) < (ng : Int) := by omega
            have hnx := Lib.hid (gsB_succ k ng hx)
            have kg := Blk.new wr 74 #[.int .i64 x.vol, .int .i64 x.time, .int .i64 x.late.lo, .int .i64 x.late.hi]
            have bg := hb9.alloc hb9.size (.cells #[.int .i64 x.vol, .int .i64 x.time, .int .i64 x.late.lo, .int .i64 x.late.hi] 74)
            subst hA
            replace hx := Lib.hid hx
            obtain ⟨c3, f3, l3⟩ := k3r.rules
            generalize gsB k ng a j = o at *
            cases o with
            | false =>
              have hgx : Hid ((false && okGun x) = false) := rfl
              go_wp2_with fail
              try go_wp2_with fail
              go_roundw
              case rel => exact ⟨j + 1, by go_num, by omega, by rw [hnx.out]; rfl, bg⟩
              case measure => simp [intOf]; omega
            | true =>
              by_cases q1 : 1 ≤ x.vol ∧ x.vol ≤ 1000
              · have h1 := fun W => btA_yes q1 W
                by_cases q2 : 0 ≤ x.time ∧ x.time ≤ 16
                · have h2 := fun W => btA_yes q2 W
                  have h3 := fun W => RendsA_any x.late (-16) 16 W
                  have hgx : Hid (okGun x = decide (-16 ≤ x.late.lo ∧ x.late.lo ≤ x.late.hi ∧ x.late.hi ≤ 16)) := by show _ = _; unfold okGun; exact dec_eq (by omega)
                  generalize decide (-16 ≤ x.late.lo ∧ x.late.lo ≤ x.late.hi ∧ x.late.hi ≤ 16) = d3 at *
                  clear q1 q2
                  go_wp2_with fail
                  refine (h1 _).mono ?_
                  rintro e w' ⟨rfl, rfl⟩
                  obtain ⟨cg_, fg_, lg_⟩ := kg.rules
                  go_wp2_with fail
                  refine (h2 _).mono ?_
                  rintro e w' ⟨rfl, rfl⟩
                  go_wp2_with fail
                  refine (h3 _).mono ?_
                  rintro e Wh ⟨rfl, hbh⟩
                  go_wp2_with fail
                  go_roundw
                  case rel => exact ⟨j + 1, by go_num, by omega, by rw [hnx.out, hgx.out]; rfl, bg.trans (hbh.mono bg.size)⟩
                  case measure => simp [intOf]; omega
                · have h2 := fun W => btA_no q2 W
                  have hgx : Hid (okGun x = false) := by show _ = _; unfold okGun; exact decide_eq_false (by omega)
                  clear q1 q2
                  go_wp2_with fail
                  refine (h1 _).mono ?_
                  rintro e w' ⟨rfl, rfl⟩
                  obtain ⟨cg_, fg_, lg_⟩ := kg.rules
                  go_wp2_with fail
                  refine (h2 _).mono ?_
                  rintro e w' ⟨rfl, rfl⟩
                  go_wp2_with fail
                  go_roundw
                  case rel => exact ⟨j + 1, by go_num, by omega, by rw [hnx.out, hgx.out]; rfl, bg⟩
                  case measure => simp [intOf]; omega
              · have h1 := fun W => btA_no q1 W
                have hgx : Hid (okGun x = false) := by show _ = _; unfold okGun; exact decide_eq_false (by omega)
                clear q1
                go_wp2_with fail
                refine (h1 _).mono ?_
                rintro e w' ⟨rfl, rfl⟩
                go_wp2_with fail
                go_roundw
                case rel => exact ⟨j + 1, by go_num, by omega, by rw [hnx.out, hgx.out]; rfl, bg⟩
                case measure => simp [intOf]; omega
          · obtain rfl : j = ng := by omega
            rw [hge.out]
            obtain ⟨c3, f3, l3⟩ := k3r.rules
            cases hok : okArr a with
            | true =>
              have hv : Hid (chkArr a = 0) := by show _ = _; unfold chkArr; rw [hok]; rfl
              clear hok
              go_wp2_with fail
              go_ret
              exact ⟨ret_int hv.out.symm, b.trans (hb9.mono b.size)⟩
            | false =>
              have hv : Hid (chkArr a = 50) := by show _ = _; unfold chkArr; rw [hok]; rfl
              clear hok
              go_wp2_with fail
              go_ret
              exact ⟨ret_int hv.out.symm, b.trans (hb9.mono b.size)⟩
  · have h1 := fun W => btA_no q1 W
    have hst : Hid (shB ns ng a 0 = false) := by show _ = _; rw [hst0]; unfold lenB; rw [decide_eq_false q1, Bool.false_and]
    clear q1 hst0
    go_enter Try.func65, Try.ntmps65
    go_wp2_with fail
    rw [← hw1]
    clear hw1
    obtain ⟨c3, f3, l3⟩ := k3.rules
    go_wp2_with fail
    refine (h1 _).mono ?_
    rintro e w' ⟨rfl, rfl⟩
    go_wp2_with fail
    clear c3 f3 l3 h1
    go_loopw [3, 4] (fun o i wr => ∃ k : Nat, i = .int .i64 (k : Int) ∧ k ≤ ns ∧ o = .bool (shB ns ng a k) ∧ wr = w1) (fun o i wr => ns - (intOf i).toNat)
    case atStart => exact ⟨0, rfl, Nat.zero_le _, by rw [hst.out], rfl⟩
    case round =>
      obtain ⟨k, rfl, hk, rfl, hwr⟩ := hrel
      rw [hwr]
      clear hwr wr
      obtain ⟨c3, f3, l3⟩ := k3.rules
      by_cases hlt : k < ns
      · obtain ⟨x, hx⟩ := some_of_lt hsl.out hlt
        obtain ⟨bq, oq, hA, -, -, e0⟩ := hS1.int hx
        have hk0 : (0 : Int) ≤ (k : Int) := by omega
        have hk1 : (k : Int) < (ns : Int) := by omega
        have hnx := Lib.hid (shB_succ ns ng hx)
        have hB : ∀ W, Calls _ _ _ _ _ := fun W => Between_any x (-1000) 1000 W
        rw [show decide (-1000 ≤ x ∧ x ≤ 1000) = okNum 1000 x from rfl] at hB
        generalize okNum 1000 x = q at *
        generalize shB ns ng a k = o at *
        subst hA
        clear hx
        cases o with
        | true =>
          go_wp2_with fail
          refine (hB _).mono ?_
          rintro e w' ⟨rfl, rfl⟩
          go_wp2_with fail
          go_roundw
          case rel => exact ⟨k + 1, by go_num, by omega, by rw [hnx.out]; rfl, by first | rfl | trivial⟩
          case measure => simp [intOf]; omega
        | false =>
          clear hB
          go_wp2_with fail
          go_roundw
          case rel => exact ⟨k + 1, by go_num, by omega, by rw [hnx.out]; rfl, by first | rfl | trivial⟩
          case measure => simp [intOf]; omega
      · obtain rfl : k = ns := by omega
        rw [hse.out]
        go_wp2_with fail
        clear c3 f3 l3
        go_loopw [3, 5] (fun o i wr => ∃ j : Nat, i = .int .i64 (j : Int) ∧ j ≤ ng ∧ o = .bool (gsB k ng a j) ∧ Below w1.heap.size w1 wr) (fun o i wr => ng - (intOf i).toNat)
        case atStart => exact ⟨0, rfl, Nat.zero_le _, rfl, Below.refl _ _⟩
        case round =>
          obtain ⟨j, rfl, hj, rfl, hb9⟩ := hrel
          have k3r := k3.below hb9
          by_cases hlt : j < ng
          · obtain ⟨x, hx⟩ := some_of_lt hgl.out hlt
            obtain ⟨bq, oq, hA, -, -, e0, e1, e2, e3⟩ := (hG1.below hb9).gun hx
            have hj0 : (0 : Int) ≤ (j : Int) := by omega
            have hj1 : (j : Int) < (ng : Int) := by omega
            have hnx := Lib.hid (gsB_succ k ng hx)
            have kg := Blk.new wr 74 #[.int .i64 x.vol, .int .i64 x.time, .int .i64 x.late.lo, .int .i64 x.late.hi]
            have bg := hb9.alloc hb9.size (.cells #[.int .i64 x.vol, .int .i64 x.time, .int .i64 x.late.lo, .int .i64 x.late.hi] 74)
            subst hA
            replace hx := Lib.hid hx
            obtain ⟨c3, f3, l3⟩ := k3r.rules
            generalize gsB k ng a j = o at *
            cases o with
            | false =>
              have hgx : Hid ((false && okGun x) = false) := rfl
              go_wp2_with fail
              try go_wp2_with fail
              go_roundw
              case rel => exact ⟨j + 1, by go_num, by omega, by rw [hnx.out]; rfl, bg⟩
              case measure => simp [intOf]; omega
            | true =>
              by_cases q1 : 1 ≤ x.vol ∧ x.vol ≤ 1000
              · have h1 := fun W => btA_yes q1 W
                by_cases q2 : 0 ≤ x.time ∧ x.time ≤ 16
                · have h2 := fun W => btA_yes q2 W
                  have h3 := fun W => RendsA_any x.late (-16) 16 W
                  have hgx : Hid (okGun x = decide (-16 ≤ x.late.lo ∧ x.late.lo ≤ x.late.hi ∧ x.late.hi ≤ 16)) := by show _ = _; unfold okGun; exact dec_eq (by omega)
                  generalize decide (-16 ≤ x.late.lo ∧ x.late.lo ≤ x.late.hi ∧ x.late.hi ≤ 16) = d3 at *
                  clear q1 q2
                  go_wp2_with fail
                  refine (h1 _).mono ?_
                  rintro e w' ⟨rfl, rfl⟩
                  obtain ⟨cg_, fg_, lg_⟩ := kg.rules
                  go_wp2_with fail
                  refine (h2 _).mono ?_
                  rintro e w' ⟨rfl, rfl⟩
                  go_wp2_with fail
                  refine (h3 _).mono ?_
                  rintro e Wh ⟨rfl, hbh⟩
                  go_wp2_with fail
                  go_roundw
                  case rel => exact ⟨j + 1, by go_num, by omega, by rw [hnx.out, hgx.out]; rfl, bg.trans (hbh.mono bg.size)⟩
                  case measure => simp [intOf]; omega
                · have h2 := fun W => btA_no q2 W
                  have hgx : Hid (okGun x = false) := by show _ = _; unfold okGun; exact decide_eq_false (by omega)
                  clear q1 q2
                  go_wp2_with fail
                  refine (h1 _).mono ?_
                  rintro e w' ⟨rfl, rfl⟩
                  obtain ⟨cg_, fg_, lg_⟩ := kg.rules
                  go_wp2_with fail
                  refine (h2 _).mono ?_
                  rintro e w' ⟨rfl, rfl⟩
                  go_wp2_with fail
                  go_roundw
                  case rel => exact ⟨j + 1, by go_num, by omega, by rw [hnx.out, hgx.out]; rfl, bg⟩
                  case measure => simp [intOf]; omega
              · have h1 := fun W => btA_no q1 W
                have hgx : Hid (okGun x = false) := by show _ = _; unfold okGun; exact decide_eq_false (by omega)
                clear q1
                go_wp2_with fail
                refine (h1 _).mono ?_
                rintro e w' ⟨rfl, rfl⟩
                go_wp2_with fail
                go_roundw
                case rel => exact ⟨j + 1, by go_num, by omega, by rw [hnx.out, hgx.out]; rfl, bg⟩
                case measure => simp [intOf]; omega
          · obtain rfl : j = ng := by omega
            rw [hge.out]
            obtain ⟨c3, f3, l3⟩ := k3r.rules
            cases hok : okArr a with
            | true =>
              have hv : Hid (chkArr a = 0) := by show _ = _; unfold chkArr; rw [hok]; rfl
              clear hok
              go_wp2_with fail
              go_ret
              exact ⟨ret_int hv.out.symm, b.trans (hb9.mono b.size)⟩
            | false =>
              have hv : Hid (chkArr a = 50) := by show _ = _; unfold chkArr; rw [hok]; rfl
              clear hok
              go_wp2_with fail
              go_ret
              exact ⟨ret_int hv.out.symm, b.trans (hb9.mono b.size)⟩
end Go.Proofs.Ytfengddpfeneiaa
