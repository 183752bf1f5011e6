/-
  Shots, walks: what is foreseen.
-/
import Derived.Test.YtfengddpfeneiaaGreatS7
namespace Go.Proofs.YtfengddpfeneiaaGreat
open Go.RowKit Go.Shelf
set_option linter.unusedSimpArgs false
set_option linter.unusedVariables false

def knTo (l : List Int) (x : Int) (k : Nat) : List Int := (knownL l x).take k ++ l.drop k
theorem knownL_len (l : List Int) (x : Int) : (knownL l x).length = l.length := by simp [knownL]
theorem knTo_zero (l : List Int) (x : Int) : knTo l x 0 = l := by simp [knTo]
theorem knTo_all {l : List Int} {x : Int} {n : Nat} (h : l.length = n) : knTo l x n = knownL l x := by
  unfold knTo; rw [List.take_of_length_le (by rw [knownL_len]; omega), List.drop_eq_nil_of_le (by omega), List.append_nil]
theorem knTo_len (l : List Int) (x : Int) (k : Nat) : (knTo l x k).length = l.length := by
  unfold knTo; simp [knownL_len]; omega
theorem knTo_at {l : List Int} {x y : Int} {k : Nat} (h : l[k]? = some y) : (knTo l x k)[k]? = some y := by
  unfold knTo
  rw [mixGetQ (by rw [knownL_len]; have := (List.getElem?_eq_some_iff.1 h).1; omega) (knownL_len l x) (Nat.le_refl _)]; exact h
theorem knTo_hit {l : List Int} {x : Int} {k : Nat} (h : l[k]? = some 2) : (knTo l x k).set k x = knTo l x (k + 1) := by
  unfold knTo
  exact mixSetQ (knownL_len l x) (by rw [knownL_len]; exact (List.getElem?_eq_some_iff.1 h).1) (by unfold knownL; rw [List.getElem?_map, h]; rfl)
theorem knTo_miss {l : List Int} {x y : Int} {k : Nat} (h : l[k]? = some y) (hy : y ≠ 2) : knTo l x k = knTo l x (k + 1) := by
  have h1 : (knTo l x k).set k y = knTo l x (k + 1) := by
    unfold knTo
    exact mixSetQ (knownL_len l x) (by rw [knownL_len]; exact (List.getElem?_eq_some_iff.1 h).1) (by unfold knownL; rw [List.getElem?_map, h]; simp [hy])
  rw [← h1, setSameQ (knTo_at h)]
def fo2 (r : Rul) (l : List Int) : Nat → Array Value
  | 0 => #[.int .i64 0, .int .i64 0]
  | 1 => #[.int .i64 (judgeS r (knownL l 1)).1, .int .i64 0]
  | _ => #[.int .i64 (judgeS r (knownL l 1)).1, .int .i64 (judgeS r (knownL l 0)).1]
set_option maxRecDepth 100000 in
set_option maxHeartbeats 2000000 in
theorem Foresee_any (r : Rul) (l : List Int) (A : Option Addr) (n c B : Nat) (w : World) (hs : SlAt w B 1 ivs A n c l) :
    Calls Tryz.prog 49 #[.agg #[.int .i64 r.row, .int .i64 r.win, .int .i64 r.many, .int .i64 r.total], .slice A n c] w fun e w' => e = .returned (.tuple #[.agg #[.int .i64 (foreR r l).1.lo, .int .i64 (foreR r l).1.hi], .int .i64 (foreR r l).2]) ∧ Below w.heap.size w w' := by
  have hl := Lib.hid hs.len
  have h1 := fun W => sCheckRules_any r W
  have h2 := fun W h => results_any l 2 A n c B W h
  obtain ⟨w1, hw1⟩ : ∃ w1, w1 = (w.alloc (.cells #[.int .i64 r.row, .int .i64 r.win, .int .i64 r.many, .int .i64 r.total] 104)).alloc (.cells #[.int .i64 0, .int .i64 0] 40) := ⟨_, rfl⟩
  have k3 : Blk w1 w.heap.size 104 #[.int .i64 r.row, .int .i64 r.win, .int .i64 r.many, .int .i64 r.total] := by rw [hw1]; exact (Blk.new _ _ _).alloc _
  have k4 : Blk w1 (w.heap.size + 1) 40 #[.int .i64 0, .int .i64 0] := by rw [hw1]; exact Blk.newAt (by simp)
  have b : Below w.heap.size w w1 := by rw [hw1]; exact ((Below.refl _ _).alloc (Nat.le_refl _) _).alloc (by simp) _
  have hs1 : SlAt w1 B 1 ivs A n c l := by rw [hw1]; exact (hs.alloc _).alloc _
  clear hs
  unfold foreR errJ
  unfold chkRul at h1
  by_cases hr : okRul r = true
  · rw [if_pos hr] at *
    cases hre : okRes l 2 with
    | true =>
      simp only [hre] at h2
      simp only [if_true]
      have hn256 : n ≤ 256 := by
        unfold okRes at hre
        rw [Bool.and_eq_true, decide_eq_true_eq] at hre
        have := hl.out; omega
      have hcl0 := Lib.hid (fun W h => CloneI_any l A n c B W (by omega) h)
      replace hre := Lib.hid hre
      go_enter Tryz.func49, Tryz.ntmps49
      go_wp2_with fail
      rw [← hw1]
      clear hw1
      obtain ⟨c3, f3, l3⟩ := k3.rules
      go_wp2_with fail
      refine (h1 _).mono ?_
      rintro e W ⟨rfl, hb⟩
      clear c3 f3 l3 h1
      replace k3 := k3.below hb
      replace k4 := k4.below hb
      replace b := b.trans (hb.mono b.size)
      replace hs1 := hs1.below hb
      clear hb
      go_wp2_with fail
      refine (h2 _ hs1).mono ?_
      rintro e W ⟨rfl, hb⟩
      clear h2
      replace k3 := k3.below hb
      replace k4 := k4.below hb
      replace b := b.trans (hb.mono b.size)
      replace hs1 := hs1.below hb
      clear hb
      have k7 := Blk.new W 64 #[.int .i64 0, .int .i64 0]
      have hb0 := (Below.refl W.heap.size W).alloc (Nat.le_refl _) (.cells #[.int .i64 0, .int .i64 0] 64)
      go_wp2_with fail
      generalize W.alloc (.cells #[.int .i64 0, .int .i64 0] 64) = W1 at *
      go_loopw [24] (fun i wr => ∃ k : Nat, i = .int .i64 (k : Int) ∧ k ≤ 2 ∧ Blk wr W.heap.size 64 (fo2 r l k) ∧ Below W.heap.size W wr) (fun i wr => 2 - (intOf i).toNat)
      case atStart => exact ⟨0, rfl, by omega, k7, hb0⟩
      case round =>
        clear k7 hb0
        obtain ⟨k, rfl, hk, k7, hb⟩ := hrel
        match k, hk with
        | 0, _ =>
          rw [show fo2 r l 0 = #[.int .i64 0, .int .i64 0] from rfl] at k7
          as_aux_lemma =>
          have hcl := fun W h => hcl0.out W h
          have hx0 : ∀ (a b : Value) w, (Instr.index 64 (.agg #[a, b]) (.int .i64 0)).run Tryz.prog w = .ok a w := fun _ _ _ => by kernel_rfl
          have hx1 : ∀ (a b : Value) w, (Instr.index 64 (.agg #[a, b]) (.int .i64 1)).run Tryz.prog w = .ok b w := fun _ _ _ => by kernel_rfl
          have hsr := hs1.below hb
          go_wp2_with fail
          refine (hcl _ hsr).mono ?_
          rintro e Wc ⟨v, rfl, hown, hbc⟩
          clear hx0 hx1
          obtain ⟨O, co, rfl, hO⟩ := SlAt.of_own (enc := ivs) hown (by omega) l rfl (fun _ => rfl) hl.out
          clear hO hcl
          obtain ⟨wc, hwc⟩ : ∃ x, x = wr := ⟨_, rfl⟩
          rw [← hwc] at k7 hb hown hbc hsr
          clear hwc
          go_wp2_with fail
          go_loopw [32] (fun i wr => ∃ k : Nat, i = .int .i64 (k : Int) ∧ k ≤ n ∧ wr.ownsRow wc.heap.size 3 1 (.slice O n co) n ((knTo l 1 k).flatMap ivs) ∧ Below wc.heap.size wc wr) (fun i wr => n - (intOf i).toNat)
          case atStart => exact ⟨0, rfl, Nat.zero_le _, by rw [knTo_zero]; exact hown, hbc⟩
          case round =>
            clear hown hbc
            obtain ⟨k, rfl, hk, hown, hbc⟩ := hrel
            by_cases hlt : k < n
            · have hk0 : (0 : Int) ≤ (k : Int) := by omega
              have hk1 : (k : Int) < (n : Int) := by omega
              obtain ⟨y, hy⟩ := some_of_lt hl.out hlt
              rcases hown.2 with ⟨-, h⟩ | ⟨g, cap, cur, e1, hg, -⟩
              · omega
              simp only [Value.slice.injEq, true_and] at e1
              obtain ⟨rfl, rfl⟩ := e1
              have hsl := SlAt.ownQ (enc := ivs) hown (by omega) (knTo l 1 k) rfl (fun _ => rfl) (by rw [knTo_len, hl.out])
              obtain ⟨b9, o9, hA9, -, hb9, x0⟩ := hsl.int (knTo_at hy)
              simp only [Option.some.injEq, Addr.mk.injEq, and_true] at hA9
              obtain ⟨rfl, rfl⟩ := hA9
              rw [Nat.zero_add] at x0
              have fr := hown.frozenAt k
              by_cases hy2 : y = 2
              · subst hy2
                have hown3 := Lib.hid ((hown.stored k (.int .i64 1)).1)
                rw [ints_set (knTo_at hy), knTo_hit hy] at hown3
                have hbz := hbc.setCell (p := ⟨g, k, none⟩) hg (.int .i64 1)
                replace hy := Lib.hid hy
                clear hsl hown
                go_wp2_with fail
                go_roundw
                case rel => exact ⟨k + 1, by go_num, by omega, hown3.out, hbz⟩
                case measure => simp [intOf]; omega
              · have hy3 : (y == 2) = false := by rw [beq_eq_false_iff_ne]; exact hy2
                rw [knTo_miss hy hy2] at hown
                replace hy := Lib.hid hy
                replace hy2 := Lib.hid hy2
                replace hown := Lib.hid hown
                clear hsl
                go_wp2_with fail
                go_roundw
                case rel => exact ⟨k + 1, by go_num, by omega, hown.out, hbc⟩
                case measure => simp [intOf]; omega
            · obtain rfl : n = k := by omega
              rw [knTo_all hl.out] at hown
              obtain ⟨O', co', e1, hO⟩ := SlAt.of_own (enc := ivs) hown (by omega) (knownL l 1) rfl (fun _ => rfl) (by rw [knownL_len, hl.out])
              simp only [Value.slice.injEq, true_and] at e1
              obtain ⟨rfl, rfl⟩ := e1
              have hju := fun W h => judge_any r hr (knownL l 1) O n co wc.heap.size W h
              replace k7 := k7.below hbc
              replace hb := hb.trans (hbc.mono hb.size)
              clear hown hsr
              have k3r := k3.below hb
              obtain ⟨c3, f3, l3⟩ := k3r.rules
              go_wp2_with fail
              refine (hju _ hO).mono ?_
              rintro e Wj ⟨rfl, hbj⟩
              clear hO hju c3 f3 l3
              replace k7 := k7.below hbj
              replace hb := hb.trans (hbj.mono hb.size)
              clear hbc hbj
              obtain ⟨c7, f7, l7⟩ := k7.rules
              have k7z := k7.set_ 0 (.int .i64 (judgeS r (knownL l 1)).1)
              have hbz := hb.setCell (p := ⟨W.heap.size, 0, none⟩) (Nat.le_refl _) (.int .i64 (judgeS r (knownL l 1)).1)
              simp only [List.setIfInBounds_toArray, List.set_cons_zero, List.set_cons_succ] at k7z
              go_wp2_with fail
              clear c7 f7 l7
              go_roundw
              case rel => exact ⟨0 + 1, by go_num, by omega, k7z, hbz⟩
              case measure => simp [intOf]
        | 1, _ =>
          rw [show fo2 r l 1 = #[.int .i64 (judgeS r (knownL l 1)).1, .int .i64 0] from rfl] at k7
          have hcl := fun W h => hcl0.out W h
          have hx0 : ∀ (a b : Value) w, (Instr.index 64 (.agg #[a, b]) (.int .i64 0)).run Tryz.prog w = .ok a w := fun _ _ _ => by kernel_rfl
          have hx1 : ∀ (a b : Value) w, (Instr.index 64 (.agg #[a, b]) (.int .i64 1)).run Tryz.prog w = .ok b w := fun _ _ _ => by kernel_rfl
          have hsr := hs1.below hb
          go_wp2_with fail
          refine (hcl _ hsr).mono ?_
          rintro e Wc ⟨v, rfl, hown, hbc⟩
          clear hx0 hx1
          obtain ⟨O, co, rfl, hO⟩ := SlAt.of_own (enc := ivs) hown (by omega) l rfl (fun _ => rfl) hl.out
          clear hO hcl
          obtain ⟨wc, hwc⟩ : ∃ x, x = wr := ⟨_, rfl⟩
          rw [← hwc] at k7 hb hown hbc hsr
          clear hwc
          go_wp2_with fail
          go_loopw [32] (fun i wr => ∃ k : Nat, i = .int .i64 (k : Int) ∧ k ≤ n ∧ wr.ownsRow wc.heap.size 3 1 (.slice O n co) n ((knTo l 0 k).flatMap ivs) ∧ Below wc.heap.size wc wr) (fun i wr => n - (intOf i).toNat)
          case atStart => exact ⟨0, rfl, Nat.zero_le _, by rw [knTo_zero]; exact hown, hbc⟩
          case round =>
            clear hown hbc
            obtain ⟨k, rfl, hk, hown, hbc⟩ := hrel
            by_cases hlt : k < n
            · have hk0 : (0 : Int) ≤ (k : Int) := by omega
              have hk1 : (k : Int) < (n : Int) := by omega
              obtain ⟨y, hy⟩ := some_of_lt hl.out hlt
              rcases hown.2 with ⟨-, h⟩ | ⟨g, cap, cur, e1, hg, -⟩
              · omega
              simp only [Value.slice.injEq, true_and] at e1
              obtain ⟨rfl, rfl⟩ := e1
              have hsl := SlAt.ownQ (enc := ivs) hown (by omega) (knTo l 0 k) rfl (fun _ => rfl) (by rw [knTo_len, hl.out])
              obtain ⟨b9, o9, hA9, -, hb9, x0⟩ := hsl.int (knTo_at hy)
              simp only [Option.some.injEq, Addr.mk.injEq, and_true] at hA9
              obtain ⟨rfl, rfl⟩ := hA9
              rw [Nat.zero_add] at x0
              have fr := hown.frozenAt k
              by_cases hy2 : y = 2
              · subst hy2
                have hown3 := Lib.hid ((hown.stored k (.int .i64 0)).1)
                rw [ints_set (knTo_at hy), knTo_hit hy] at hown3
                have hbz := hbc.setCell (p := ⟨g, k, none⟩) hg (.int .i64 0)
                replace hy := Lib.hid hy
                clear hsl hown
                go_wp2_with fail
                go_roundw
                case rel => exact ⟨k + 1, by go_num, by omega, hown3.out, hbz⟩
                case measure => simp [intOf]; omega
              · have hy3 : (y == 2) = false := by rw [beq_eq_false_iff_ne]; exact hy2
                rw [knTo_miss hy hy2] at hown
                replace hy := Lib.hid hy
                replace hy2 := Lib.hid hy2
                replace hown := Lib.hid hown
                clear hsl
                go_wp2_with fail
                go_roundw
                case rel => exact ⟨k + 1, by go_num, by omega, hown.out, hbc⟩
                case measure => simp [intOf]; omega
            · obtain rfl : n = k := by omega
              rw [knTo_all hl.out] at hown
              obtain ⟨O', co', e1, hO⟩ := SlAt.of_own (enc := ivs) hown (by omega) (knownL l 0) rfl (fun _ => rfl) (by rw [knownL_len, hl.out])
              simp only [Value.slice.injEq, true_and] at e1
              obtain ⟨rfl, rfl⟩ := e1
              have hju := fun W h => judge_any r hr (knownL l 0) O n co wc.heap.size W h
              replace k7 := k7.below hbc
              replace hb := hb.trans (hbc.mono hb.size)
              clear hown hsr
              have k3r := k3.below hb
              obtain ⟨c3, f3, l3⟩ := k3r.rules
              go_wp2_with fail
              refine (hju _ hO).mono ?_
              rintro e Wj ⟨rfl, hbj⟩
              clear hO hju c3 f3 l3
              replace k7 := k7.below hbj
              replace hb := hb.trans (hbj.mono hb.size)
              clear hbc hbj
              obtain ⟨c7, f7, l7⟩ := k7.rules
              have k7z := k7.set_ 1 (.int .i64 (judgeS r (knownL l 0)).1)
              have hbz := hb.setCell (p := ⟨W.heap.size, 1, none⟩) (Nat.le_refl _) (.int .i64 (judgeS r (knownL l 0)).1)
              simp only [List.setIfInBounds_toArray, List.set_cons_zero, List.set_cons_succ] at k7z
              go_wp2_with fail
              clear c7 f7 l7
              go_roundw
              case rel => exact ⟨1 + 1, by go_num, by omega, k7z, hbz⟩
              case measure => simp [intOf]
        | 2, _ =>
          rw [show fo2 r l 2 = #[.int .i64 (judgeS r (knownL l 1)).1, .int .i64 (judgeS r (knownL l 0)).1] from rfl] at k7
          have k4r := k4.below hb
          have k7r := k7
          have k4z := (k4r.set_ 0 (.int .i64 (judgeS r (knownL l 1)).1)).set_ 1 (.int .i64 (judgeS r (knownL l 0)).1)
          simp only [List.setIfInBounds_toArray, List.set_cons_zero, List.set_cons_succ] at k4z
          have bz := ((b.trans (hb.mono b.size)).setCell (p := ⟨w.heap.size + 1, 0, none⟩) (by dsimp only; omega) (.int .i64 (judgeS r (knownL l 1)).1)).setCell (p := ⟨w.heap.size + 1, 1, none⟩) (by dsimp only; omega) (.int .i64 (judgeS r (knownL l 0)).1)
          obtain ⟨Wz, hwz⟩ : ∃ x, x = (wr.setCell ⟨w.heap.size + 1, 0, none⟩ (.int .i64 (judgeS r (knownL l 1)).1)).setCell ⟨w.heap.size + 1, 1, none⟩ (.int .i64 (judgeS r (knownL l 0)).1) := ⟨_, rfl⟩
          rw [← hwz] at k4z bz
          obtain ⟨c4, f4, l4⟩ := k4r.rules
          obtain ⟨c7, f7, l7⟩ := k7r.rules
          go_wp2_with fail
          rw [← hwz]
          clear hwz c4 f4 l4 c7 f7 l7
          obtain ⟨c4, f4, l4⟩ := k4z.rules
          exact bodyPost_ret (v := .tuple #[.agg #[.int .i64 (judgeS r (knownL l 1)).1, .int .i64 (judgeS r (knownL l 0)).1], .int .i64 0]) (by simp [results, Tryz.results49, go_sem, c4]) rfl ⟨rfl, bz⟩
    | false =>
      simp only [hre] at h2
      simp only [if_true, Bool.false_eq_true, if_false]
      go_enter Tryz.func49, Tryz.ntmps49
      go_wp2_with fail
      rw [← hw1]
      clear hw1
      obtain ⟨c3, f3, l3⟩ := k3.rules
      go_wp2_with fail
      refine (h1 _).mono ?_
      rintro e W ⟨rfl, hb⟩
      clear c3 f3 l3 h1
      replace k3 := k3.below hb
      replace k4 := k4.below hb
      replace b := b.trans (hb.mono b.size)
      replace hs1 := hs1.below hb
      clear hb
      go_wp2_with fail
      refine (h2 _ hs1).mono ?_
      rintro e W2 ⟨rfl, hb⟩
      clear h2
      replace k4 := k4.below hb
      replace b := b.trans (hb.mono b.size)
      clear hb
      obtain ⟨c4, f4, l4⟩ := k4.rules
      have k4z := (k4.set_ 0 (.int .i64 0)).set_ 1 (.int .i64 0)
      have bz := (b.setCell (p := ⟨w.heap.size + 1, 0, none⟩) (by dsimp only; omega) (.int .i64 0)).setCell (p := ⟨w.heap.size + 1, 1, none⟩) (by dsimp only; omega) (.int .i64 0)
      simp only [List.setIfInBounds_toArray, List.set_cons_zero, List.set_cons_succ] at k4z
      obtain ⟨Wz, hwz⟩ : ∃ x, x = (W2.setCell ⟨w.heap.size + 1, 0, none⟩ (.int .i64 0)).setCell ⟨w.heap.size + 1, 1, none⟩ (.int .i64 0) := ⟨_, rfl⟩
      rw [← hwz] at k4z bz
      go_wp2_with fail
      rw [← hwz]
      clear hwz c4 f4 l4
      obtain ⟨c4, f4, l4⟩ := k4z.rules
      exact bodyPost_ret (v := .tuple #[.agg #[.int .i64 0, .int .i64 0], .int .i64 55]) (by simp [results, Tryz.results49, go_sem, c4]) rfl ⟨rfl, bz⟩
  · rw [if_neg hr] at *
    clear h2
    go_enter Tryz.func49, Tryz.ntmps49
    go_wp2_with fail
    rw [← hw1]
    clear hw1
    obtain ⟨c3, f3, l3⟩ := k3.rules
    go_wp2_with fail
    refine (h1 _).mono ?_
    rintro e W ⟨rfl, hb⟩
    clear c3 f3 l3 h1
    replace k4 := k4.below hb
    replace b := b.trans (hb.mono b.size)
    clear hb
    obtain ⟨c4, f4, l4⟩ := k4.rules
    have k4z := (k4.set_ 0 (.int .i64 0)).set_ 1 (.int .i64 0)
    have bz := (b.setCell (p := ⟨w.heap.size + 1, 0, none⟩) (by dsimp only; omega) (.int .i64 0)).setCell (p := ⟨w.heap.size + 1, 1, none⟩) (by dsimp only; omega) (.int .i64 0)
    simp only [List.setIfInBounds_toArray, List.set_cons_zero, List.set_cons_succ] at k4z
    obtain ⟨Wz, hwz⟩ : ∃ x, x = (W.setCell ⟨w.heap.size + 1, 0, none⟩ (.int .i64 0)).setCell ⟨w.heap.size + 1, 1, none⟩ (.int .i64 0) := ⟨_, rfl⟩
    rw [← hwz] at k4z bz
    go_wp2_with fail
    rw [← hwz]
    clear hwz c4 f4 l4
    obtain ⟨c4, f4, l4⟩ := k4z.rules
    exact bodyPost_ret (v := .tuple #[.agg #[.int .i64 0, .int .i64 0], .int .i64 54]) (by simp [results, Tryz.results49, go_sem, c4]) rfl ⟨rfl, bz⟩
end Go.Proofs.YtfengddpfeneiaaGreat
