/-
  Where a number stands in a list; are all elements of a list in another one.
-/
import Derived.Test.YtfengddpfeneiaaI1
import Derived.Test.YtfengddpfeneiaaQ1
namespace Go.Proofs.Ytfengddpfeneiaa
open Go.RowKit Go.Shelf
set_option linter.unusedSimpArgs false
set_option linter.unusedVariables false

set_option maxRecDepth 100000 in
set_option maxHeartbeats 1000000 in
theorem Index_any (v : Int) (A : Option Addr) (n c B : Nat) (xs : List Int) (w : World) (hs : SlAt w B 1 ivs A n c xs) :
    Calls Try.prog 57 #[.slice A n c, .int .i64 v] w fun e w' => e = .returned (.int .i64 (idxf (fun x => decide (x = v)) xs 0)) ∧ w = w' := by
  have hn := hs.le
  have hl := Lib.hid hs.len
  go_enter Try.func57, Try.ntmps57
  go_wp2
  go_loopw [5] (fun i wr => ∃ k : Nat, i = .int .i64 (k : Int) ∧ k ≤ n ∧ noneTo (fun x => decide (x = v)) xs k ∧ wr = w) (fun i wr => n - (intOf i).toNat)
  case atStart => exact ⟨0, rfl, Nat.zero_le _, by simp [noneTo], rfl⟩
  case round =>
    obtain ⟨k, rfl, hk, hno, hwr⟩ := hrel
    rw [hwr]
    clear hwr wr
    by_cases hlt : k < n
    · obtain ⟨x, hx⟩ := some_of_lt hl.out hlt
      obtain ⟨b, off, hA, -, hbl, c0⟩ := hs.int hx
      have hk0 : (0 : Int) ≤ (k : Int) := by omega
      have hk1 : (k : Int) < (n : Int) := by omega
      subst hA
      replace hx := Lib.hid hx
      by_cases hq : x = v
      · have hq2 := Lib.hid (decide_eq_true hq)
        go_wp2_with fail
        go_ret
        exact ⟨ret_int (by rw [idxf_hit _ xs 0 k x hx.out hq2.out hno]; omega), rfl⟩
      · have hq2 := Lib.hid (decide_eq_false hq)
        go_wp2_with fail
        go_roundw
        case rel => exact ⟨k + 1, by go_num, by omega, noneTo_succ hno hx.out hq2.out, by first | rfl | trivial⟩
        case measure => simp [intOf]; omega
    · obtain rfl : k = n := by omega
      go_wp2
      go_ret
      exact ⟨ret_int (by rw [idxf_miss _ xs 0 (noneTo_all hno (by have := hl.out; omega))]), rfl⟩
theorem idx_lt (v : Int) (xs : List Int) : idxf (fun x => decide (x = v)) xs 0 < 0 ↔ xs.contains v = false := by
  have h := idxf_any (fun x => decide (x = v)) xs 0
  have h2 : xs.any (fun x => decide (x = v)) = xs.contains v := by
    rw [Bool.eq_iff_iff, List.any_eq_true, List.contains_iff_mem]
    constructor
    · rintro ⟨x, hx, e⟩; rw [← of_decide_eq_true e]; exact hx
    · intro hx; exact ⟨v, hx, decide_eq_true rfl⟩
  rw [h2] at h
  rw [← h, decide_eq_false_iff_not]
  omega
theorem hasAll_cut {a b : List Int} {k : Nat} {x : Int} (h : a[k]? = some x) (hx : b.contains x = false) : hasAll a b = false := by
  unfold hasAll
  rw [List.all_eq_false]
  exact ⟨x, List.mem_of_getElem? h, by simpa using hx⟩
def hasTo (a b : List Int) (k : Nat) : Prop := (a.take k).all (fun i => b.contains i) = true
theorem hasTo_succ {a b : List Int} {k : Nat} {x : Int} (h : hasTo a b k) (hx : a[k]? = some x) (hc : b.contains x = true) : hasTo a b (k + 1) := by
  unfold hasTo at *
  rw [List.take_add_one, hx, List.all_append, h]
  simp at hc ⊢
  exact hc
theorem hasTo_all {a b : List Int} {k : Nat} (h : hasTo a b k) (hk : a.length ≤ k) : hasAll a b = true := by
  unfold hasTo at h; rw [List.take_of_length_le hk] at h; exact h
set_option maxRecDepth 100000 in
set_option maxHeartbeats 1000000 in
theorem within_any (A D : Option Addr) (n c m d B B2 : Nat) (xs ys : List Int) (w : World) (hs : SlAt w B 1 ivs A n c xs) (hd : SlAt w B2 1 ivs D m d ys) :
    Calls Try.prog 56 #[.slice A n c, .slice D m d] w fun e w' => e = .returned (.bool (hasAll xs ys)) ∧ w = w' := by
  have hn := hs.le
  have hl := Lib.hid hs.len
  go_enter Try.func56, Try.ntmps56
  go_wp2
  go_loopw [5] (fun i wr => ∃ k : Nat, i = .int .i64 (k : Int) ∧ k ≤ n ∧ hasTo xs ys k ∧ wr = w) (fun i wr => n - (intOf i).toNat)
  case atStart => exact ⟨0, rfl, Nat.zero_le _, by simp [hasTo], rfl⟩
  case round =>
    obtain ⟨k, rfl, hk, hall, hwr⟩ := hrel
    rw [hwr]
    clear hwr wr
    by_cases hlt : k < n
    · obtain ⟨x, hx⟩ := some_of_lt hl.out hlt
      obtain ⟨b, off, hA, -, hbl, c0⟩ := hs.int hx
      have hk0 : (0 : Int) ≤ (k : Int) := by omega
      have hk1 : (k : Int) < (n : Int) := by omega
      have hI := Index_any x D m d B2 ys w hd
      have hix := idx_lt x ys
      generalize idxf (fun z => decide (z = x)) ys 0 = q at *
      subst hA
      cases hc : ys.contains x with
      | true =>
        have hall2 := Lib.hid (hasTo_succ hall hx hc)
        rw [hc] at hix
        have hq : ¬ q < 0 := fun h => by have := hix.1 h; cases this
        replace hx := Lib.hid hx
        replace hc := Lib.hid hc
        clear hix
        go_wp2_with fail
        refine hI.mono ?_
        rintro e w' ⟨rfl, rfl⟩
        clear hI
        go_wp2_with fail
        go_roundw
        case rel => exact ⟨k + 1, by go_num, by omega, hall2.out, by first | rfl | trivial⟩
        case measure => simp [intOf]; omega
      | false =>
        have hno2 := Lib.hid (hasAll_cut hx hc)
        have hq : q < 0 := hix.2 hc
        replace hx := Lib.hid hx
        replace hc := Lib.hid hc
        clear hix
        go_wp2_with fail
        refine hI.mono ?_
        rintro e w' ⟨rfl, rfl⟩
        clear hI
        go_wp2_with fail
        go_ret
        exact ⟨ret_bool hno2.out.symm, rfl⟩
    · obtain rfl : k = n := by omega
      go_wp2
      go_ret
      exact ⟨ret_bool (hasTo_all hall (by rw [hl.out]; exact Nat.le_refl _)).symm, rfl⟩
end Go.Proofs.Ytfengddpfeneiaa
