/-
  Shots, plain facts that the walks of the specification of firing use: ways, evened bounds. Nothing of the program stands here.
-/
import Derived.Test.YtfengddpfeneiaaS12
namespace Go.Proofs.Ytfengddpfeneiaa
open Go.RowKit
set_option linter.unusedSimpArgs false
set_option linter.unusedVariables false

/-- The first k of a way lie in their limits and never go back. -/
def wayTo (l : List Int) (k : Nat) : Prop := ∀ (i : Nat) (x : Int), i < k → l[i]? = some x → (0 ≤ x ∧ x ≤ 1048576) ∧ ∀ y : Int, 0 < i → l[i - 1]? = some y → y ≤ x
theorem wayTo_zero (l : List Int) : wayTo l 0 := fun i x h => by omega
theorem wayTo_succ {l : List Int} {k : Nat} {x : Int} (h : wayTo l k) (hx : l[k]? = some x) (h1 : 0 ≤ x ∧ x ≤ 1048576) (h2 : ∀ y : Int, 0 < k → l[k - 1]? = some y → y ≤ x) : wayTo l (k + 1) := by
  intro i z hi hz
  by_cases e : i = k
  · subst e
    rw [hx] at hz
    cases hz
    exact ⟨h1, h2⟩
  · exact h i z (by omega) hz
theorem way_yes {l : List Int} {n : Nat} (hl : l.length = n) (h : wayTo l n) : okWay l = decide (1 ≤ (n : Int) ∧ (n : Int) ≤ 512) := by
  subst hl
  have hs : sorted l = true := sorted_of fun i x y hx hy => by
    have hj := (List.getElem?_eq_some_iff.1 hy).1
    exact (h (i + 1) y hj hy).2 x (by omega) (by rw [Nat.add_sub_cancel]; exact hx)
  have ha : (l.all fun x => decide (0 ≤ x ∧ x ≤ 1048576)) = true := by
    rw [List.all_eq_true]
    intro x hx
    obtain ⟨i, hi⟩ := List.mem_iff_getElem?.1 hx
    exact decide_eq_true (h i x (List.getElem?_eq_some_iff.1 hi).1 hi).1
  unfold okWay
  rw [hs, ha, Bool.and_true, Bool.and_true]
  exact dec_eq (by omega)
theorem way_no1 {l : List Int} {k : Nat} {x : Int} (hx : l[k]? = some x) (h : ¬ (0 ≤ x ∧ x ≤ 1048576)) : okWay l = false := by
  unfold okWay
  rw [Bool.and_eq_false_iff]
  exact .inr (all_no hx (decide_eq_false h))
theorem way_no2 {l : List Int} {k : Nat} {x y : Int} (hx : l[k]? = some x) (hy : l[k - 1]? = some y) (h : x < y) : okWay l = false := by
  cases hs : sorted l with
  | false => unfold okWay; rw [hs]; simp
  | true =>
    have := sorted_at hs (i := k - 1) (j := k) (by omega) hy hx
    omega
/-- The least of m and of the highs of a list. -/
def minFr (m : Int) (l : List Bnd) : Int := l.foldl (fun m x => min m x.hi) m
theorem highL_min (l : List Bnd) : ∀ a c : Int, highL l (min a c) = min a (highL l c) := by
  cases l with
  | nil => intro a c; rfl
  | cons x l => intro a c; rw [highL, highL]; omega
theorem minFr_high : ∀ (l : List Bnd) (m : Int), minFr m l = highL l m
  | [], m => rfl
  | x :: l, m => by
    rw [minFr, List.foldl_cons]
    show minFr (min m x.hi) l = _
    rw [minFr_high l, highL, highL_min]
/-- The highs from t on up to k are looked through. -/
def hiTo (b : List Bnd) (t k : Nat) : Int := minFr (b.getD t ⟨0, 0⟩).hi ((b.take k).drop t)
theorem hiTo_start (b : List Bnd) (t : Nat) : hiTo b t t = (b.getD t ⟨0, 0⟩).hi := by
  unfold hiTo; rw [List.drop_eq_nil_of_le (by rw [List.length_take]; omega)]; rfl
theorem hiTo_succ {b : List Bnd} {t k : Nat} {x : Bnd} (ht : t ≤ k) (h : b[k]? = some x) : hiTo b t (k + 1) = min (hiTo b t k) x.hi := by
  have hk := (List.getElem?_eq_some_iff.1 h).1
  unfold hiTo minFr
  rw [List.take_add_one, h, List.drop_append_of_le_length (by rw [List.length_take]; omega), List.foldl_append]; rfl
theorem hiTo_end {b : List Bnd} {t : Nat} (ht : t < b.length) : hiTo b t b.length = highT b t := by
  unfold hiTo highT
  rw [List.take_length, minFr_high, List.drop_eq_getElem_cons ht, highL, List.getD_eq_getElem?_getD, List.getElem?_eq_getElem ht]
  show min b[t].hi (highL (b.drop (t + 1)) b[t].hi) = highL (b.drop (t + 1)) b[t].hi
  rw [← highL_min, Int.min_self]
/-- The lows of the first k are looked through, ahead of the one of t. -/
def loTo (b : List Bnd) (t : Nat) : Nat → Int
  | 0 => (b.getD t ⟨0, 0⟩).lo
  | k + 1 => max (loTo b t k) (b.getD k ⟨0, 0⟩).lo
theorem loTo_low (b : List Bnd) (t : Nat) : ∀ k, loTo b t (k + 1) = max (b.getD t ⟨0, 0⟩).lo (lowT b k)
  | 0 => rfl
  | k + 1 => by rw [loTo, loTo_low b t k, lowT]; omega
theorem loTo_end (b : List Bnd) : ∀ t, loTo b t t = lowT b t
  | 0 => rfl
  | t + 1 => by rw [loTo_low, lowT]
def evenTo (b : List Bnd) (k : Nat) : Bool := (List.range k).all fun t => decide (lowT b t ≤ highT b t)
theorem evenTo_succ (b : List Bnd) (k : Nat) : evenTo b (k + 1) = (evenTo b k && decide (lowT b k ≤ highT b k)) := by
  unfold evenTo; rw [List.range_succ, List.all_append]; simp
theorem evenTo_end (b : List Bnd) : evenTo b b.length = okEven b := rfl
end Go.Proofs.Ytfengddpfeneiaa
