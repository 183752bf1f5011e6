/-
  All delays in order, and ways that are sorted: plain laws. Nothing of the program stands here.
-/
import Derived.Test.YtfengddpfeneiaaGreatQ2
namespace Go.Proofs.YtfengddpfeneiaaGreat
open Go.RowKit
set_option linter.unusedSimpArgs false
set_option linter.unusedVariables false

theorem flat_len {α : Type} (f : Nat → List α) (m : Nat) (hm : ∀ j, (f j).length = m) : ∀ w, ((List.range w).flatMap f).length = w * m
  | 0 => by simp
  | w + 1 => by rw [List.range_succ, List.flatMap_append, List.length_append, flat_len f m hm w, Nat.succ_mul]; simp [hm]
theorem flat_at {α : Type} (f : Nat → List α) (m : Nat) (hm : ∀ j, (f j).length = m) : ∀ w j i, j < w → i < m → ((List.range w).flatMap f)[j * m + i]? = (f j)[i]?
  | 0, _, _, h, _ => by omega
  | w + 1, j, i, h, hi => by
    rw [List.range_succ, List.flatMap_append]
    have hl := flat_len f m hm w
    by_cases e : j = w
    · subst e
      rw [List.getElem?_append_right (by omega), hl, Nat.add_sub_cancel_left]
      simp
    · have : (j + 1) * m ≤ w * m := Nat.mul_le_mul_right m (by omega)
      rw [Nat.succ_mul] at this
      rw [List.getElem?_append_left (by omega)]
      exact flat_at f m hm w j i (by omega) hi
theorem allD_cons_len (g : Gun) (gs : List Gun) : (allD (g :: gs)).length = widS g * (allD gs).length := by
  rw [allD, flat_len _ (allD gs).length (by intro j; simp)]
theorem allD_cons_at (g : Gun) (gs : List Gun) {j i : Nat} (h : j < widS g) (hi : i < (allD gs).length) : (allD (g :: gs))[j * (allD gs).length + i]? = ((allD gs)[i]?).map fun r => (g.late.lo + (j : Int)) :: r := by
  rw [allD, flat_at _ (allD gs).length (by intro j; simp) _ j i h hi, List.getElem?_map]
theorem widS_pos {g : Gun} (h : g.late.lo ≤ g.late.hi) : 0 < widS g ∧ (widS g : Int) = g.late.hi + 1 - g.late.lo := by unfold widS; omega
theorem allD_first : ∀ (gs : List Gun), (∀ g ∈ gs, g.late.lo ≤ g.late.hi) → (allD gs)[0]? = some (gs.map (·.late.lo))
  | [], _ => rfl
  | g :: gs, h => by
    have ih := allD_first gs (fun x hx => h x (List.mem_cons_of_mem _ hx))
    have hl : 0 < (allD gs).length := (List.getElem?_eq_some_iff.1 ih).1
    have hw := (widS_pos (h g List.mem_cons_self)).1
    have := allD_cons_at g gs hw hl
    rw [Nat.zero_mul, Nat.add_zero] at this
    rw [this, ih]; simp
theorem allD_next : ∀ (gs : List Gun), (∀ g ∈ gs, g.late.lo ≤ g.late.hi) → ∀ (k : Nat) (l : List Int), (allD gs)[k]? = some l → nextD gs l = (allD gs)[k + 1]?
  | [], _, k, l, h => by
    have hk : k < 1 := (List.getElem?_eq_some_iff.1 h).1
    obtain rfl : k = 0 := by omega
    have : l = [] := by simpa [allD] using h.symm
    subst this; rfl
  | g :: gs, hg, k, l, h => by
    have hgs : ∀ x ∈ gs, x.late.lo ≤ x.late.hi := fun x hx => hg x (List.mem_cons_of_mem _ hx)
    have h0 := allD_first gs hgs
    have hm : 0 < (allD gs).length := (List.getElem?_eq_some_iff.1 h0).1
    have hw := widS_pos (hg g List.mem_cons_self)
    have hk : k < widS g * (allD gs).length := by rw [← allD_cons_len]; exact (List.getElem?_eq_some_iff.1 h).1
    obtain ⟨j, hj⟩ : ∃ j, j = k / (allD gs).length := ⟨_, rfl⟩
    obtain ⟨i, hi⟩ : ∃ i, i = k % (allD gs).length := ⟨_, rfl⟩
    have him : i < (allD gs).length := by rw [hi]; exact Nat.mod_lt _ hm
    have hjw : j < widS g := by rw [hj]; exact Nat.div_lt_of_lt_mul (by rw [Nat.mul_comm]; exact hk)
    have hki : k = j * (allD gs).length + i := by rw [hj, hi, Nat.mul_comm]; exact (Nat.div_add_mod k _).symm
    rw [hki, allD_cons_at g gs hjw him] at h
    obtain ⟨ds, hds⟩ : ∃ ds, (allD gs)[i]? = some ds := ⟨_, List.getElem?_eq_getElem him⟩
    rw [hds, Option.map_some, Option.some.injEq] at h
    subst h
    have ih := allD_next gs hgs i ds hds
    rw [nextD, ih, hki]
    by_cases hi1 : i + 1 < (allD gs).length
    · rw [Nat.add_assoc, allD_cons_at g gs hjw hi1, List.getElem?_eq_getElem hi1]; rfl
    · rw [List.getElem?_eq_none (by omega)]
      have e1 : i + 1 = (allD gs).length := by omega
      dsimp only
      rw [Nat.add_assoc, e1]
      by_cases hj1 : j + 1 < widS g
      · rw [if_pos (by omega)]
        have := allD_cons_at g gs hj1 hm
        rw [Nat.succ_mul, Nat.add_zero] at this
        rw [this, h0, Option.map_some]
        push_cast
        rw [Int.add_assoc]
      · rw [if_neg (by omega), List.getElem?_eq_none]
        have e2 : j + 1 = widS g := by omega
        rw [allD_cons_len, ← e2, Nat.succ_mul]; omega
/-! sorted ways -/
theorem sorted_at : ∀ {l : List Int}, sorted l = true → ∀ {i j : Nat} {x y : Int}, i ≤ j → l[i]? = some x → l[j]? = some y → x ≤ y
  | [], _, i, j, x, y, _, h, _ => by simp at h
  | [z], _, i, j, x, y, h, h1, h2 => by
    have := (List.getElem?_eq_some_iff.1 h2).1
    obtain rfl : j = 0 := by simp at this; omega
    obtain rfl : i = 0 := by omega
    simp at h1 h2; omega
  | z :: u :: l, hs, i, j, x, y, h, h1, h2 => by
    rw [sorted, Bool.and_eq_true, decide_eq_true_eq] at hs
    match i, j with
    | 0, 0 => simp at h1 h2; omega
    | 0, j + 1 =>
      simp at h1
      have := sorted_at hs.2 (i := 0) (j := j) (x := u) (y := y) (by omega) rfl (by simpa using h2)
      omega
    | i + 1, j + 1 => exact sorted_at hs.2 (i := i) (j := j) (by omega) (by simpa using h1) (by simpa using h2)
theorem sorted_of : ∀ {l : List Int}, (∀ (i : Nat) (x y : Int), l[i]? = some x → l[i + 1]? = some y → x ≤ y) → sorted l = true
  | [], _ => rfl
  | [z], _ => rfl
  | z :: u :: l, h => by
    rw [sorted, Bool.and_eq_true, decide_eq_true_eq]
    exact ⟨h 0 z u rfl rfl, sorted_of fun i x y h1 h2 => h (i + 1) x y (by simpa using h1) (by simpa using h2)⟩
/-- A way that is sorted lies in its limits if its ends do. -/
theorem okWay_ends {l : List Int} (h1 : 1 ≤ l.length) (h2 : l.length ≤ 512) (hs : sorted l = true) {x y : Int} (hx : l[0]? = some x) (hy : l[l.length - 1]? = some y) : okWay l = decide (0 ≤ x ∧ y ≤ 1048576) := by
  unfold okWay
  rw [hs, decide_eq_true ⟨h1, h2⟩, Bool.true_and, Bool.true_and, Bool.eq_iff_iff, List.all_eq_true, decide_eq_true_eq]
  constructor
  · intro h
    have a := of_decide_eq_true (h x (List.mem_of_getElem? hx))
    have b := of_decide_eq_true (h y (List.mem_of_getElem? hy))
    omega
  · rintro ⟨a, b⟩ z hz
    obtain ⟨i, hi⟩ := List.mem_iff_getElem?.1 hz
    have hil := (List.getElem?_eq_some_iff.1 hi).1
    have c := sorted_at hs (i := 0) (j := i) (by omega) hx hi
    have d := sorted_at hs (i := i) (j := l.length - 1) (by omega) hi hy
    exact decide_eq_true ⟨by omega, by omega⟩
theorem reachS_bd : ∀ (l : List Int) (far : Int) (k : Nat), -1 ≤ reachS l far k ∧ reachS l far k < k + l.length
  | [], _, k => by simp only [reachS, List.length_nil]; omega
  | x :: l, far, k => by
    rw [reachS, List.length_cons]
    have := reachS_bd l far (k + 1)
    split <;> omega
end Go.Proofs.YtfengddpfeneiaaGreat
