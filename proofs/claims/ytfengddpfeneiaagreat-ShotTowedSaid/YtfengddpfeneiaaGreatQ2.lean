/-
  Shots, plain facts that the walks use: magnitudes, sums, and what comes element by element. Nothing of the program stands here.
-/
import Derived.Test.YtfengddpfeneiaaGreatQ1
namespace Go.Proofs.YtfengddpfeneiaaGreat
open Go.RowKit
set_option linter.unusedSimpArgs false
set_option linter.unusedVariables false

theorem mulBd {a b A B : Int} (h0 : 0 ≤ a) (h1 : a ≤ A) (h2 : -B ≤ b) (h3 : b ≤ B) : -(A * B) ≤ a * b ∧ a * b ≤ A * B := by
  have hB : 0 ≤ B := by omega
  have h4 : a * b ≤ a * B := Int.mul_le_mul_of_nonneg_left h3 h0
  have h5 : a * B ≤ A * B := Int.mul_le_mul_of_nonneg_right h1 hB
  have h6 : a * (-B) ≤ a * b := Int.mul_le_mul_of_nonneg_left h2 h0
  rw [Int.mul_neg] at h6
  omega
theorem okArr_len {a : Arr} (h : okArr a = true) : arrLen a := by
  unfold okArr at h
  simp only [Bool.and_eq_true, decide_eq_true_eq] at h
  exact h.1.1
theorem okArr_sh {a : Arr} (h : okArr a = true) (i : Nat) : -1000 ≤ a.sh.getD i 0 ∧ a.sh.getD i 0 ≤ 1000 := by
  unfold okArr at h
  simp only [Bool.and_eq_true, decide_eq_true_eq, List.all_eq_true] at h
  by_cases hi : i < a.sh.length
  · have := h.1.2 (a.sh.getD i 0) (by rw [List.getD_eq_getElem?_getD, List.getElem?_eq_getElem hi]; exact List.getElem_mem hi)
    unfold okNum at this
    exact of_decide_eq_true this
  · rw [List.getD_eq_getElem?_getD, List.getElem?_eq_none (by omega)]; simp
theorem okArr_gun {a : Arr} (h : okArr a = true) {g : Gun} (hg : g ∈ a.gs) : 1 ≤ g.vol ∧ g.vol ≤ 1000 ∧ 0 ≤ g.time ∧ g.time ≤ 16 ∧ -16 ≤ g.late.lo ∧ g.late.lo ≤ g.late.hi ∧ g.late.hi ≤ 16 := by
  unfold okArr at h
  simp only [Bool.and_eq_true, decide_eq_true_eq, List.all_eq_true] at h
  have := h.2 g hg
  unfold okGun at this
  exact of_decide_eq_true this
theorem giveS_bd {a : Arr} (h : okArr a = true) {g : Gun} (hg : 1 ≤ g.vol ∧ g.vol ≤ 1000) (t d : Int) : -1000000 ≤ giveS a.sh g t d ∧ giveS a.sh g t d ≤ 1000000 := by
  unfold giveS
  split
  · have h1 := okArr_sh h (elS g t d).toNat
    have := mulBd (a := g.vol) (b := a.sh.getD (elS g t d).toNat 0) (A := 1000) (B := 1000) (by omega) (by omega) (by omega) (by omega)
    omega
  · omega
theorem sigTo_bd {a : Arr} (h : okArr a = true) (ds loss : List Int) (t : Int) : ∀ k, k ≤ a.gs.length → -(1000000 * (k : Int)) ≤ sigTo a ds loss t k ∧ sigTo a ds loss t k ≤ 1000000 * (k : Int)
  | 0, _ => by simp [sigTo]
  | k + 1, hk => by
    have ih := sigTo_bd h ds loss t k (by omega)
    rw [sigTo]
    have hm : a.gs.getD k gun0 ∈ a.gs := by
      rw [List.getD_eq_getElem?_getD, List.getElem?_eq_getElem (by omega)]; exact List.getElem_mem _
    have hg := okArr_gun h hm
    have := giveS_bd h ⟨hg.1, hg.2.1⟩ t (ds.getD k 0)
    push_cast
    split <;> omega
theorem sigAt_bd {a : Arr} (h : okArr a = true) (ds loss : List Int) (t : Nat) : -8000000 ≤ sigAt a ds loss t ∧ sigAt a ds loss t ≤ 8000000 := by
  have := sigTo_bd h ds loss t a.gs.length (Nat.le_refl _)
  have h2 := okArr_len h
  unfold arrLen at h2
  unfold sigAt
  omega
theorem sigL_len (a : Arr) (ds loss : List Int) : (sigL a ds loss).length = a.sh.length + 48 := by simp [sigL]
theorem sigL_at (a : Arr) (ds loss : List Int) {t : Nat} (h : t < a.sh.length + 48) : (sigL a ds loss)[t]? = some (sigAt a ds loss t) := by
  unfold sigL; rw [List.getElem?_map, List.getElem?_range h]; rfl
theorem sigL_bd {a : Arr} (h : okArr a = true) (ds loss : List Int) (t : Nat) : -8000000 ≤ (sigL a ds loss).getD t 0 ∧ (sigL a ds loss).getD t 0 ≤ 8000000 := by
  by_cases ht : t < a.sh.length + 48
  · rw [List.getD_eq_getElem?_getD, sigL_at a ds loss ht]; exact sigAt_bd h ds loss t
  · rw [List.getD_eq_getElem?_getD, List.getElem?_eq_none (by rw [sigL_len]; omega)]; simp
theorem betTo_bd {a : Arr} (h : okArr a = true) {g : Gun} (hg : 1 ≤ g.vol ∧ g.vol ≤ 1000) (t : Int) : ∀ k, -1000000 ≤ (betTo a.sh g t k).lo ∧ (betTo a.sh g t k).lo ≤ (betTo a.sh g t k).hi ∧ (betTo a.sh g t k).hi ≤ 1000000
  | 0 => by have := giveS_bd h hg t g.late.lo; simp only [betTo, still]; omega
  | k + 1 => by
    have := giveS_bd h hg t (g.late.lo + k)
    have := betTo_bd h hg t k
    simp only [betTo]; omega
theorem encTo_bd {a : Arr} (h : okArr a = true) (t : Int) : ∀ k, k ≤ a.gs.length → -(1000000 * (k : Int)) ≤ (encTo a t k).lo ∧ (encTo a t k).lo ≤ (encTo a t k).hi ∧ (encTo a t k).hi ≤ 1000000 * (k : Int)
  | 0, _ => by simp [encTo]
  | k + 1, hk => by
    have ih := encTo_bd h t k (by omega)
    have hm : a.gs.getD k gun0 ∈ a.gs := by
      rw [List.getD_eq_getElem?_getD, List.getElem?_eq_getElem (by omega)]; exact List.getElem_mem _
    have hg := okArr_gun h hm
    have : -1000000 ≤ (betS a.sh (a.gs.getD k gun0) t).lo ∧ (betS a.sh (a.gs.getD k gun0) t).lo ≤ (betS a.sh (a.gs.getD k gun0) t).hi ∧ (betS a.sh (a.gs.getD k gun0) t).hi ≤ 1000000 := betTo_bd h ⟨hg.1, hg.2.1⟩ t _
    simp only [encTo, plusB]
    push_cast
    omega
theorem magI_bd {n B : Int} (h : -B ≤ n) (h2 : n ≤ B) : 0 ≤ magI n ∧ magI n ≤ B := by unfold magI; omega
theorem misTo_bd {x y : List Int} {B : Int} (hx : ∀ t : Nat, -B ≤ x.getD t 0 ∧ x.getD t 0 ≤ B) (hy : ∀ t : Nat, -B ≤ y.getD t 0 ∧ y.getD t 0 ≤ B) : ∀ k : Nat, 0 ≤ misTo x y k ∧ misTo x y k ≤ 2 * B * k
  | 0 => by simp [misTo]
  | k + 1 => by
    have ih := misTo_bd hx hy k
    have h1 := hx k
    have h2 := hy k
    have h3 := magI_bd (n := x.getD k 0 - y.getD k 0) (B := 2 * B) (by omega) (by omega)
    rw [misTo]
    push_cast
    rw [Int.mul_add]
    omega
theorem onL_at (a : Arr) (k : Nat) : (onL a).getD k 0 = 0 := by
  unfold onL
  rw [List.getD_eq_getElem?_getD, List.getElem?_replicate]; split <;> rfl
theorem mapRange_succ {α : Type} (f : Nat → α) (k : Nat) : (List.range (k + 1)).map f = (List.range k).map f ++ [f k] := by rw [List.range_succ, List.map_append]; rfl
theorem mapRange_at {α : Type} (f : Nat → α) {n k : Nat} (h : k < n) : ((List.range n).map f)[k]? = some (f k) := by rw [List.getElem?_map, List.getElem?_range h]; rfl
end Go.Proofs.YtfengddpfeneiaaGreat
