/-
  What a proof sums up to, the plain laws: claim by claim. Nothing of the program stands here.
-/
import Derived.Test.YtfengddpfeneiaaGreatQ4
namespace Go.Proofs.YtfengddpfeneiaaGreat
open Go.RowKit
set_option linter.unusedSimpArgs false
set_option linter.unusedVariables false

theorem span_bd {r : Rul} (hr : okRul r = true) {l : List Int} {c : Clm} {s : Spn} (h : spanS r l c = some s) :
    0 ≤ s.fr ∧ s.fr ≤ s.to ∧ s.to ≤ l.length ∧ (s.fr < l.length ∨ s.fr = 0) ∧ 0 ≤ s.most ∧ s.most ≤ 255 := by
  have hr' := hr
  unfold okRul at hr'
  have hr' := of_decide_eq_true hr'
  unfold spanS at h
  split at h
  · split at h
    · simp only [Option.some.injEq] at h; subst h; dsimp only; omega
    · cases h
  · split at h
    · split at h
      · simp only [Option.some.injEq] at h; subst h; dsimp only; omega
      · cases h
    · split at h
      · split at h
        · simp only [Option.some.injEq] at h; subst h; dsimp only; omega
        · cases h
      · cases h
theorem badS_bd (l : List Int) (fr to' : Int) : 0 ≤ badS l fr to' ∧ badS l fr to' ≤ l.length := by
  unfold badS cnt
  have h := List.countP_le_length (p := fun x : Int => decide (x = 1)) (l := (l.take to'.toNat).drop fr.toNat)
  rw [List.length_drop, List.length_take] at h
  omega
theorem claimTo_snoc (r : Rul) (l : List Int) (c : Clm) : ∀ cs, claimTo r l (cs ++ [c]) = match claimTo r l cs, spanS r l c with
    | some n, some s => some (n + (badS l s.fr s.to - s.most))
    | _, _ => none
  | [] => by
    rw [List.nil_append, claimTo, claimTo]
    cases spanS r l c <;> rfl
  | d :: cs => by
    rw [List.cons_append, claimTo, claimTo, claimTo_snoc r l c cs]
    cases spanS r l d <;> cases claimTo r l cs <;> cases spanS r l c <;> simp
    omega
theorem claimTo_none {r : Rul} {l : List Int} {p : List Clm} {k : Nat} {c : Clm} (h : p[k]? = some c) (hs : spanS r l c = none) : claimTo r l p = none := by
  induction p generalizing k with
  | nil => simp at h
  | cons d p ih =>
    rw [claimTo]
    cases k with
    | zero => simp at h; subst h; rw [hs]
    | succ k => rw [ih (by simpa using h)]; cases spanS r l d <;> rfl
theorem coverS_snoc (r : Rul) (l : List Int) (i : Nat) (c : Clm) : ∀ cs, coverS r l i (cs ++ [c]) = coverS r l i cs + (match spanS r l c with
    | some s => if s.fr ≤ i ∧ (i : Int) < s.to then 1 else 0
    | none => 0)
  | [] => rfl
  | d :: cs => by
    rw [List.cons_append, coverS, coverS, coverS_snoc r l i c cs]
    omega
theorem claimTo_bd {r : Rul} (hr : okRul r = true) {l : List Int} (hl : l.length ≤ 256) : ∀ (cs : List Clm) (n : Int), claimTo r l cs = some n → -(256 * (cs.length : Int)) ≤ n ∧ n ≤ 256 * (cs.length : Int)
  | [], n, h => by simp only [claimTo, Option.some.injEq] at h; subst h; simp
  | c :: cs, n, h => by
    rw [claimTo] at h
    cases hs : spanS r l c with
    | none => rw [hs] at h; cases h
    | some s =>
      cases hc : claimTo r l cs with
      | none => rw [hs, hc] at h; cases h
      | some m =>
        rw [hs, hc] at h
        simp only [Option.some.injEq] at h
        have h1 := claimTo_bd hr hl cs m hc
        have h2 := span_bd hr hs
        have h3 := badS_bd l s.fr s.to
        rw [List.length_cons]
        omega
theorem coverS_bd (r : Rul) (l : List Int) (i : Nat) : ∀ cs, 0 ≤ coverS r l i cs ∧ coverS r l i cs ≤ cs.length
  | [] => by simp [coverS]
  | c :: cs => by
    rw [coverS, List.length_cons]
    have h1 := coverS_bd r l i cs
    cases spanS r l c with
    | none => dsimp only; omega
    | some s => dsimp only; split <;> omega
theorem overTo_bd (r : Rul) (l : List Int) (p : List Clm) : ∀ k, 0 ≤ overTo r l p k ∧ overTo r l p k ≤ (p.length : Int) * k
  | 0 => by simp [overTo]
  | k + 1 => by
    rw [overTo]
    have h1 := overTo_bd r l p k
    have h2 := coverS_bd r l k p
    have h3 : (p.length : Int) * ((k + 1 : Nat) : Int) = (p.length : Int) * k + p.length := by push_cast; rw [Int.mul_add, Int.mul_one]
    split <;> omega
/-- How often each is covered by some claims. -/
def covL (r : Rul) (l : List Int) (cs : List Clm) : List Int := (List.range l.length).map fun i => coverS r l i cs
/-- .. and once more from one place on up to another one. -/
def covM (r : Rul) (l : List Int) (cs : List Clm) (fr j : Int) : List Int := (List.range l.length).map fun i => coverS r l i cs + (if fr ≤ i ∧ (i : Int) < j then 1 else 0)
theorem covL_len (r : Rul) (l : List Int) (cs : List Clm) : (covL r l cs).length = l.length := by simp [covL]
theorem covL_nil (r : Rul) (l : List Int) : covL r l [] = List.replicate l.length 0 := by
  refine List.ext_getElem? fun i => ?_
  unfold covL
  rw [List.getElem?_map, List.getElem?_replicate]
  by_cases h : i < l.length
  · rw [List.getElem?_range h, if_pos h]; rfl
  · rw [List.getElem?_eq_none (by simp; omega), if_neg h]; rfl
theorem covL_at (r : Rul) (l : List Int) (cs : List Clm) {i : Nat} (h : i < l.length) : (covL r l cs)[i]? = some (coverS r l i cs) := by
  unfold covL; rw [List.getElem?_map, List.getElem?_range h]; rfl
theorem covM_start (r : Rul) (l : List Int) (cs : List Clm) (fr : Int) : covM r l cs fr fr = covL r l cs := by
  unfold covM covL
  refine List.map_congr_left fun i _ => ?_
  rw [if_neg (by omega)]; omega
theorem covM_end {r : Rul} {l : List Int} {p : List Clm} {k : Nat} {c : Clm} (h : p[k]? = some c) {s : Spn} (hs : spanS r l c = some s) : covM r l (p.take k) s.fr s.to = covL r l (p.take (k + 1)) := by
  unfold covM covL
  refine List.map_congr_left fun i _ => ?_
  rw [List.take_add_one, h]
  show _ = coverS r l i (p.take k ++ [c])
  rw [coverS_snoc, hs]
theorem covM_at (r : Rul) (l : List Int) (cs : List Clm) {fr : Int} {j : Nat} (h : j < l.length) : (covM r l cs fr (j : Int))[j]? = some (coverS r l j cs) := by
  unfold covM
  rw [List.getElem?_map, List.getElem?_range h]
  simp
theorem covM_set (r : Rul) (l : List Int) (cs : List Clm) {fr : Int} {j : Nat} (h : j < l.length) (hf : fr ≤ j) : (covM r l cs fr (j : Int)).set j (coverS r l j cs + 1) = covM r l cs fr ((j : Int) + 1) := by
  refine List.ext_getElem? fun i => ?_
  rw [List.getElem?_set]
  unfold covM
  by_cases hi : j = i
  · subst hi
    rw [if_pos rfl, if_pos (by simpa using h), List.getElem?_map, List.getElem?_range h]
    simp only [Option.map_some, Option.some.injEq]
    rw [if_pos (by omega)]
  · rw [if_neg hi, List.getElem?_map, List.getElem?_map]
    by_cases hl : i < l.length
    · rw [List.getElem?_range hl]
      simp only [Option.map_some, Option.some.injEq]
      congr 1
      by_cases h1 : fr ≤ (i : Int) ∧ (i : Int) < (j : Int)
      · rw [if_pos h1, if_pos (by omega)]
      · rw [if_neg h1, if_neg (by omega)]
    · rw [List.getElem?_eq_none (by simp; omega)]; rfl
theorem covM_len (r : Rul) (l : List Int) (cs : List Clm) (fr j : Int) : (covM r l cs fr j).length = l.length := by simp [covM]
end Go.Proofs.YtfengddpfeneiaaGreat
