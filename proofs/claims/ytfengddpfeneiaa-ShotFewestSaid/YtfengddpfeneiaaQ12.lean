/-
  Plain law of ShotForeseen: more bad results break the rules no later.
-/
import Derived.Test.YtfengddpfeneiaaQ4
namespace Go.Proofs.Ytfengddpfeneiaa
open Go.RowKit
set_option linter.unusedSimpArgs false
set_option linter.unusedVariables false

theorem pN_stay {l : List Int} {i : Nat} (h : l.length ≤ i) : pN l (i + 1) = pN l i := by rw [pN_len l h, pN_len l (by omega)]
theorem pN_diff {l m : List Int} (hlen : l.length = m.length) (h : ∀ i, i < l.length → l.getD i 0 = 1 → m.getD i 0 = 1) (f : Nat) : ∀ d, pN l (f + d) + pN m f ≤ pN m (f + d) + pN l f
  | 0 => by rw [Nat.add_zero]; omega
  | d + 1 => by
    have ih := pN_diff hlen h f d
    rw [show f + (d + 1) = (f + d) + 1 from by omega]
    by_cases hi : f + d < l.length
    · rw [pN_succ hi, pN_succ (by omega)]
      by_cases h1 : l.getD (f + d) 0 = 1
      · rw [if_pos h1, if_pos (h _ hi h1)]; omega
      · rw [if_neg h1]; split <;> omega
    · rw [pN_stay (by omega), pN_stay (by omega)]; exact ih
theorem brk_mono {r : Rul} (hr : okRul r = true) {l m : List Int} (hlen : l.length = m.length) (h : ∀ i, i < l.length → l.getD i 0 = 1 → m.getD i 0 = 1) {i : Nat} (hb : brkS r m i = 0) : brkS r l i = 0 := by
  rw [brkS_zero hr] at hb ⊢
  obtain ⟨h1, h2, h3⟩ := hb
  have hr' := hr
  unfold okRul at hr'
  have hr' := of_decide_eq_true hr'
  have d1 := pN_diff hlen h (i + 1 - r.row.toNat) (i + 1 - (i + 1 - r.row.toNat))
  have d2 := pN_diff hlen h (i + 1 - r.win.toNat) (i + 1 - (i + 1 - r.win.toNat))
  have d3 := pN_diff hlen h 0 (i + 1)
  have m1 := pN_mono m (i := i + 1 - r.row.toNat) (j := i + 1) (by omega)
  rw [show i + 1 - r.row.toNat + (i + 1 - (i + 1 - r.row.toNat)) = i + 1 from by omega] at d1
  rw [show i + 1 - r.win.toNat + (i + 1 - (i + 1 - r.win.toNat)) = i + 1 from by omega] at d2
  rw [Nat.zero_add, pN_zero, pN_zero] at d3
  refine ⟨?_, ?_, ?_⟩ <;> omega
theorem judgeTo_first (r : Rul) (l : List Int) : ∀ k, k ≤ l.length → ∃ n : Nat, l.length - k ≤ n ∧ n ≤ l.length ∧ judgeTo r l k = ((n : Int), if n < l.length then brkS r l n else 0) ∧ (∀ i, l.length - k ≤ i → i < n → brkS r l i = 0) ∧ (n < l.length → brkS r l n ≠ 0)
  | 0, _ => ⟨l.length, by omega, Nat.le_refl _, by rw [if_neg (by omega)]; rfl, fun i h1 h2 => by omega, fun h => by omega⟩
  | k + 1, hk => by
    rw [judgeTo]
    by_cases hb : brkS r l (l.length - (k + 1)) = 0
    · rw [if_pos hb]
      obtain ⟨n, h1, h2, h3, h4, h5⟩ := judgeTo_first r l k (by omega)
      exact ⟨n, by omega, h2, h3, fun i hi hn => if e : i = l.length - (k + 1) then by rw [e]; exact hb else h4 i (by omega) hn, h5⟩
    · rw [if_neg hb]
      exact ⟨l.length - (k + 1), Nat.le_refl _, by omega, by rw [if_pos (by omega)], fun i h1 h2 => by omega, fun _ => hb⟩
theorem judge_first (r : Rul) (l : List Int) : ∃ n : Nat, n ≤ l.length ∧ judgeS r l = ((n : Int), if n < l.length then brkS r l n else 0) ∧ (∀ i, i < n → brkS r l i = 0) ∧ (n < l.length → brkS r l n ≠ 0) := by
  obtain ⟨n, -, h2, h3, h4, h5⟩ := judgeTo_first r l l.length (Nat.le_refl _)
  exact ⟨n, h2, h3, fun i hi => h4 i (by omega) hi, h5⟩
theorem judge_mono {r : Rul} (hr : okRul r = true) {l m : List Int} (hlen : l.length = m.length) (h : ∀ i, i < l.length → l.getD i 0 = 1 → m.getD i 0 = 1) : (judgeS r m).1 ≤ (judgeS r l).1 := by
  obtain ⟨a, ha, ea, fa, ga⟩ := judge_first r l
  obtain ⟨b, hb, eb, fb, gb⟩ := judge_first r m
  rw [ea, eb]
  dsimp only
  by_cases c : a < b
  · exact absurd (brk_mono hr hlen h (fb a c)) (ga (by omega))
  · omega
theorem brkS_bd (r : Rul) (l : List Int) (i : Nat) : 0 ≤ brkS r l i ∧ brkS r l i ≤ 3 := by
  unfold brkS; split
  · omega
  · split
    · omega
    · split <;> omega
/-- What the judge says, as the law asks it. -/
theorem judge_form (r : Rul) (l : List Int) : ∃ n : Nat, n ≤ l.length ∧ (judgeS r l).1 = n ∧ 0 ≤ (judgeS r l).2 ∧ (judgeS r l).2 ≤ 3 ∧ ((judgeS r l).2 = 0 ↔ n = l.length) := by
  obtain ⟨n, h1, h2, h3, h4⟩ := judge_first r l
  refine ⟨n, h1, by rw [h2], ?_⟩
  rw [h2]
  dsimp only
  have := brkS_bd r l n
  by_cases c : n < l.length
  · rw [if_pos c]
    exact ⟨this.1, this.2, fun h => absurd h (h4 c), fun h => by omega⟩
  · rw [if_neg c]; omega
/-- The results with the unknown ones chosen. -/
def knownX (l : List Int) (x : Nat → Int) : List Int := (List.range l.length).map fun i => if l.getD i 0 = 2 then x i else l.getD i 0
theorem knownX_len (l : List Int) (x : Nat → Int) : (knownX l x).length = l.length := by simp [knownX]
theorem knownX_at (l : List Int) (x : Nat → Int) {i : Nat} (h : i < l.length) : (knownX l x)[i]? = some (if l.getD i 0 = 2 then x i else l.getD i 0) := by
  unfold knownX; rw [List.getElem?_map, List.getElem?_range h]; rfl
theorem knownL_get (l : List Int) (n : Int) {i : Nat} (h : i < l.length) : (knownL l n).getD i 0 = if l.getD i 0 = 2 then n else l.getD i 0 := by
  unfold knownL
  rw [List.getD_eq_getElem?_getD, List.getD_eq_getElem?_getD, List.getElem?_map, List.getElem?_eq_getElem h]; rfl
theorem knownX_get (l : List Int) (x : Nat → Int) {i : Nat} (h : i < l.length) : (knownX l x).getD i 0 = if l.getD i 0 = 2 then x i else l.getD i 0 := by
  rw [List.getD_eq_getElem?_getD, knownX_at l x h]; rfl
theorem foreseen_said {r : Rul} (hr : okRul r = true) (l : List Int) {x : Nat → Int} (hx : ∀ i, x i = 0 ∨ x i = 1) : (foreS r l).lo ≤ (judgeS r (knownX l x)).1 ∧ (judgeS r (knownX l x)).1 ≤ (foreS r l).hi := by
  have e : ∀ n, (knownL l n).length = l.length := fun n => by simp [knownL]
  constructor
  · refine judge_mono hr (by rw [e, knownX_len]) fun i hi h => ?_
    rw [knownX_len] at hi
    rw [knownX_get l x hi] at h
    rw [knownL_get l 1 hi]
    split
    · rfl
    · rename_i c; rw [if_neg c] at h; exact h
  · refine judge_mono hr (by rw [e, knownX_len]) fun i hi h => ?_
    rw [e] at hi
    rw [knownL_get l 0 hi] at h
    rw [knownX_get l x hi]
    split
    · rename_i c; rw [if_pos c] at h; omega
    · rename_i c; rw [if_neg c] at h; exact h
theorem okRes_len {l : List Int} {m : Int} (h : okRes l m = true) : l.length ≤ 256 := by
  unfold okRes at h
  rw [Bool.and_eq_true] at h
  exact of_decide_eq_true h.1
theorem okRes_mk {l : List Int} {m : Int} (hl : l.length ≤ 256) (h : ∀ i, i < l.length → 0 ≤ l.getD i 0 ∧ l.getD i 0 ≤ m) : okRes l m = true := by
  unfold okRes
  rw [Bool.and_eq_true, List.all_eq_true]
  refine ⟨decide_eq_true hl, fun x hx => ?_⟩
  obtain ⟨i, hi, rfl⟩ := List.mem_iff_getElem.1 hx
  have := h i hi
  rw [List.getD_eq_getElem?_getD, List.getElem?_eq_getElem hi] at this
  exact decide_eq_true this
theorem okRes_at {l : List Int} {m : Int} (h : okRes l m = true) {i : Nat} (hi : i < l.length) : 0 ≤ l.getD i 0 ∧ l.getD i 0 ≤ m := by
  unfold okRes at h
  rw [Bool.and_eq_true, List.all_eq_true] at h
  have := of_decide_eq_true (h.2 l[i] (List.getElem_mem hi))
  rw [List.getD_eq_getElem?_getD, List.getElem?_eq_getElem hi]
  exact this
theorem knownX_ok {l : List Int} (h : okRes l 2 = true) {x : Nat → Int} (hx : ∀ i, x i = 0 ∨ x i = 1) : okRes (knownX l x) 1 = true := by
  refine okRes_mk (by rw [knownX_len]; exact okRes_len h) fun i hi => ?_
  rw [knownX_len] at hi
  rw [knownX_get l x hi]
  have := okRes_at h hi
  have := hx i
  split <;> omega
theorem set_ok {l : List Int} (h : okRes l 1 = true) (j : Nat) : okRes (l.set j 1) 1 = true := by
  refine okRes_mk (by rw [List.length_set]; exact okRes_len h) fun i hi => ?_
  rw [List.length_set] at hi
  have := okRes_at h hi
  rw [List.getD_eq_getElem?_getD, List.getElem?_set] at *
  split
  · split
    · decide
    · decide
  · exact this
theorem set_more {r : Rul} (hr : okRul r = true) (l : List Int) (j : Nat) : (judgeS r (l.set j 1)).1 ≤ (judgeS r l).1 :=
  judge_mono hr (by rw [List.length_set]) fun i hi h => by
    rw [List.getD_eq_getElem?_getD, List.getElem?_set]
    split
    · rw [if_pos (by omega)]; rfl
    · rw [← List.getD_eq_getElem?_getD]; exact h
theorem errJ_ok {r : Rul} {l : List Int} {m : Int} (h : errJ r l m = 0) : okRul r = true ∧ okRes l m = true := by
  unfold errJ at h
  split at h
  · rename_i h1
    split at h
    · rename_i h2; exact ⟨h1, h2⟩
    · simp at h
  · simp at h
theorem errJ_mk {r : Rul} {l : List Int} {m : Int} (h1 : okRul r = true) (h2 : okRes l m = true) : errJ r l m = 0 := by unfold errJ; rw [if_pos h1, if_pos h2]
end Go.Proofs.Ytfengddpfeneiaa
