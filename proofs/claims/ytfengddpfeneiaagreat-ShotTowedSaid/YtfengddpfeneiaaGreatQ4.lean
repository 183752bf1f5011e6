/-
  Further bad shots, the plain laws: states of the last twelve results, and the most bad ones among further shots. Nothing of the program stands here.
-/
import Derived.Test.YtfengddpfeneiaaGreatQ3
namespace Go.Proofs.YtfengddpfeneiaaGreat
open Go.RowKit
set_option linter.unusedSimpArgs false
set_option linter.unusedVariables false

theorem bitS_zero (s x : Nat) (hx : x < 2) : bitS (nextS s x) 0 = x := by unfold bitS nextS; omega
theorem bitS_succ (s x : Nat) (hx : x < 2) : ∀ k, k < 11 → bitS (nextS s x) (k + 1) = bitS s k := by
  intro k hk
  unfold bitS nextS
  match k, hk with
  | 0, _ => simp only [Nat.reduceAdd, Nat.reducePow]; omega
  | 1, _ => simp only [Nat.reduceAdd, Nat.reducePow]; omega
  | 2, _ => simp only [Nat.reduceAdd, Nat.reducePow]; omega
  | 3, _ => simp only [Nat.reduceAdd, Nat.reducePow]; omega
  | 4, _ => simp only [Nat.reduceAdd, Nat.reducePow]; omega
  | 5, _ => simp only [Nat.reduceAdd, Nat.reducePow]; omega
  | 6, _ => simp only [Nat.reduceAdd, Nat.reducePow]; omega
  | 7, _ => simp only [Nat.reduceAdd, Nat.reducePow]; omega
  | 8, _ => simp only [Nat.reduceAdd, Nat.reducePow]; omega
  | 9, _ => simp only [Nat.reduceAdd, Nat.reducePow]; omega
  | 10, _ => simp only [Nat.reduceAdd, Nat.reducePow]; omega
theorem bitS_lt (s k : Nat) : bitS s k < 2 := by unfold bitS; omega
theorem onesS_next (s x : Nat) (hx : x < 2) : ∀ k, k < 12 → onesS (nextS s x) (k + 1) = x + onesS s k
  | 0, _ => by rw [onesS, onesS, onesS, bitS_zero s x hx]; omega
  | k + 1, h => by rw [onesS, onesS_next s x hx k (by omega), bitS_succ s x hx k (by omega)]; rw [onesS]; omega
theorem onesS_zero : ∀ k, onesS 0 k = 0
  | 0 => rfl
  | k + 1 => by rw [onesS, onesS_zero k]; unfold bitS; simp
theorem onesS_le (s : Nat) (k : Nat) : onesS s k ≤ onesS s (k + 1) := by rw [onesS]; omega
theorem onesS_bd (s : Nat) : ∀ k, onesS s k ≤ k
  | 0 => Nat.le_refl _
  | k + 1 => by rw [onesS]; have := onesS_bd s k; have := bitS_lt s k; omega
theorem mayBe_iff {r : Rul} (hr : okRul r = true) (s : Nat) : mayBe r s = true ↔ onesS s r.row.toNat < r.row.toNat ∧ onesS s r.win.toNat < r.many.toNat := by
  unfold okRul at hr
  have hr := of_decide_eq_true hr
  unfold mayBe
  simp only [Bool.and_eq_true, decide_eq_true_eq]
  omega
/-- A good shot never breaks a rule of rows or windows. -/
theorem mayBe_good {r : Rul} (hr : okRul r = true) {s : Nat} (h : mayBe r s = true) : mayBe r (nextS s 0) = true := by
  have hr' := hr
  unfold okRul at hr'
  have hr' := of_decide_eq_true hr'
  rw [mayBe_iff hr] at *
  obtain ⟨a, ha⟩ : ∃ a, r.row.toNat = a + 1 := ⟨r.row.toNat - 1, by omega⟩
  obtain ⟨c, hc⟩ : ∃ c, r.win.toNat = c + 1 := ⟨r.win.toNat - 1, by omega⟩
  rw [ha, hc] at h
  rw [ha, hc]
  rw [onesS_next s 0 (by omega) a (by omega), onesS_next s 0 (by omega) c (by omega)]
  have := onesS_le s a
  have := onesS_le s c
  have := onesS_bd s a
  omega
def isRes (l : List Int) : Prop := ∀ x ∈ l, x = 0 ∨ x = 1
theorem isRes_of {l : List Int} (h : okRes l 1 = true) : isRes l ∧ l.length ≤ 256 := by
  unfold okRes at h
  rw [Bool.and_eq_true, List.all_eq_true] at h
  refine ⟨fun x hx => ?_, of_decide_eq_true h.1⟩
  have := of_decide_eq_true (h.2 x hx)
  omega
theorem stateS_snoc (l : List Int) (x : Int) : stateS (l ++ [x]) = nextS (stateS l) x.toNat := by unfold stateS; rw [List.foldl_append]; rfl
theorem stateS_lt (l : List Int) : stateS l < 4096 := by
  rcases List.eq_nil_or_concat l with rfl | ⟨m, x, rfl⟩
  · decide
  · rw [List.concat_eq_append, stateS_snoc]; unfold nextS; omega
/-- The bits are the last results. -/
theorem onesS_state : ∀ (n : Nat) (l : List Int), l.length = n → isRes l → ∀ k, k ≤ 12 → (onesS (stateS l) k : Int) = (pN l l.length : Int) - pN l (l.length - k)
  | 0, l, hn, h, k, hk => by
    obtain rfl : l = [] := List.length_eq_zero_iff.1 hn
    rw [show stateS [] = 0 from rfl, onesS_zero]; simp [pN, cnt]
  | n + 1, l, hn, h, 0, hk => by rw [show l.length - 0 = l.length from rfl, onesS]; omega
  | n + 1, l, hn, h, k + 1, hk => by
    rcases List.eq_nil_or_concat l with rfl | ⟨m, x, rfl⟩
    · simp at hn
    · rw [List.concat_eq_append] at *
      have hm : m.length = n := by simpa using hn
      have hx := h x (by simp)
      rw [stateS_snoc, onesS_next _ _ (by omega) k (by omega)]
      have ih := onesS_state n m hm (fun y hy => h y (by simp [hy])) k (by omega)
      rw [show (m ++ [x]).length = m.length + 1 from by simp, pN_snoc, show m.length + 1 - (k + 1) = m.length - k from by omega, pN_append_le m [x] (by omega)]
      rcases hx with rfl | rfl <;> simp <;> omega
theorem judgeTo_zero {r : Rul} (hr : okRul r = true) {l : List Int} : ∀ k, k ≤ l.length → ((judgeTo r l k).2 = 0 ↔ ∀ i, l.length - k ≤ i → i < l.length → brkS r l i = 0)
  | 0, _ => by simp [judgeTo]; omega
  | k + 1, hk => by
    rw [judgeTo]
    split
    · rename_i h
      rw [judgeTo_zero hr k (by omega)]
      constructor
      · intro h2 i h3 h4
        by_cases e : i = l.length - (k + 1)
        · rw [e]; exact h
        · exact h2 i (by omega) h4
      · intro h2 i h3 h4; exact h2 i (by omega) h4
    · rename_i h
      constructor
      · intro h2; exact absurd h2 h
      · intro h2; exact absurd (h2 _ (Nat.le_refl _) (by omega)) h
theorem judgeS_zero {r : Rul} (hr : okRul r = true) {l : List Int} : (judgeS r l).2 = 0 ↔ ∀ i, i < l.length → brkS r l i = 0 := by
  unfold judgeS
  rw [judgeTo_zero hr _ (Nat.le_refl _)]
  constructor
  · intro h i hi; exact h i (by omega) hi
  · intro h i _ hi; exact h i hi
theorem state_ok {r : Rul} (hr : okRul r = true) {l : List Int} (hl : isRes l) (h : (judgeS r l).2 = 0) : mayBe r (stateS l) = true ∧ (cnt l : Int) < r.total := by
  have hr' := hr
  unfold okRul at hr'
  have hr' := of_decide_eq_true hr'
  rw [mayBe_iff hr]
  have h1 := onesS_state _ l rfl hl r.row.toNat (by omega)
  have h2 := onesS_state _ l rfl hl r.win.toNat (by omega)
  have h3 := onesS_bd (stateS l) r.row.toNat
  by_cases hz : l.length = 0
  · have : l = [] := List.length_eq_zero_iff.1 hz
    subst this
    rw [show stateS [] = 0 from rfl, onesS_zero, onesS_zero]
    simp [cnt]; omega
  · have h4 := (brkS_zero hr l (l.length - 1)).1 ((judgeS_zero hr).1 h _ (by omega))
    rw [show l.length - 1 + 1 = l.length from by omega] at h4
    have h5 := pN_len l (Nat.le_refl _)
    omega
theorem bestS_le (r : Rul) : ∀ n s left, bestS r n s left ≤ left ∧ bestS r n s left ≤ n
  | 0, _, _ => by simp [bestS]
  | n + 1, s, left => by
    rw [bestS]
    have h1 := bestS_le r n (nextS s 0) left
    have h2 := bestS_le r n (nextS s 1) (left - 1)
    split <;> omega
/-- One more that may be bad gives at most one more. -/
theorem bestS_lip (r : Rul) : ∀ n s left d, bestS r n s (left + d) ≤ d + bestS r n s left
  | 0, _, _, _ => by simp [bestS]
  | n + 1, s, left, d => by
    rw [bestS, bestS]
    have h1 := bestS_lip r n (nextS s 0) left d
    by_cases hk : mayBe r (nextS s 1) = true
    · by_cases hl : 1 ≤ left
      · have h2 := bestS_lip r n (nextS s 1) (left - 1) d
        rw [show left - 1 + d = left + d - 1 from by omega] at h2
        rw [if_pos ⟨hk, by omega⟩, if_pos ⟨hk, hl⟩]
        omega
      · obtain rfl : left = 0 := by omega
        rw [if_neg (by omega : ¬(mayBe r (nextS s 1) = true ∧ 1 ≤ 0))]
        split
        · have := (bestS_le r n (nextS s 1) (0 + d - 1)).1
          omega
        · omega
    · rw [if_neg (fun h => hk h.1), if_neg (fun h => hk h.1)]
      omega
/-- What may still come, on top of what has come up. -/
def topS (r : Rul) (left n : Nat) (s v : Nat) : Nat := v + bestS r n s (left - v)
theorem topS_mono (r : Rul) {left n s v u : Nat} (h : v ≤ u) (hu : u ≤ left) : topS r left n s v ≤ topS r left n s u := by
  unfold topS
  have := bestS_lip r n s (left - u) (u - v)
  rw [show left - u + (u - v) = left - v from by omega] at this
  omega
theorem topS_succ (r : Rul) (left n s v : Nat) : topS r left (n + 1) s v = max (topS r left n (nextS s 0) v) (if mayBe r (nextS s 1) = true ∧ v + 1 ≤ left then topS r left n (nextS s 1) (v + 1) else 0) ∨ ¬ v ≤ left := by
  by_cases hv : v ≤ left
  · left
    unfold topS
    rw [bestS]
    by_cases h : mayBe r (nextS s 1) = true ∧ 1 ≤ left - v
    · rw [if_pos h, if_pos ⟨h.1, by omega⟩, show left - v - 1 = left - (v + 1) from by omega]
      omega
    · rw [if_neg h, if_neg (fun h2 => h ⟨h2.1, by omega⟩)]
      omega
  · exact .inr hv
/-- The least of what may be bad without the rule of the total, and of what that leaves. -/
theorem bestS_min (r : Rul) : ∀ n s left N, n ≤ N → bestS r n s left = min (bestS r n s N) left
  | 0, _, _, _, _ => by simp [bestS]
  | n + 1, s, left, N, h => by
    rw [bestS, bestS, bestS_min r n (nextS s 0) left N (by omega), bestS_min r n (nextS s 1) (left - 1) (N - 1) (by omega)]
    by_cases hk : mayBe r (nextS s 1) = true
    · by_cases hl : 1 ≤ left
      · rw [if_pos ⟨hk, hl⟩, if_pos ⟨hk, by omega⟩]
        omega
      · obtain rfl : left = 0 := by omega
        rw [if_neg (by omega : ¬(mayBe r (nextS s 1) = true ∧ 1 ≤ 0))]
        omega
    · rw [if_neg (fun h => hk h.1), if_neg (fun h => hk h.1)]
      omega
end Go.Proofs.YtfengddpfeneiaaGreat
