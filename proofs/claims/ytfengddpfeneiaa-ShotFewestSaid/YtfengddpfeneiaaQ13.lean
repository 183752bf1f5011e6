/-
  Plain law of ShotAllowed: bad shots as early as can be are as many as can be.
-/
import Derived.Test.YtfengddpfeneiaaQ12
namespace Go.Proofs.Ytfengddpfeneiaa
open Go.RowKit
set_option linter.unusedSimpArgs false
set_option linter.unusedVariables false

theorem dom_next {s t x : Nat} (hx : x < 2) (h : ∀ k, k ≤ 12 → onesS t k ≤ onesS s k) : ∀ k, k ≤ 12 → onesS (nextS t x) k ≤ onesS (nextS s x) k
  | 0, _ => Nat.le_refl _
  | k + 1, hk => by
    rw [onesS_next t x hx k (by omega), onesS_next s x hx k (by omega)]
    have := h k (by omega)
    omega
theorem mayBe_dom {r : Rul} (hr : okRul r = true) {s t : Nat} (h : ∀ k, k ≤ 12 → onesS t k ≤ onesS s k) (hs : mayBe r s = true) : mayBe r t = true := by
  rw [mayBe_iff hr] at *
  unfold okRul at hr
  have hr := of_decide_eq_true hr
  have h1 := h r.row.toNat (by omega)
  have h2 := h r.win.toNat (by omega)
  omega
theorem best_dom {r : Rul} (hr : okRul r = true) : ∀ n s t L, (∀ k, k ≤ 12 → onesS t k ≤ onesS s k) → bestS r n s L ≤ bestS r n t L
  | 0, _, _, _, _ => Nat.le_refl _
  | n + 1, s, t, L, h => by
    have h0 := best_dom hr n _ _ L (dom_next (x := 0) (by omega) h)
    have h1 := best_dom hr n _ _ (L - 1) (dom_next (x := 1) (by omega) h)
    have hm := mayBe_dom hr (dom_next (x := 1) (by omega) h)
    rw [bestS, bestS]
    by_cases c : mayBe r (nextS s 1) = true ∧ 1 ≤ L
    · rw [if_pos c, if_pos ⟨hm c.1, c.2⟩]; omega
    · rw [if_neg c]; omega
theorem best_zero (r : Rul) (n s L : Nat) : bestS r n (nextS s 0) L ≤ bestS r (n + 1) s L := by rw [bestS]; omega
theorem best_shift {r : Rul} (hr : okRul r = true) : ∀ n s t L j, 1 ≤ L → mayBe r t = true → (∀ k, k ≤ 12 → onesS t k = onesS s k + (if j < k then 1 else 0)) → bestS r n s L ≤ 1 + bestS r n t (L - 1)
  | 0, _, _, _, _, _, _, _ => by rw [bestS]; omega
  | n + 1, s, t, L, j, hL, ht, h => by
    have h0 := best_shift hr n (nextS s 0) (nextS t 0) L (j + 1) hL (mayBe_good hr ht) (fun k hk => by
      match k with
      | 0 => rfl
      | k + 1 =>
        rw [onesS_next t 0 (by omega) k (by omega), onesS_next s 0 (by omega) k (by omega), h k (by omega)]
        split <;> split <;> omega)
    have h1 := best_dom hr n (nextS s 1) (nextS t 0) (L - 1) (fun k hk => by
      match k with
      | 0 => exact Nat.le_refl _
      | k + 1 =>
        rw [onesS_next t 0 (by omega) k (by omega), onesS_next s 1 (by omega) k (by omega), h k (by omega)]
        split <;> omega)
    have h2 := best_zero r n t (L - 1)
    rw [bestS]
    split <;> omega
theorem best_greedy {r : Rul} (hr : okRul r = true) (n s L : Nat) (hm : mayBe r (nextS s 1) = true) (hL : 1 ≤ L) : bestS r (n + 1) s L = 1 + bestS r n (nextS s 1) (L - 1) := by
  have h := best_shift hr n (nextS s 0) (nextS s 1) L 0 hL hm (fun k hk => by
    match k with
    | 0 => rfl
    | k + 1 => rw [onesS_next s 0 (by omega) k (by omega), onesS_next s 1 (by omega) k (by omega), if_pos (by omega)]; omega)
  rw [bestS, if_pos ⟨hm, hL⟩]
  omega
theorem best_none {r : Rul} (n s L : Nat) (h : ¬ (mayBe r (nextS s 1) = true ∧ 1 ≤ L)) : bestS r (n + 1) s L = bestS r n (nextS s 0) L := by rw [bestS, if_neg h]; omega

theorem judge_pre {r : Rul} (hr : okRul r = true) {a b : List Int} (h : (judgeS r (a ++ b)).2 = 0) : (judgeS r a).2 = 0 := by
  rw [judgeS_zero hr] at *
  intro i hi
  rw [← h i (by rw [List.length_append]; omega)]
  exact brkS_congr r (by rw [List.take_append_of_le_length (by omega)])
theorem judge_snoc {r : Rul} (hr : okRul r = true) {l : List Int} (h : (judgeS r l).2 = 0) (x : Int) : (judgeS r (l ++ [x])).2 = 0 ↔ brkS r (l ++ [x]) l.length = 0 := by
  rw [judgeS_zero hr] at *
  constructor
  · intro h2; exact h2 _ (by simp)
  · intro h2 i hi
    rw [List.length_append, List.length_singleton] at hi
    by_cases e : i = l.length
    · rw [e]; exact h2
    · rw [← h i (by omega)]
      exact brkS_congr r (by rw [List.take_append_of_le_length (by omega)])
theorem brk_state {r : Rul} (hr : okRul r = true) {m : List Int} {i : Nat} (hm : isRes m) (hi : m.length = i + 1) : brkS r m i = 0 ↔ mayBe r (stateS m) = true ∧ (cnt m : Int) < r.total := by
  rw [brkS_zero hr, mayBe_iff hr, ← hi, pN_len m (Nat.le_refl _)]
  have hr' := hr
  unfold okRul at hr'
  have hr' := of_decide_eq_true hr'
  have a1 := onesS_state m.length m rfl hm r.row.toNat (by omega)
  have a2 := onesS_state m.length m rfl hm r.win.toNat (by omega)
  rw [pN_len m (Nat.le_refl _)] at a1 a2
  have b1 := onesS_bd (stateS m) r.row.toNat
  omega
/-- How many more of n further shots may be bad. -/
def restB (r : Rul) (l : List Int) (n : Nat) : Nat := bestS r n (stateS l) (r.total - 1 - cnt l).toNat
theorem cnt_one (l : List Int) : cnt (l ++ [1]) = cnt l + 1 := by rw [cnt_append]; rfl
theorem cnt_nil (l : List Int) : cnt (l ++ [0]) = cnt l := by rw [cnt_append]; rfl
theorem isRes_app {a b : List Int} (ha : isRes a) (hb : isRes b) : isRes (a ++ b) := fun x hx => by
  rcases List.mem_append.1 hx with h | h
  · exact ha x h
  · exact hb x h
theorem isRes_one : isRes [1] := fun x hx => by simp at hx; exact .inr hx
theorem isRes_nil : isRes [0] := fun x hx => by simp at hx; exact .inl hx
theorem judge_one {r : Rul} (hr : okRul r = true) {l : List Int} (hl : isRes l) (h : (judgeS r l).2 = 0) : (judgeS r (l ++ [1])).2 = 0 ↔ mayBe r (nextS (stateS l) 1) = true ∧ 1 ≤ (r.total - 1 - cnt l).toNat := by
  rw [judge_snoc hr h, brk_state hr (isRes_app hl isRes_one) (by simp), stateS_snoc, cnt_one]
  constructor
  · rintro ⟨a, b⟩; exact ⟨a, by push_cast at b; omega⟩
  · rintro ⟨a, b⟩; exact ⟨a, by push_cast; omega⟩
theorem judge_nil {r : Rul} (hr : okRul r = true) {l : List Int} (hl : isRes l) (h : (judgeS r l).2 = 0) : (judgeS r (l ++ [0])).2 = 0 := by
  rw [judge_snoc hr h, brk_state hr (isRes_app hl isRes_nil) (by simp), stateS_snoc, cnt_nil]
  obtain ⟨a, b⟩ := state_ok hr hl h
  exact ⟨mayBe_good hr a, b⟩
theorem rest_one {r : Rul} (hr : okRul r = true) {l : List Int} (hl : isRes l) (h : (judgeS r l).2 = 0) (h1 : (judgeS r (l ++ [1])).2 = 0) (n : Nat) : restB r l (n + 1) = 1 + restB r (l ++ [1]) n := by
  rw [judge_one hr hl h] at h1
  unfold restB
  rw [best_greedy hr n _ _ h1.1 h1.2, stateS_snoc, cnt_one]
  congr 2
  push_cast
  omega
theorem rest_nil {r : Rul} (hr : okRul r = true) {l : List Int} (hl : isRes l) (h : (judgeS r l).2 = 0) (h1 : (judgeS r (l ++ [1])).2 ≠ 0) (n : Nat) : restB r l (n + 1) = restB r (l ++ [0]) n := by
  rw [Ne, judge_one hr hl h] at h1
  unfold restB
  rw [best_none n _ _ h1, stateS_snoc, cnt_nil]
  rfl
theorem rest_zero (r : Rul) (l : List Int) : restB r l 0 = 0 := rfl
theorem rest_most {r : Rul} (hr : okRul r = true) : ∀ (xs : List Int) (l : List Int), isRes l → isRes xs → (judgeS r (l ++ xs)).2 = 0 → cnt xs ≤ restB r l xs.length
  | [], l, _, _, _ => by simp [cnt]
  | x :: xs, l, hl, hx, h => by
    rw [show l ++ x :: xs = (l ++ [x]) ++ xs by simp] at h
    have hxx : x = 0 ∨ x = 1 := hx x List.mem_cons_self
    have hx1 : isRes [x] := fun y hy => by simp at hy; rw [hy]; exact hxx
    have ih := rest_most hr xs (l ++ [x]) (isRes_app hl hx1) (fun y hy => hx y (List.mem_cons_of_mem _ hy)) h
    have h2 := judge_pre hr h
    have h3 := judge_pre hr h2
    rw [show x :: xs = [x] ++ xs from rfl, cnt_append, List.length_append, List.length_singleton, Nat.add_comm 1]
    rcases hxx with rfl | rfl
    · have e : cnt [0] = 0 := rfl
      by_cases c : (judgeS r (l ++ [1])).2 = 0
      · have b := best_zero r xs.length (stateS l) (r.total - 1 - cnt l).toNat
        have e2 : restB r (l ++ [0]) xs.length = bestS r xs.length (nextS (stateS l) 0) (r.total - 1 - cnt l).toNat := by unfold restB; rw [stateS_snoc, cnt_nil]; rfl
        unfold restB at ih ⊢
        unfold restB at e2
        omega
      · rw [rest_nil hr hl h3 c]; omega
    · have e : cnt [1] = 1 := rfl
      rw [rest_one hr hl h3 h2]; omega
theorem isRes_ok {l : List Int} (h : isRes l) (hl : l.length ≤ 256) : okRes l 1 = true := by
  refine okRes_mk hl fun i hi => ?_
  rw [List.getD_eq_getElem?_getD, List.getElem?_eq_getElem hi]
  rcases h l[i] (List.getElem_mem hi) with e | e <;> simp [e]
theorem cnt_snoc (xs : List Int) {x : Int} (h : x = 0 ∨ x = 1) : (cnt (xs ++ [x]) : Int) = cnt xs + x := by
  rw [cnt_append]; rcases h with rfl | rfl
  · simp [cnt]
  · simp [cnt]
end Go.Proofs.Ytfengddpfeneiaa
