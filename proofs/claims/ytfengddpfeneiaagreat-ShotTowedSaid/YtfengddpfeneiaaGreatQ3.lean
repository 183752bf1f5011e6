/-
  Repeats, the plain law: what is kept greedily breaks no rule, and nobody repeats less. Nothing of the program stands here.
-/
import Derived.Test.YtfengddpfeneiaaGreatQ1
namespace Go.Proofs.YtfengddpfeneiaaGreat
open Go.RowKit
set_option linter.unusedSimpArgs false
set_option linter.unusedVariables false

def pN (l : List Int) (i : Nat) : Nat := cnt (l.take i)
theorem pN_zero (l : List Int) : pN l 0 = 0 := rfl
theorem cnt_append (a b : List Int) : cnt (a ++ b) = cnt a + cnt b := by simp [cnt, List.countP_append]
theorem getD_of_lt {l : List Int} {i : Nat} (h : i < l.length) : l[i]? = some (l.getD i 0) := by
  rw [List.getElem?_eq_getElem h, List.getD_eq_getElem?_getD, List.getElem?_eq_getElem h]; rfl
theorem pN_succ {l : List Int} {i : Nat} (h : i < l.length) : pN l (i + 1) = pN l i + (if l.getD i 0 = 1 then 1 else 0) := by
  unfold pN
  rw [List.take_add_one, getD_of_lt h, cnt_append]
  congr 1
  simp only [Option.toList_some, cnt, List.countP_cons, List.countP_nil, Nat.zero_add]
  by_cases e : l.getD i 0 = 1 <;> simp [e]
theorem pN_len (l : List Int) {i : Nat} (h : l.length ≤ i) : pN l i = cnt l := by unfold pN; rw [List.take_of_length_le h]
theorem pN_stepB (l : List Int) (i : Nat) : pN l i ≤ pN l (i + 1) ∧ pN l (i + 1) ≤ pN l i + 1 := by
  by_cases h : i < l.length
  · rw [pN_succ h]; split <;> omega
  · rw [pN_len l (by omega), pN_len l (by omega)]; omega
theorem pN_mono (l : List Int) {i j : Nat} (h : i ≤ j) : pN l i ≤ pN l j ∧ pN l j ≤ pN l i + (j - i) := by
  induction j with
  | zero => obtain rfl : i = 0 := by omega
            omega
  | succ j ih =>
    by_cases e : i = j + 1
    · subst e; omega
    · have := ih (by omega)
      have := pN_stepB l j
      omega
theorem badS_p (l : List Int) {fr to : Int} {f t : Nat} (hf : fr.toNat = f) (ht : to.toNat = t) (h : f ≤ t) : badS l fr to = (pN l t : Int) - pN l f := by
  unfold badS
  rw [hf, ht]
  have e : cnt (l.take t) = cnt (l.take f) + cnt ((l.take t).drop f) := by
    rw [← cnt_append]
    congr 1
    have := List.take_append_drop f (l.take t)
    rw [List.take_take, Nat.min_eq_left h] at this
    exact this.symm
  unfold pN
  omega
theorem pN_congr {l m : List Int} {i : Nat} (h : l.take i = m.take i) {j : Nat} (hj : j ≤ i) : pN l j = pN m j := by
  unfold pN
  have := congrArg (List.take j) h
  rw [List.take_take, List.take_take, Nat.min_eq_left hj] at this
  rw [this]
theorem brkS_zero {r : Rul} (hr : okRul r = true) (l : List Int) (i : Nat) :
    brkS r l i = 0 ↔ ((pN l (i + 1) : Int) - pN l (i + 1 - r.row.toNat) ≠ r.row ∧ (pN l (i + 1) : Int) - pN l (i + 1 - r.win.toNat) < r.many ∧ (pN l (i + 1) : Int) < r.total) := by
  unfold okRul at hr
  have hr := of_decide_eq_true hr
  unfold brkS
  rw [badS_p l (f := i + 1 - r.row.toNat) (t := i + 1) (by omega) (by omega) (by omega), badS_p l (f := i + 1 - r.win.toNat) (t := i + 1) (by omega) (by omega) (by omega),
    badS_p l (f := 0) (t := i + 1) (by omega) (by omega) (by omega), pN_zero]
  split
  · simp; intro h; omega
  · split
    · simp; intro h h2; omega
    · split
      · simp; intro h h2; omega
      · simp; omega
theorem brkS_congr (r : Rul) {l m : List Int} {i : Nat} (h : l.take (i + 1) = m.take (i + 1)) : brkS r l i = brkS r m i := by
  unfold brkS badS
  rw [show ((i : Int) + 1).toNat = i + 1 from by omega, h]
theorem keepTo_len (r : Rul) (l : List Int) : ∀ k, (keepTo r l k).length = k
  | 0 => rfl
  | k + 1 => by rw [keepTo]; split <;> simp [keepTo_len r l k]
theorem keepTo_next (r : Rul) (l : List Int) (k : Nat) : ∃ x, keepTo r l (k + 1) = keepTo r l k ++ [x] ∧ (x = l.getD k 0 ∨ x = 0) ∧ (brkS r (keepTo r l k ++ [l.getD k 0]) k = 0 → x = l.getD k 0) ∧ (brkS r (keepTo r l k ++ [l.getD k 0]) k ≠ 0 → x = 0) := by
  rw [keepTo]
  split
  · rename_i h; exact ⟨_, rfl, .inl rfl, fun _ => rfl, fun h2 => absurd h h2⟩
  · rename_i h; exact ⟨_, rfl, .inr rfl, fun h2 => absurd h2 h, fun _ => rfl⟩
theorem keepTo_pre (r : Rul) (l : List Int) {k : Nat} : ∀ m, k ≤ m → (keepTo r l m).take k = keepTo r l k
  | 0, h => by obtain rfl : k = 0 := by omega
               rfl
  | m + 1, h => by
    by_cases e : k = m + 1
    · subst e; exact List.take_of_length_le (by rw [keepTo_len]; omega)
    · obtain ⟨x, hx, -⟩ := keepTo_next r l m
      rw [hx, List.take_append_of_le_length (by rw [keepTo_len]; omega)]
      exact keepTo_pre r l m (by omega)
theorem pN_append_le (a b : List Int) {i : Nat} (h : i ≤ a.length) : pN (a ++ b) i = pN a i := by
  unfold pN; rw [List.take_append_of_le_length h]
theorem pN_snoc (a : List Int) (x : Int) : pN (a ++ [x]) (a.length + 1) = pN a a.length + (if x = 1 then 1 else 0) := by
  rw [pN_succ (by simp), pN_append_le _ _ (Nat.le_refl _)]
  congr 1
  simp
theorem keep_step {r : Rul} (hr : okRul r = true) (l : List Int) (k : Nat) (ih : ∀ i < k, brkS r (keepTo r l k) i = 0) : brkS r (keepTo r l k ++ [0]) k = 0 := by
  have hl := keepTo_len r l k
  have hp : pN (keepTo r l k ++ [0]) (k + 1) = pN (keepTo r l k) k := by
    have := pN_snoc (keepTo r l k) 0
    rw [hl] at this; rw [this]; simp
  have hr' := hr
  unfold okRul at hr'
  have hr' := of_decide_eq_true hr'
  rw [brkS_zero hr, hp, pN_append_le _ _ (by rw [hl]; omega), pN_append_le _ _ (by rw [hl]; omega)]
  have m1 := pN_mono (keepTo r l k) (i := k + 1 - r.row.toNat) (j := k) (by omega)
  by_cases hk : k = 0
  · have e1 : k + 1 - r.row.toNat = 0 := by omega
    have e2 : k + 1 - r.win.toNat = 0 := by omega
    have e3 : pN (keepTo r l k) k = 0 := by rw [hk]; rfl
    rw [e1, e2, pN_zero, e3]
    omega
  · have hj := (brkS_zero hr _ (k - 1)).1 (ih (k - 1) (by omega))
    rw [show k - 1 + 1 = k from by omega] at hj
    have m2 := pN_mono (keepTo r l k) (i := k - r.win.toNat) (j := k + 1 - r.win.toNat) (by omega)
    omega
theorem keep_ok {r : Rul} (hr : okRul r = true) (l : List Int) (k : Nat) : ∀ i < k, brkS r (keepTo r l k) i = 0 := by
  induction k with
  | zero => intro i h; omega
  | succ k ih =>
    intro i h
    obtain ⟨x, hx, -, h1, h2⟩ := keepTo_next r l k
    by_cases e : i = k
    · rw [e, hx]
      by_cases hb : brkS r (keepTo r l k ++ [l.getD k 0]) k = 0
      · rw [h1 hb]; exact hb
      · rw [h2 hb]; exact keep_step hr l k ih
    · rw [brkS_congr r (m := keepTo r l k) (by rw [hx, List.take_append_of_le_length (by rw [keepTo_len]; omega)])]
      exact ih i (by omega)
def keepS (r : Rul) (l : List Int) : List Int := keepTo r l l.length
theorem keepS_get (r : Rul) (l : List Int) {i : Nat} (h : i < l.length) : (keepS r l).getD i 0 = if brkS r (keepTo r l i ++ [l.getD i 0]) i = 0 then l.getD i 0 else 0 := by
  have h1 := keepTo_pre r l (k := i + 1) l.length h
  obtain ⟨x, hx, -, h2, h3⟩ := keepTo_next r l i
  have h4 : (keepS r l)[i]? = some x := by
    have : ((keepTo r l l.length).take (i + 1))[i]? = some x := by
      rw [h1, hx, List.getElem?_append_right (by rw [keepTo_len]; omega), keepTo_len]; simp
    rwa [List.getElem?_take_of_lt (by omega)] at this
  rw [List.getD_eq_getElem?_getD, h4, Option.getD_some]
  split
  · rename_i hb; exact h2 hb
  · rename_i hb; exact h3 hb
theorem pN_keep (r : Rul) (l : List Int) {i : Nat} (h : i ≤ l.length) : pN (keepS r l) i = pN (keepTo r l i) i := by
  unfold pN keepS
  rw [keepTo_pre r l _ h, List.take_of_length_le (by rw [keepTo_len]; omega)]
theorem pN_keep_le (r : Rul) (l : List Int) {i j : Nat} (h : i ≤ l.length) (hj : j ≤ i) : pN (keepTo r l i) j = pN (keepS r l) j :=
  pN_congr (i := i) (by unfold keepS; rw [keepTo_pre r l _ h, List.take_of_length_le (by rw [keepTo_len]; omega)]) hj
/-- How many of the first i are repeated. -/
def hS (r : Rul) (l : List Int) (i : Nat) : Int := (pN l i : Int) - pN (keepS r l) i
theorem hS_good {r : Rul} {l : List Int} {i : Nat} (h : i < l.length) (hx : l.getD i 0 ≠ 1) : hS r l (i + 1) = hS r l i := by
  unfold hS
  rw [pN_succ h, pN_succ (by unfold keepS; rw [keepTo_len]; exact h), keepS_get r l h, if_neg hx]
  split <;> simp
theorem hS_bad {r : Rul} {l : List Int} {i : Nat} (h : i < l.length) (hx : l.getD i 0 = 1) : hS r l (i + 1) = hS r l i + (if brkS r (keepTo r l i ++ [1]) i = 0 then 0 else 1) := by
  unfold hS
  rw [pN_succ h, pN_succ (by unfold keepS; rw [keepTo_len]; exact h), keepS_get r l h, if_pos hx, hx]
  split
  · simp; omega
  · simp; omega
theorem hS_stepB {r : Rul} {l : List Int} {i : Nat} (h : i < l.length) : hS r l i ≤ hS r l (i + 1) ∧ hS r l (i + 1) ≤ hS r l i + 1 := by
  by_cases hx : l.getD i 0 = 1
  · rw [hS_bad h hx]; split <;> omega
  · rw [hS_good h hx]; omega
theorem hS_mono (r : Rul) (l : List Int) {i j : Nat} (h : i ≤ j) (hj : j ≤ l.length) : hS r l i ≤ hS r l j := by
  induction j with
  | zero => obtain rfl : i = 0 := by omega
            omega
  | succ j ih =>
    by_cases e : i = j + 1
    · subst e; omega
    · have := ih (by omega) (by omega)
      have := (hS_stepB (r := r) (l := l) (i := j) (by omega)).1
      omega
theorem hS_zero (r : Rul) (l : List Int) : hS r l 0 = 0 := rfl
theorem hS_same (r : Rul) (l : List Int) {i j : Nat} (h : i ≤ j) (hj : j ≤ l.length) (he : pN l i = pN l j) : hS r l i = hS r l j := by
  induction j with
  | zero => obtain rfl : i = 0 := by omega
            rfl
  | succ j ih =>
    by_cases e : i = j + 1
    · subst e; rfl
    · have m1 := pN_mono l (i := i) (j := j) (by omega)
      have m2 := pN_stepB l j
      rw [ih (by omega) (by omega) (by omega), hS_good (by omega)]
      intro hx
      rw [pN_succ (by omega), if_pos hx] at he
      omega

/-- What the numbers of repeated shots, among so many bad ones, must hold. -/
structure Feas (r : Rul) (l : List Int) (x : Nat → Int) : Prop where
  zero : x 0 = 0
  up : ∀ k < cnt l, x k ≤ x (k + 1)
  dn : ∀ k < cnt l, x (k + 1) ≤ x k + 1
  cl : ∀ c s, spanS r l c = some s → x (pN l s.fr.toNat) + ((pN l s.to.toNat : Int) - pN l s.fr.toNat - s.most) ≤ x (pN l s.to.toNat)
theorem pN_le_cnt (l : List Int) (i : Nat) : pN l i ≤ cnt l := by
  have := (pN_mono l (i := i) (j := max i l.length) (by omega)).1
  rw [pN_len l (i := max i l.length) (by omega)] at this
  exact this
theorem Feas.far {r : Rul} {l : List Int} {x : Nat → Int} (F : Feas r l x) {i j : Nat} (h : i ≤ j) (hj : j ≤ cnt l) : x j ≤ x i + ((j : Int) - i) := by
  induction j with
  | zero => obtain rfl : i = 0 := by omega
            omega
  | succ j ih =>
    by_cases e : i = j + 1
    · subst e; omega
    · have := ih (by omega) (by omega)
      have := F.dn j (by omega)
      omega
/-- Nobody repeats less. -/
theorem Feas.least {r : Rul} (hr : okRul r = true) {l : List Int} {x : Nat → Int} (F : Feas r l x) : ∀ n, ∀ i ≤ n, i ≤ l.length → hS r l i ≤ x (pN l i)
  | 0, i, h, _ => by
    obtain rfl : i = 0 := by omega
    rw [hS_zero, pN_zero, F.zero]; omega
  | n + 1, i, h, hi => by
    by_cases e : i ≤ n
    · exact F.least hr n i e hi
    · obtain rfl : i = n + 1 := by omega
      have hr' := hr
      unfold okRul at hr'
      have hr' := of_decide_eq_true hr'
      have hn := F.least hr n n (Nat.le_refl _) (by omega)
      by_cases hx : l.getD n 0 = 1
      · have hp : pN l (n + 1) = pN l n + 1 := by rw [pN_succ (by omega), if_pos hx]
        have hc := pN_le_cnt l (n + 1)
        have hb := hS_bad (r := r) (l := l) (i := n) (by omega) hx
        by_cases hk : brkS r (keepTo r l n ++ [1]) n = 0
        · rw [if_pos hk] at hb
          have := F.up (pN l n) (by omega)
          rw [hp]; omega
        · rw [if_neg hk] at hb
          have hlen := keepTo_len r l n
          have hq : pN (keepTo r l n ++ [1]) (n + 1) = pN (keepS r l) n + 1 := by
            have := pN_snoc (keepTo r l n) 1
            rw [hlen] at this; rw [this, pN_keep_le r l (by omega) (Nat.le_refl _)]; simp
          have hs : (pN (keepS r l) (n + 1) : Int) = pN (keepS r l) n := by
            have h1 : hS r l (n + 1) = hS r l n + 1 := by omega
            unfold hS at h1; omega
          rw [brkS_zero hr, hq, pN_append_le _ _ (by rw [hlen]; omega), pN_append_le _ _ (by rw [hlen]; omega), pN_keep_le r l (by omega) (by omega), pN_keep_le r l (by omega) (by omega)] at hk
          have key : ∀ f t most : Nat, ∀ c : Clm, f ≤ n → n + 1 ≤ t → (t = n + 1 ∨ f = 0) → t ≤ l.length → spanS r l c = some ⟨f, t, most⟩ → (most : Int) ≤ (pN (keepS r l) n : Int) - pN (keepS r l) f → hS r l (n + 1) ≤ x (pN l (n + 1)) := by
            intro f t most c h1 h2 h3 h4 h5 h6
            have hcl := F.cl c _ h5
            simp only [Int.toNat_natCast] at hcl
            have hf := F.least hr n f h1 (by omega)
            have hfar := F.far (i := pN l (n + 1)) (j := pN l t) (pN_mono l h2).1 (pN_le_cnt l t)
            have e1 : hS r l (n + 1) = (pN l (n + 1) : Int) - pN (keepS r l) n := by unfold hS; omega
            have e2 : hS r l f = (pN l f : Int) - pN (keepS r l) f := rfl
            omega
          have m1 := pN_mono (keepS r l) (i := n + 1 - r.row.toNat) (j := n) (by omega)
          by_cases c1 : ((pN (keepS r l) n + 1 : Nat) : Int) - pN (keepS r l) (n + 1 - r.row.toNat) = r.row
          · refine key (n + 1 - r.row.toNat) (n + 1) (r.row.toNat - 1) ⟨1, ((n + 1 - r.row.toNat : Nat) : Int)⟩ (by omega) (by omega) (.inl rfl) hi ?_ (by omega)
            unfold spanS
            rw [if_pos rfl, if_pos (by constructor <;> (dsimp only; omega))]
            simp only [Option.some.injEq, Spn.mk.injEq]
            exact ⟨trivial, by omega, by omega⟩
          · by_cases c2 : ((pN (keepS r l) n + 1 : Nat) : Int) - pN (keepS r l) (n + 1 - r.win.toNat) < r.many
            · refine key 0 l.length (r.total.toNat - 1) ⟨3, 0⟩ (by omega) (by omega) (.inr rfl) (Nat.le_refl _) ?_ ?_
              · unfold spanS
                rw [if_neg (by decide), if_neg (by decide), if_pos rfl, if_pos rfl]
                simp only [Option.some.injEq, Spn.mk.injEq]
                exact ⟨rfl, trivial, by omega⟩
              · rw [pN_zero]
                by_cases c3 : ((pN (keepS r l) n + 1 : Nat) : Int) < r.total
                · exact absurd ⟨c1, c2, c3⟩ hk
                · omega
            · by_cases c4 : r.win.toNat ≤ n + 1
              · refine key (n + 1 - r.win.toNat) (n + 1) (r.many.toNat - 1) ⟨2, ((n + 1 - r.win.toNat : Nat) : Int)⟩ (by omega) (by omega) (.inl rfl) hi ?_ (by omega)
                unfold spanS
                rw [if_neg (by dsimp only; omega), if_pos rfl, if_pos (by constructor <;> (dsimp only; omega))]
                simp only [Option.some.injEq, Spn.mk.injEq]
                exact ⟨trivial, by omega, by omega⟩
              · refine key 0 (min r.win.toNat l.length) (r.many.toNat - 1) ⟨2, 0⟩ (by omega) (by omega) (.inr rfl) (by omega) ?_ ?_
                · unfold spanS
                  rw [if_neg (by dsimp only; omega), if_pos rfl, if_pos (by constructor <;> (dsimp only; omega))]
                  simp only [Option.some.injEq, Spn.mk.injEq]
                  exact ⟨rfl, by omega, by omega⟩
                · have : n + 1 - r.win.toNat = 0 := by omega
                  rw [this] at c2
                  omega
      · have hp : pN l (n + 1) = pN l n := by rw [pN_succ (by omega), if_neg hx]; rfl
        rw [hS_good (by omega) hx, hp]; exact hn
/-- Where so many bad ones have come up first. -/
def posN : List Int → Nat → Nat
  | _, 0 => 0
  | [], _ + 1 => 0
  | x :: l, k + 1 => 1 + posN l (if x = 1 then k else k + 1)
theorem pN_cons (x : Int) (l : List Int) (i : Nat) : pN (x :: l) (1 + i) = (if x = 1 then 1 else 0) + pN l i := by
  unfold pN
  rw [Nat.add_comm 1 i, List.take_succ_cons]
  simp only [cnt, List.countP_cons]
  by_cases h : x = 1 <;> simp [h] <;> omega
theorem posN_spec : ∀ (l : List Int) (k : Nat), k ≤ cnt l → posN l k ≤ l.length ∧ pN l (posN l k) = k
  | l, 0, _ => by cases l <;> exact ⟨Nat.zero_le _, rfl⟩
  | [], k + 1, h => by simp [cnt] at h
  | x :: l, k + 1, h => by
    have hc : cnt (x :: l) = cnt l + (if x = 1 then 1 else 0) := by
      simp only [cnt, List.countP_cons]
      by_cases e : x = 1 <;> simp [e]
    rw [hc] at h
    rw [posN, pN_cons]
    have := posN_spec l (if x = 1 then k else k + 1) (by split at h <;> simp_all <;> omega)
    rw [List.length_cons]
    refine ⟨by omega, ?_⟩
    rw [this.2]
    split <;> omega
/-- How many of the first so many bad ones are repeated. -/
def gS (r : Rul) (l : List Int) (k : Nat) : Int := hS r l (posN l k)
theorem gS_at (r : Rul) (l : List Int) {i : Nat} (h : i ≤ l.length) : gS r l (pN l i) = hS r l i := by
  obtain ⟨h1, h2⟩ := posN_spec l (pN l i) (pN_le_cnt l i)
  unfold gS
  rcases Nat.le_total i (posN l (pN l i)) with h3 | h3
  · exact (hS_same r l h3 h1 h2.symm).symm
  · exact hS_same r l h3 h h2
theorem bad_at {l : List Int} {k : Nat} (h : k < cnt l) : ∃ i, i < l.length ∧ pN l i = k ∧ pN l (i + 1) = k + 1 := by
  obtain ⟨h1, h2⟩ := posN_spec l (k + 1) h
  have aux : ∀ n, pN l n ≥ k + 1 → ∃ i, i < n ∧ pN l i = k ∧ pN l (i + 1) = k + 1 := by
    intro n
    induction n with
    | zero => intro h; rw [pN_zero] at h; omega
    | succ n ih =>
      intro h
      by_cases e : pN l n ≥ k + 1
      · obtain ⟨i, h1, h2, h3⟩ := ih e; exact ⟨i, by omega, h2, h3⟩
      · have := pN_stepB l n
        exact ⟨n, by omega, by omega, by omega⟩
  obtain ⟨i, h3, h4, h5⟩ := aux _ (Nat.le_of_eq h2.symm)
  exact ⟨i, by omega, h4, h5⟩
theorem gS_feas {r : Rul} (hr : okRul r = true) (l : List Int) : Feas r l (gS r l) where
  zero := by have := gS_at r l (i := 0) (by omega); rw [pN_zero] at this; rw [this]; rfl
  up := fun k hk => by
    obtain ⟨i, h1, h2, h3⟩ := bad_at hk
    rw [← h2, gS_at r l (by omega), show pN l i + 1 = pN l (i + 1) from by omega, gS_at r l (by omega)]
    exact (hS_stepB h1).1
  dn := fun k hk => by
    obtain ⟨i, h1, h2, h3⟩ := bad_at hk
    rw [← h2, gS_at r l (by omega), show pN l i + 1 = pN l (i + 1) from by omega, gS_at r l (by omega)]
    exact (hS_stepB h1).2
  cl := fun c s hs => by
    have hr' := hr
    unfold okRul at hr'
    have hr' := of_decide_eq_true hr'
    have key : ∀ f t : Nat, ∀ most : Int, f ≤ t → t ≤ l.length → (pN (keepS r l) t : Int) - pN (keepS r l) f ≤ most → gS r l (pN l f) + ((pN l t : Int) - pN l f - most) ≤ gS r l (pN l t) := by
      intro f t most h1 h2 h3
      rw [gS_at r l (by omega), gS_at r l h2]
      unfold hS
      omega
    have hok : ∀ t, t < l.length → ((pN (keepS r l) (t + 1) : Int) - pN (keepS r l) (t + 1 - r.row.toNat) ≠ r.row ∧ (pN (keepS r l) (t + 1) : Int) - pN (keepS r l) (t + 1 - r.win.toNat) < r.many ∧ (pN (keepS r l) (t + 1) : Int) < r.total) :=
      fun t ht => (brkS_zero hr _ t).1 (keep_ok hr l l.length t ht)
    have z := pN_zero (keepS r l)
    unfold spanS at hs
    split at hs
    · split at hs
      · rename_i h1 h2
        cases hs
        dsimp only
        have e : (c.fr + r.row).toNat = c.fr.toNat + r.row.toNat := by omega
        rw [e]
        have h3 := (hok (c.fr.toNat + r.row.toNat - 1) (by omega)).1
        rw [show c.fr.toNat + r.row.toNat - 1 + 1 = c.fr.toNat + r.row.toNat from by omega, show c.fr.toNat + r.row.toNat - r.row.toNat = c.fr.toNat from by omega] at h3
        have h4 := (pN_mono (keepS r l) (i := c.fr.toNat) (j := c.fr.toNat + r.row.toNat) (by omega)).2
        exact key _ _ _ (by omega) (by omega) (by omega)
      · cases hs
    · split at hs
      · split at hs
        · rename_i h1 h2 h3
          cases hs
          dsimp only
          by_cases hz : l.length = 0
          · have e1 : c.fr.toNat = 0 := by omega
            have e2 : (c.fr + min r.win (l.length : Int)).toNat = 0 := by omega
            rw [e1, e2]
            exact key _ _ _ (by omega) (by omega) (by omega)
          · have e : (c.fr + min r.win (l.length : Int)).toNat = c.fr.toNat + min r.win.toNat l.length := by omega
            rw [e]
            have h4 := (hok (c.fr.toNat + min r.win.toNat l.length - 1) (by omega)).2.1
            rw [show c.fr.toNat + min r.win.toNat l.length - 1 + 1 = c.fr.toNat + min r.win.toNat l.length from by omega] at h4
            refine key _ _ _ (by omega) (by omega) ?_
            by_cases h5 : r.win.toNat ≤ l.length
            · rw [show c.fr.toNat + min r.win.toNat l.length - r.win.toNat = c.fr.toNat from by omega] at h4
              omega
            · rw [show c.fr.toNat + min r.win.toNat l.length - r.win.toNat = 0 from by omega] at h4
              rw [show c.fr.toNat = 0 from by omega] at *
              omega
        · cases hs
      · split at hs
        · split at hs
          · rename_i h1 h2 h3 h4
            cases hs
            simp only [Int.toNat_natCast, show (0 : Int).toNat = 0 from rfl]
            by_cases hz : l.length = 0
            · rw [hz]
              exact key 0 0 _ (by omega) (by omega) (by omega)
            · have h5 := (hok (l.length - 1) (by omega)).2.2
              rw [show l.length - 1 + 1 = l.length from by omega] at h5
              exact key 0 l.length _ (by omega) (by omega) (by omega)
          · cases hs
        · cases hs
/-- What holds of all claims, and is nowhere more than what is repeated greedily, is that. -/
theorem gS_only {r : Rul} (hr : okRul r = true) {l : List Int} {x : Nat → Int} (F : Feas r l x) (hx : ∀ y, Feas r l y → ∀ k ≤ cnt l, x k ≤ y k) : ∀ k ≤ cnt l, x k = gS r l k := by
  intro k hk
  have h1 := hx _ (gS_feas hr l) k hk
  obtain ⟨h2, h3⟩ := posN_spec l k hk
  have h4 := F.least hr _ _ (Nat.le_refl _) h2
  rw [h3] at h4
  unfold gS at *
  omega
end Go.Proofs.YtfengddpfeneiaaGreat
