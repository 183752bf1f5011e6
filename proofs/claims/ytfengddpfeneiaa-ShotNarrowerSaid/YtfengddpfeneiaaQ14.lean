/-
  Shots: a way within bounds, the plain laws of ShotTrue and ShotNarrower. Nothing of the program stands here.
-/
import Derived.Test.YtfengddpfeneiaaS12
namespace Go.Proofs.Ytfengddpfeneiaa
open Go.RowKit
set_option linter.unusedSimpArgs false
set_option linter.unusedVariables false

/-- Where a way within bounds is before tick t, as numbers choose it. -/
def trA (b : List Bnd) (bits : List Int) : Nat → Int
  | 0 => 0
  | t + 1 => max (trA b bits t) (b.getD t ⟨0, 0⟩).lo + restS (pickS bits (t : Int)) (highT b t - max (trA b bits t) (b.getD t ⟨0, 0⟩).lo + 1)
def truthL (b : List Bnd) (bits : List Int) : List Int := (List.range b.length).map fun t => trA b bits (t + 1)
def lessL (b : List Bnd) (bits : List Int) : List Bnd := (List.range b.length).map fun t => ⟨trA b bits (t + 1), (b.getD t ⟨0, 0⟩).hi⟩
theorem truthL_len (b : List Bnd) (bits : List Int) : (truthL b bits).length = b.length := by simp [truthL]
theorem lessL_len (b : List Bnd) (bits : List Int) : (lessL b bits).length = b.length := by simp [lessL]
theorem truthL_at (b : List Bnd) (bits : List Int) {t : Nat} (h : t < b.length) : (truthL b bits)[t]? = some (trA b bits (t + 1)) := mapRange_at _ h
theorem lessL_at (b : List Bnd) (bits : List Int) {t : Nat} (h : t < b.length) : (lessL b bits)[t]? = some ⟨trA b bits (t + 1), (b.getD t ⟨0, 0⟩).hi⟩ := mapRange_at _ h
theorem even_at {b : List Bnd} (h : okEven b = true) {t : Nat} (ht : t < b.length) : lowT b t ≤ highT b t := by
  unfold okEven at h
  exact of_decide_eq_true (List.all_eq_true.1 h t (List.mem_range.2 ht))
theorem tr_step (a lo hi n : Int) (h : max a lo ≤ hi) : max a lo ≤ max a lo + restS n (hi - max a lo + 1) ∧ max a lo + restS n (hi - max a lo + 1) ≤ hi := by
  have := restS_bd n (many := hi - max a lo + 1) (by omega)
  omega
theorem tr_in {b : List Bnd} (bits : List Int) (h1 : b.all okDist = true) (h2 : okEven b = true) : ∀ t, t < b.length → 0 ≤ trA b bits t ∧ max (trA b bits t) (b.getD t ⟨0, 0⟩).lo ≤ highT b t ∧ lowT b t ≤ max (trA b bits t) (b.getD t ⟨0, 0⟩).lo
  | 0, ht => by
    have e := even_at h2 ht
    have d := okDists_bd h1 0
    rw [lowT] at e ⊢
    rw [trA]
    omega
  | t + 1, ht => by
    have ih := tr_in bits h1 h2 t (by omega)
    have s := tr_step (trA b bits t) (b.getD t ⟨0, 0⟩).lo (highT b t) (pickS bits (t : Int)) ih.2.1
    have e := even_at h2 ht
    have d := okDists_bd h1 t
    have p := highT_prev (b := b) (t := t) ht
    rw [lowT] at e ⊢
    have e1 : trA b bits (t + 1) = max (trA b bits t) (b.getD t ⟨0, 0⟩).lo + restS (pickS bits (t : Int)) (highT b t - max (trA b bits t) (b.getD t ⟨0, 0⟩).lo + 1) := rfl
    rw [← e1] at s
    omega
theorem tr_at {b : List Bnd} (bits : List Int) (h1 : b.all okDist = true) (h2 : okEven b = true) {t : Nat} (ht : t < b.length) : 0 ≤ trA b bits t ∧ trA b bits t ≤ trA b bits (t + 1) ∧ lowT b t ≤ trA b bits (t + 1) ∧ trA b bits (t + 1) ≤ highT b t ∧ (b.getD t ⟨0, 0⟩).lo ≤ trA b bits (t + 1) := by
  have i := tr_in bits h1 h2 t ht
  have s := tr_step (trA b bits t) (b.getD t ⟨0, 0⟩).lo (highT b t) (pickS bits (t : Int)) i.2.1
  have e1 : trA b bits (t + 1) = max (trA b bits t) (b.getD t ⟨0, 0⟩).lo + restS (pickS bits (t : Int)) (highT b t - max (trA b bits t) (b.getD t ⟨0, 0⟩).lo + 1) := rfl
  rw [← e1] at s
  omega
theorem okDists_is {b : List Bnd} (h : okDists b = true) : (1 ≤ b.length ∧ b.length ≤ 512) ∧ b.all okDist = true := by
  unfold okDists at h
  rw [Bool.and_eq_true, decide_eq_true_eq] at h
  exact h
theorem truth_way {b : List Bnd} (bits : List Int) (h0 : okDists b = true) (h2 : okEven b = true) : okWay (truthL b bits) = true := by
  obtain ⟨hl, h1⟩ := okDists_is h0
  unfold okWay
  rw [truthL_len, decide_eq_true hl, Bool.true_and, Bool.and_eq_true]
  constructor
  · refine sorted_of fun i x y hx hy => ?_
    have hj := (List.getElem?_eq_some_iff.1 hy).1
    rw [truthL_len] at hj
    rw [truthL_at b bits (by omega)] at hx
    rw [truthL_at b bits hj] at hy
    cases hx; cases hy
    exact (tr_at bits h1 h2 hj).2.1
  · rw [List.all_eq_true]
    intro x hx
    obtain ⟨i, hi⟩ := List.mem_iff_getElem?.1 hx
    have hj := (List.getElem?_eq_some_iff.1 hi).1
    rw [truthL_len] at hj
    rw [truthL_at b bits hj] at hi
    cases hi
    have := tr_at bits h1 h2 hj
    have := highT_bd h1 i
    exact decide_eq_true ⟨by omega, by omega⟩
theorem reachS_spec : ∀ (l : List Int) (far : Int) (k : Nat), (reachS l far k = -1 ∧ ∀ (i : Nat) (x : Int), l[i]? = some x → x < far) ∨ ∃ (i : Nat) (x : Int), reachS l far k = ((k + i : Nat) : Int) ∧ l[i]? = some x ∧ far ≤ x ∧ ∀ (j : Nat) (y : Int), j < i → l[j]? = some y → y < far
  | [], far, k => .inl ⟨rfl, fun i x h => by simp at h⟩
  | z :: l, far, k => by
    rw [reachS]
    by_cases h : far ≤ z
    · rw [if_pos h]
      exact .inr ⟨0, z, rfl, rfl, h, fun j y hj => by omega⟩
    · rw [if_neg h]
      rcases reachS_spec l far (k + 1) with ⟨e, ha⟩ | ⟨i, x, e, hx, hf, ha⟩
      · refine .inl ⟨e, fun i x hx => ?_⟩
        cases i with
        | zero => simp at hx; omega
        | succ i => exact ha i x (by simpa using hx)
      · refine .inr ⟨i + 1, x, by rw [e]; congr 1; omega, by simpa using hx, hf, fun j y hj hy => ?_⟩
        cases j with
        | zero => simp at hy; omega
        | succ j => exact ha j y (by omega) (by simpa using hy)
theorem reach_mono {xs ys : List Int} (hl : xs.length = ys.length) (h : ∀ (i : Nat) (x y : Int), xs[i]? = some x → ys[i]? = some y → x ≤ y) {f g : Int} (hfg : f ≤ g) :
    reachS xs g 0 = -1 ∨ (0 ≤ reachS ys f 0 ∧ reachS ys f 0 ≤ reachS xs g 0) := by
  rcases reachS_spec xs g 0 with ⟨e, _⟩ | ⟨i, x, e, hx, hf, _⟩
  · exact .inl e
  · right
    have hi := (List.getElem?_eq_some_iff.1 hx).1
    obtain ⟨y, hy⟩ := some_of_lt hl.symm hi
    have hxy := h i x y hx hy
    rcases reachS_spec ys f 0 with ⟨e2, ha⟩ | ⟨j, z, e2, hz, hf2, ha⟩
    · have := ha i y hy; omega
    · rw [e, e2]
      by_cases hij : i < j
      · have := ha i y hij hy; omega
      · omega
theorem dueS_mono {f : Fir} (h : firOk f) {m n : Nat} (hmn : m ≤ n) : dueS f m ≤ dueS f n := by
  unfold dueS
  have := Int.mul_le_mul_of_nonneg_right (show (m : Int) ≤ (n : Int) by omega) (show 0 ≤ f.every by unfold firOk at h; omega)
  omega
theorem tick_mono {f : Fir} (h : firOk f) (l : List Int) {m n : Nat} (hmn : m ≤ n) : tickS f l n = -1 ∨ (0 ≤ tickS f l m ∧ tickS f l m ≤ tickS f l n) :=
  reach_mono rfl (fun i x y hx hy => by rw [hx] at hy; cases hy; exact Int.le_refl _) (dueS_mono h hmn)
theorem tick_bd (f : Fir) (l : List Int) (n : Nat) : -1 ≤ tickS f l n ∧ tickS f l n < l.length := by have := reachS_bd l (dueS f n) 0; unfold tickS; omega
theorem tick_lo {f : Fir} {b : List Bnd} (bits : List Int) (h1 : b.all okDist = true) (h2 : okEven b = true) (n : Nat) : tickS f (truthL b bits) n = -1 ∨ (0 ≤ (timeS f b n).lo ∧ (timeS f b n).lo ≤ tickS f (truthL b bits) n) := by
  refine reach_mono (by rw [truthL_len, highsL_len]) (fun i x y hx hy => ?_) (Int.le_refl _)
  have hj := (List.getElem?_eq_some_iff.1 hx).1
  rw [truthL_len] at hj
  rw [truthL_at b bits hj] at hx
  rw [highsL_at b hj] at hy
  cases hx; cases hy
  exact (tr_at bits h1 h2 hj).2.2.2.1
theorem tick_hi {f : Fir} {b : List Bnd} (bits : List Int) (h1 : b.all okDist = true) (h2 : okEven b = true) (n : Nat) : (timeS f b n).hi = -1 ∨ (0 ≤ tickS f (truthL b bits) n ∧ tickS f (truthL b bits) n ≤ (timeS f b n).hi) := by
  refine reach_mono (by rw [truthL_len, lowsL_len]) (fun i x y hx hy => ?_) (Int.le_refl _)
  have hj := (List.getElem?_eq_some_iff.1 hx).1
  rw [lowsL_len] at hj
  rw [truthL_at b bits hj] at hy
  rw [lowsL_at b hj] at hx
  cases hx; cases hy
  exact (tr_at bits h1 h2 hj).2.2.1
theorem timeS_lo (f : Fir) (b : List Bnd) (n : Nat) : -1 ≤ (timeS f b n).lo ∧ (timeS f b n).lo < b.length := by have := reachS_bd (highsL b) (dueS f n) 0; rw [highsL_len] at this; unfold timeS; dsimp only; omega
theorem timeS_hi (f : Fir) (b : List Bnd) (n : Nat) : -1 ≤ (timeS f b n).hi ∧ (timeS f b n).hi < b.length := by have := reachS_bd (lowsL b) (dueS f n) 0; rw [lowsL_len] at this; unfold timeS; dsimp only; omega
theorem true_sure {f : Fir} (hf : firOk f) {b : List Bnd} (bits : List Int) (h1 : b.all okDist = true) (h2 : okEven b = true) (n : Nat) (h : sureS f b n = true) : weakS f (truthL b bits) n = true := by
  unfold sureS at h
  unfold weakS
  simp only [Bool.and_eq_true, decide_eq_true_eq, Bool.not_eq_true', decide_eq_false_iff_not] at h ⊢
  obtain ⟨⟨a1, a2⟩, a3⟩ := h
  have c1 := tick_hi (f := f) bits h1 h2 n
  have c2 := tick_lo (f := f) bits h1 h2 (n - f.srcs.toNat)
  have c3 := tick_mono hf (truthL b bits) (show n - f.srcs.toNat ≤ n by omega)
  omega
theorem true_may {f : Fir} (hf : firOk f) {b : List Bnd} (bits : List Int) (h1 : b.all okDist = true) (h2 : okEven b = true) (n : Nat) (h : weakS f (truthL b bits) n = true) : mayS f b n = true := by
  unfold weakS at h
  unfold mayS
  simp only [Bool.and_eq_true, Bool.or_eq_true, decide_eq_true_eq, Bool.not_eq_true', decide_eq_false_iff_not] at h ⊢
  obtain ⟨⟨a1, a2⟩, a3⟩ := h
  have c1 := tick_hi (f := f) bits h1 h2 (n - f.srcs.toNat)
  have c2 := tick_lo (f := f) bits h1 h2 n
  have c3 := tick_mono hf (truthL b bits) (show n - f.srcs.toNat ≤ n by omega)
  omega
/-- All that ShotTrue asks of shot n. -/
theorem true_said {f : Fir} (hf : firOk f) {b : List Bnd} (bits : List Int) (h0 : okDists b = true) (h2 : okEven b = true) (n : Nat) :
    (tickS f (truthL b bits) n < 0 → (timeS f b n).hi < 0) ∧ (0 ≤ tickS f (truthL b bits) n → 0 ≤ (timeS f b n).lo ∧ (timeS f b n).lo ≤ tickS f (truthL b bits) n ∧ (0 ≤ (timeS f b n).hi → tickS f (truthL b bits) n ≤ (timeS f b n).hi)) ∧ (sureS f b n = true → weakS f (truthL b bits) n = true) ∧ (weakS f (truthL b bits) n = true → mayS f b n = true) ∧ (0 ≤ tickS f (truthL b bits) n → tickS f (truthL b bits) (n - 1) ≤ tickS f (truthL b bits) n) := by
  have h1 := (okDists_is h0).2
  have c1 := tick_hi (f := f) bits h1 h2 n
  have c2 := tick_lo (f := f) bits h1 h2 n
  have c3 := tick_mono hf (truthL b bits) (show n - 1 ≤ n by omega)
  have c4 := timeS_hi f b n
  refine ⟨fun h => by omega, fun h => by omega, true_sure hf bits h1 h2 n, true_may hf bits h1 h2 n, fun h => by omega⟩
/-! narrower bounds -/
theorem less_low {b : List Bnd} (bits : List Int) (h1 : b.all okDist = true) (h2 : okEven b = true) : ∀ t, t < b.length → lowT (lessL b bits) t = trA b bits (t + 1)
  | 0, ht => by rw [lowT, List.getD_eq_getElem?_getD, lessL_at b bits ht]; rfl
  | t + 1, ht => by
    have ih := less_low bits h1 h2 t (by omega)
    have := tr_at bits h1 h2 ht
    rw [lowT, ih, List.getD_eq_getElem?_getD, lessL_at b bits ht]
    simp only [Option.getD_some]
    omega
theorem less_getD (b : List Bnd) (bits : List Int) {t : Nat} (ht : t < b.length) : ((lessL b bits).getD t ⟨0, 0⟩) = ⟨trA b bits (t + 1), (b.getD t ⟨0, 0⟩).hi⟩ := by rw [List.getD_eq_getElem?_getD, lessL_at b bits ht]; rfl
theorem less_high (b : List Bnd) (bits : List Int) : ∀ k t, t + k + 1 = b.length → highT (lessL b bits) t = highT b t
  | 0, t, ht => by rw [highT_last (by rw [lessL_len]; exact ht), highT_last (by exact ht), less_getD b bits (by omega)]
  | k + 1, t, ht => by rw [highT_prev (b := lessL b bits) (t := t) (by rw [lessL_len]; omega), highT_prev (b := b) (t := t) (by omega), less_high b bits k (t + 1) (by omega), less_getD b bits (by omega)]
theorem less_lows {b : List Bnd} (bits : List Int) (h1 : b.all okDist = true) (h2 : okEven b = true) : lowsL (lessL b bits) = truthL b bits := by
  unfold lowsL truthL
  rw [lessL_len]
  refine List.map_congr_left fun t ht => less_low bits h1 h2 t (List.mem_range.1 ht)
theorem less_highs (b : List Bnd) (bits : List Int) : highsL (lessL b bits) = highsL b := by
  unfold highsL
  rw [lessL_len]
  refine List.map_congr_left fun t ht => ?_
  have := List.mem_range.1 ht
  exact less_high b bits (b.length - t - 1) t (by omega)
theorem less_dists {b : List Bnd} (bits : List Int) (h0 : okDists b = true) (h2 : okEven b = true) : okDists (lessL b bits) = true := by
  obtain ⟨hl, h1⟩ := okDists_is h0
  unfold okDists
  rw [lessL_len, decide_eq_true hl, Bool.true_and, List.all_eq_true]
  intro x hx
  obtain ⟨i, hi⟩ := List.mem_iff_getElem?.1 hx
  have hj := (List.getElem?_eq_some_iff.1 hi).1
  rw [lessL_len] at hj
  rw [lessL_at b bits hj] at hi
  cases hi
  have c1 := tr_at bits h1 h2 hj
  have c2 := okDists_bd h1 i
  have c3 : highT b i ≤ (b.getD i ⟨0, 0⟩).hi := by
    by_cases e : i + 1 = b.length
    · rw [highT_last e]; exact Int.le_refl _
    · rw [highT_prev (by omega)]; omega
  exact decide_eq_true ⟨by dsimp only; omega, by dsimp only; omega, by dsimp only; omega⟩
theorem less_even {b : List Bnd} (bits : List Int) (h0 : okDists b = true) (h2 : okEven b = true) : okEven (lessL b bits) = true := by
  obtain ⟨hl, h1⟩ := okDists_is h0
  unfold okEven
  rw [lessL_len, List.all_eq_true]
  intro t ht
  have ht := List.mem_range.1 ht
  rw [less_low bits h1 h2 t ht, less_high b bits (b.length - t - 1) t (by omega)]
  exact decide_eq_true (tr_at bits h1 h2 ht).2.2.2.1
theorem errT_ok {f : Fir} {b : List Bnd} (h : errT f b = 0) : okFir f = true ∧ okDists b = true ∧ okEven b = true := by
  unfold errT at h
  split at h
  · split at h
    · split at h
      · exact ⟨by assumption, by assumption, by assumption⟩
      · cases h
    · cases h
  · cases h
theorem errT_mk {f : Fir} {b : List Bnd} (h1 : okFir f = true) (h2 : okDists b = true) (h3 : okEven b = true) : errT f b = 0 := by unfold errT; rw [if_pos h1, if_pos h2, if_pos h3]
theorem less_time {f : Fir} {b : List Bnd} (bits : List Int) (h0 : okDists b = true) (h2 : okEven b = true) (n : Nat) : timeS f (lessL b bits) n = ⟨(timeS f b n).lo, tickS f (truthL b bits) n⟩ := by
  unfold timeS tickS
  rw [less_highs, less_lows bits (okDists_is h0).2 h2]
/-- All that ShotNarrower asks of shot n. -/
theorem less_said {f : Fir} (hf : firOk f) {b : List Bnd} (bits : List Int) (h0 : okDists b = true) (h2 : okEven b = true) (n : Nat) :
    (timeS f (lessL b bits) n).lo = (timeS f b n).lo ∧ (0 ≤ (timeS f b n).hi → 0 ≤ (timeS f (lessL b bits) n).hi ∧ (timeS f (lessL b bits) n).hi ≤ (timeS f b n).hi) ∧ (sureS f b n = true → sureS f (lessL b bits) n = true) ∧ (mayS f (lessL b bits) n = true → mayS f b n = true) := by
  have h1 := (okDists_is h0).2
  have c1 := tick_hi (f := f) bits h1 h2 n
  have c2 := tick_hi (f := f) bits h1 h2 (n - f.srcs.toNat)
  have c3 := timeS_hi f b n
  have c4 := timeS_hi f b (n - f.srcs.toNat)
  have c5 := tick_bd f (truthL b bits) n
  have c6 := tick_bd f (truthL b bits) (n - f.srcs.toNat)
  have e := less_time (f := f) bits h0 h2
  refine ⟨by rw [e], by rw [e]; dsimp only; omega, fun h => ?_, fun h => ?_⟩
  · unfold sureS at h ⊢
    rw [e, e]
    simp only [Bool.and_eq_true, decide_eq_true_eq, Bool.not_eq_true', decide_eq_false_iff_not] at h ⊢
    omega
  · unfold mayS at h ⊢
    rw [e, e] at h
    simp only [Bool.and_eq_true, Bool.or_eq_true, decide_eq_true_eq, Bool.not_eq_true', decide_eq_false_iff_not] at h ⊢
    omega
end Go.Proofs.Ytfengddpfeneiaa
