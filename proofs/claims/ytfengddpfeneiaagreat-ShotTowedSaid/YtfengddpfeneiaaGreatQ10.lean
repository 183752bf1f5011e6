/-
  The delays one after the other, the plain laws. Nothing of the program stands here.
-/
import Derived.Test.YtfengddpfeneiaaGreatQ2
import Derived.Test.YtfengddpfeneiaaGreatQ5
namespace Go.Proofs.YtfengddpfeneiaaGreat
open Go.RowKit
set_option linter.unusedSimpArgs false
set_option linter.unusedVariables false

def lowsD (gs : List Gun) : List Int := gs.map (·.late.lo)
theorem lowsD_len (gs : List Gun) : (lowsD gs).length = gs.length := by simp [lowsD]
theorem lowsD_at {gs : List Gun} {i : Nat} {g : Gun} (h : gs[i]? = some g) : (lowsD gs)[i]? = some g.late.lo := by unfold lowsD; rw [List.getElem?_map, h]; rfl
/-- From p on none can be raised. -/
def topFrom (gs : List Gun) (l : List Int) (p : Nat) : Prop := ∀ (j : Nat) (g : Gun) (d : Int), p ≤ j → gs[j]? = some g → l[j]? = some d → ¬ d < g.late.hi
theorem nextD_miss : ∀ (gs : List Gun) (l : List Int), topFrom gs l 0 → nextD gs l = none
  | [], l, _ => by cases l <;> rfl
  | g :: gs, [], _ => rfl
  | g :: gs, d :: l, h => by
    rw [nextD, nextD_miss gs l (fun j g' d' hj h1 h2 => h (j + 1) g' d' (by omega) (by simpa using h1) (by simpa using h2))]
    dsimp only
    rw [if_neg (h 0 g d (Nat.le_refl _) rfl rfl)]
theorem nextD_hit : ∀ (gs : List Gun) (l : List Int) (i : Nat) (g : Gun) (d : Int), gs[i]? = some g → l[i]? = some d → d < g.late.hi → topFrom gs l (i + 1) → nextD gs l = some (l.take i ++ (d + 1) :: (lowsD gs).drop (i + 1))
  | [], l, i, g, d, h, _, _, _ => by simp at h
  | g0 :: gs, [], i, g, d, _, h, _, _ => by simp at h
  | g0 :: gs, d0 :: l, 0, g, d, h1, h2, h3, h4 => by
    simp at h1 h2
    subst h1; subst h2
    rw [nextD, nextD_miss gs l (fun j g' d' hj h1 h2 => h4 (j + 1) g' d' (by omega) (by simpa using h1) (by simpa using h2))]
    dsimp only
    rw [if_pos h3]
    rfl
  | g0 :: gs, d0 :: l, i + 1, g, d, h1, h2, h3, h4 => by
    rw [nextD, nextD_hit gs l i g d (by simpa using h1) (by simpa using h2) h3 (fun j g' d' hj h5 h6 => h4 (j + 1) g' d' (by omega) (by simpa using h5) (by simpa using h6))]
    rfl
def inD (gs : List Gun) (l : List Int) : Prop := l.length = gs.length ∧ ∀ (j : Nat) (g : Gun) (d : Int), gs[j]? = some g → l[j]? = some d → g.late.lo ≤ d ∧ d ≤ g.late.hi
theorem allD_in : ∀ (gs : List Gun) (l : List Int), l ∈ allD gs → inD gs l
  | [], l, h => by
    simp [allD] at h
    subst h
    exact ⟨rfl, fun j g d h1 => by simp at h1⟩
  | g :: gs, l, h => by
    simp only [allD, List.mem_flatMap, List.mem_range, List.mem_map] at h
    obtain ⟨k, hk, r, hr, rfl⟩ := h
    obtain ⟨h1, h2⟩ := allD_in gs r hr
    refine ⟨by simp [h1], fun j g' d h3 h4 => ?_⟩
    cases j with
    | zero =>
      simp at h3 h4
      subst h3; subst h4
      unfold widS at hk
      omega
    | succ j => exact h2 j g' d (by simpa using h3) (by simpa using h4)
/-- Some as they are, the others at their least. -/
def mixD (gs : List Gun) (l : List Int) (p : Nat) : List Int := l.take p ++ (lowsD gs).drop p
theorem mixD_all {gs : List Gun} {l : List Int} (h : l.length = gs.length) : mixD gs l gs.length = l := by
  unfold mixD
  rw [List.take_of_length_le (by omega), List.drop_of_length_le (by rw [lowsD_len]; omega), List.append_nil]
theorem mixD_zero (gs : List Gun) (l : List Int) : mixD gs l 0 = lowsD gs := by simp [mixD]
theorem mixD_len {gs : List Gun} {l : List Int} (h : l.length = gs.length) {p : Nat} (hp : p ≤ gs.length) : (mixD gs l p).length = gs.length := by
  unfold mixD; rw [List.length_append, List.length_take, List.length_drop, lowsD_len]; omega
theorem mixD_at {gs : List Gun} {l : List Int} (h : l.length = gs.length) {p : Nat} (hp : p < gs.length) {d : Int} (hd : l[p]? = some d) : (mixD gs l (p + 1))[p]? = some d := by
  unfold mixD
  rw [List.getElem?_append_left (by rw [List.length_take]; omega), List.getElem?_take_of_lt (by omega), hd]
theorem mixD_lower {gs : List Gun} {l : List Int} (h : l.length = gs.length) {p : Nat} {g : Gun} (hg : gs[p]? = some g) : (mixD gs l (p + 1)).set p g.late.lo = mixD gs l p := by
  have hp := (List.getElem?_eq_some_iff.1 hg).1
  refine List.ext_getElem? fun i => ?_
  rw [List.getElem?_set]
  by_cases hi : p = i
  · subst hi
    rw [if_pos rfl, if_pos (by rw [mixD_len h (by omega)]; exact hp)]
    unfold mixD
    rw [List.getElem?_append_right (by rw [List.length_take]; omega), List.length_take, List.getElem?_drop, show p + (p - min p l.length) = p by omega]
    exact (lowsD_at hg).symm
  · rw [if_neg hi]
    unfold mixD
    by_cases hlt : i < p
    · rw [List.getElem?_append_left (by rw [List.length_take]; omega), List.getElem?_append_left (by rw [List.length_take]; omega), List.getElem?_take_of_lt (by omega), List.getElem?_take_of_lt (by omega)]
    · rw [List.getElem?_append_right (by rw [List.length_take]; omega), List.getElem?_append_right (by rw [List.length_take]; omega), List.length_take, List.length_take, List.getElem?_drop, List.getElem?_drop]
      congr 1; omega
theorem mixD_raise {gs : List Gun} {l : List Int} (h : l.length = gs.length) {p : Nat} (hp : p < gs.length) (d : Int) : (mixD gs l (p + 1)).set p (d + 1) = l.take p ++ (d + 1) :: (lowsD gs).drop (p + 1) := by
  refine List.ext_getElem? fun i => ?_
  rw [List.getElem?_set]
  by_cases hi : p = i
  · subst hi
    rw [if_pos rfl, if_pos (by rw [mixD_len h (by omega)]; exact hp), List.getElem?_append_right (by rw [List.length_take]; omega), List.length_take, show p - min p l.length = 0 by omega]
    rfl
  · rw [if_neg hi]
    unfold mixD
    by_cases hlt : i < p
    · rw [List.getElem?_append_left (by rw [List.length_take]; omega), List.getElem?_append_left (by rw [List.length_take]; omega), List.getElem?_take_of_lt (by omega), List.getElem?_take_of_lt (by omega)]
    · rw [List.getElem?_append_right (by rw [List.length_take]; omega), List.getElem?_append_right (by rw [List.length_take]; omega), List.length_take, List.length_take, show i - min p l.length = (i - min (p + 1) l.length) + 1 by omega, List.getElem?_cons_succ]
theorem topFrom_step {gs : List Gun} {l : List Int} {p : Nat} {g : Gun} {d : Int} (h : topFrom gs l (p + 1)) (hg : gs[p]? = some g) (hd : l[p]? = some d) (hn : ¬ d < g.late.hi) : topFrom gs l p := by
  intro j g' d' hj h1 h2
  by_cases e : j = p
  · subst e
    rw [hg] at h1; rw [hd] at h2
    cases h1; cases h2
    exact hn
  · exact h j g' d' (by omega) h1 h2
theorem topFrom_len {gs : List Gun} {l : List Int} {p : Nat} (h : gs.length ≤ p) : topFrom gs l p := fun j g d hj h1 _ => by
  have := (List.getElem?_eq_some_iff.1 h1).1
  omega
theorem inD_del {gs : List Gun} {l : List Int} (h : inD gs l) (hg : ∀ g ∈ gs, -16 ≤ g.late.lo ∧ g.late.hi ≤ 16) : ∀ k : Nat, -16 ≤ l.getD k 0 ∧ l.getD k 0 ≤ 16 := by
  intro k
  rw [List.getD_eq_getElem?_getD]
  by_cases hk : k < l.length
  · have hk2 : k < gs.length := by have := h.1; omega
    have h1 := h.2 k _ _ (List.getElem?_eq_getElem hk2) (List.getElem?_eq_getElem hk)
    have h2 := hg _ (List.getElem_mem hk2)
    rw [List.getElem?_eq_getElem hk]
    simp only [Option.getD_some]
    omega
  · rw [List.getElem?_eq_none (by omega)]
    simp
theorem manyTo_len (a : Arr) : (allD a.gs).length = manyTo a a.gs.length := by
  have key : ∀ gs : List Gun, ∀ n, (∀ k, k < gs.length → a.gs.getD (n + k) gun0 = gs.getD k gun0) → manyTo a n * (allD gs).length = manyTo a (n + gs.length) := by
    intro gs
    induction gs with
    | nil => intro n _; simp [allD]
    | cons g gs ih =>
      intro n h
      rw [allD_cons_len, ← Nat.mul_assoc]
      have h0 := h 0 (by simp)
      simp at h0
      have e : manyTo a n * widS g = manyTo a (n + 1) := by rw [manyTo]; congr 2; rw [List.getD_eq_getElem?_getD]; exact h0.symm
      rw [e, ih (n + 1) (fun k hk => by have := h (k + 1) (by simp; omega); simp at this; rw [show n + 1 + k = n + (k + 1) by omega]; simpa using this)]
      congr 1
      simp; omega
  have := key a.gs 0 (fun k hk => by rw [Nat.zero_add])
  rw [Nat.zero_add] at this
  rw [← this, manyTo, Nat.one_mul]
end Go.Proofs.YtfengddpfeneiaaGreat
