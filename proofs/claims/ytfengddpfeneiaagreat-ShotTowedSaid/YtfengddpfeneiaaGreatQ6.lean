/-
  Further bad shots, the plain law of the table of states: what the rounds over a table of the most bad ones so far come to. Nothing of the program stands here.
-/
import Derived.Test.YtfengddpfeneiaaGreatQ4
namespace Go.Proofs.YtfengddpfeneiaaGreat
open Go.RowKit
set_option linter.unusedSimpArgs false
set_option linter.unusedVariables false

/-- A table: by the state, the most bad ones so far. -/
abbrev Tab := Nat → Option Nat
def putMax (g : Tab) (t u : Nat) : Tab := fun t' => if t' = t then some (match g t with | some o => max o u | none => u) else g t'
def stepT (r : Rul) (left s v x : Nat) (g : Tab) : Tab := if mayBe r (nextS s x) = true ∧ v + x ≤ left then putMax g (nextS s x) (v + x) else g
/-- After the first k of the two results. -/
def stepsT (r : Rul) (left s v : Nat) (g : Tab) : Nat → Tab
  | 0 => g
  | k + 1 => stepT r left s v k (stepsT r left s v g k)
structure GoodT (r : Rul) (left best n : Nat) (g : Tab) : Prop where
  ok : ∀ t u, g t = some u → t < 4096 ∧ mayBe r t = true ∧ u ≤ left ∧ topS r left n t u ≤ best
structure MostT (r : Rul) (left best n : Nat) (f : Tab) : Prop extends GoodT r left best n f where
  hit : ∃ s v, f s = some v ∧ topS r left n s v = best
def SeenT (r : Rul) (left : Nat) (f : Tab) (lf : Nat → Bool) (g : Tab) : Prop :=
  ∀ s v x, f s = some v → lf s = false → x < 2 → mayBe r (nextS s x) = true → v + x ≤ left → ∃ u, g (nextS s x) = some u ∧ v + x ≤ u
theorem nextS_lt (s x : Nat) : nextS s x < 4096 := by unfold nextS; omega
theorem putMax_same (g : Tab) (t u : Nat) : ∃ o, putMax g t u t = some o ∧ u ≤ o := by
  unfold putMax
  rw [if_pos rfl]
  split
  · exact ⟨_, rfl, by omega⟩
  · exact ⟨_, rfl, by omega⟩
theorem putMax_up {g : Tab} {t u t' o : Nat} (h : g t' = some o) : ∃ o', putMax g t u t' = some o' ∧ o ≤ o' := by
  unfold putMax
  by_cases e : t' = t
  · subst e
    rw [if_pos rfl, h]
    exact ⟨_, rfl, Nat.le_max_left _ _⟩
  · rw [if_neg e]; exact ⟨o, h, Nat.le_refl _⟩
theorem stepT_up {r : Rul} {left s v x : Nat} {g : Tab} {t o : Nat} (h : g t = some o) : ∃ o', stepT r left s v x g t = some o' ∧ o ≤ o' := by
  unfold stepT
  split
  · exact putMax_up h
  · exact ⟨o, h, Nat.le_refl _⟩
theorem mostT_start (r : Rul) {left n s : Nat} (hs : s < 4096) (hm : mayBe r s = true) : MostT r left (bestS r n s left) n (fun t => if t = s then some 0 else none) where
  ok t u h := by
    split at h
    · rename_i e; subst e; cases h
      exact ⟨hs, hm, Nat.zero_le _, by unfold topS; rw [Nat.sub_zero, Nat.zero_add]; exact Nat.le_refl _⟩
    · cases h
  hit := ⟨s, 0, by simp, by unfold topS; simp⟩
theorem goodT_none (r : Rul) (left best n : Nat) : GoodT r left best n (fun _ => none) := ⟨fun t u h => by cases h⟩
theorem seenT_start (r : Rul) (left : Nat) {f : Tab} {lf : Nat → Bool} (h : ∀ s v, f s = some v → lf s = true) (g : Tab) : SeenT r left f lf g := fun s v x hf hl => by rw [h s v hf] at hl; cases hl
theorem topS_next {r : Rul} (hr : okRul r = true) {left n s v x best : Nat} (hx : x < 2) (hs : mayBe r s = true) (hv : v ≤ left) (hb : topS r left (n + 1) s v ≤ best) (hm : mayBe r (nextS s x) = true) (hl : v + x ≤ left) : topS r left n (nextS s x) (v + x) ≤ best := by
  rcases topS_succ r left n s v with h | h
  · rw [h] at hb
    obtain rfl | rfl : x = 0 ∨ x = 1 := by omega
    · rw [Nat.add_zero]; omega
    · rw [if_pos ⟨hm, hl⟩] at hb; omega
  · exact absurd hv h
theorem goodT_step {r : Rul} (hr : okRul r = true) {left best n s v x : Nat} {g : Tab} (hg : GoodT r left best n g) (hx : x < 2) (hs : mayBe r s = true) (hv : v ≤ left) (hb : topS r left (n + 1) s v ≤ best) : GoodT r left best n (stepT r left s v x g) := by
  refine ⟨fun t u h => ?_⟩
  unfold stepT at h
  split at h
  · rename_i hc
    unfold putMax at h
    split at h
    · rename_i e
      subst e
      have h1 := topS_next (n := n) hr hx hs hv hb hc.1 hc.2
      split at h
      · rename_i o ho
        cases h
        have h2 := hg.ok _ o ho
        refine ⟨nextS_lt _ _, hc.1, by omega, ?_⟩
        rcases Nat.le_total o (v + x) with h3 | h3
        · rw [Nat.max_eq_right h3]; exact h1
        · rw [Nat.max_eq_left h3]; exact h2.2.2.2
      · cases h
        exact ⟨nextS_lt _ _, hc.1, hc.2, h1⟩
    · exact hg.ok t u h
  · exact hg.ok t u h
theorem stepsT_up {r : Rul} {left s v : Nat} {g : Tab} {t o : Nat} (h : g t = some o) : ∀ k, ∃ o', stepsT r left s v g k t = some o' ∧ o ≤ o'
  | 0 => ⟨o, h, Nat.le_refl _⟩
  | k + 1 => by
    obtain ⟨o1, h1, h2⟩ := stepsT_up (r := r) (left := left) (s := s) (v := v) h k
    obtain ⟨o2, h3, h4⟩ := stepT_up (r := r) (left := left) (s := s) (v := v) (x := k) h1
    exact ⟨o2, h3, by omega⟩
theorem goodT_steps {r : Rul} (hr : okRul r = true) {left best n s v : Nat} {g : Tab} (hg : GoodT r left best n g) (hs : mayBe r s = true) (hv : v ≤ left) (hb : topS r left (n + 1) s v ≤ best) : ∀ k, k ≤ 2 → GoodT r left best n (stepsT r left s v g k)
  | 0, _ => hg
  | k + 1, h => goodT_step hr (goodT_steps hr hg hs hv hb k (by omega)) (by omega) hs hv hb
theorem stepsT_hit {r : Rul} {left s v : Nat} (g : Tab) {x : Nat} (hx : x < 2) (hm : mayBe r (nextS s x) = true) (hl : v + x ≤ left) : ∃ u, stepsT r left s v g 2 (nextS s x) = some u ∧ v + x ≤ u := by
  obtain rfl | rfl : x = 0 ∨ x = 1 := by omega
  · have h1 : stepsT r left s v g 1 = putMax g (nextS s 0) (v + 0) := by
      show stepT r left s v 0 g = _
      unfold stepT; rw [if_pos ⟨hm, hl⟩]
    obtain ⟨o, h2, h3⟩ := putMax_same g (nextS s 0) (v + 0)
    rw [← h1] at h2
    obtain ⟨o', h4, h5⟩ := stepT_up (r := r) (left := left) (s := s) (v := v) (x := 1) h2
    exact ⟨o', h4, by omega⟩
  · have h1 : stepsT r left s v g 2 = putMax (stepsT r left s v g 1) (nextS s 1) (v + 1) := by
      show stepT r left s v 1 _ = _
      unfold stepT; rw [if_pos ⟨hm, hl⟩]
    rw [h1]
    exact putMax_same _ _ _
theorem seenT_step {r : Rul} {left : Nat} {f : Tab} {lf lf' : Nat → Bool} {g : Tab} {s v : Nat} (h : SeenT r left f lf g) (hf : f s = some v) (hlf : ∀ t, lf' t = (lf t && !decide (t = s))) : SeenT r left f lf' (stepsT r left s v g 2) := by
  intro t u x h1 h2 h3 h4 h5
  rw [hlf] at h2
  by_cases e : t = s
  · subst e
    obtain rfl : u = v := Option.some.inj (h1.symm.trans hf)
    exact stepsT_hit g h3 h4 h5
  · have h2' : lf t = false := by simpa [e] using h2
    obtain ⟨o, h6, h7⟩ := h t u x h1 h2' h3 h4 h5
    obtain ⟨o', h8, h9⟩ := stepsT_up (r := r) (left := left) (s := s) (v := v) h6 2
    exact ⟨o', h8, by omega⟩
theorem mostT_next {r : Rul} (hr : okRul r = true) {left best n : Nat} {f g : Tab} {lf : Nat → Bool} (hf : MostT r left best (n + 1) f) (hg : GoodT r left best n g) (hs : SeenT r left f lf g) (hl : ∀ s v, f s = some v → lf s = false) : MostT r left best n g where
  toGoodT := hg
  hit := by
    obtain ⟨s, v, h1, h2⟩ := hf.hit
    obtain ⟨h3, h4, h5, h6⟩ := hf.ok s v h1
    have key : ∀ x, x < 2 → mayBe r (nextS s x) = true → v + x ≤ left → topS r left n (nextS s x) (v + x) = best → ∃ t u, g t = some u ∧ topS r left n t u = best := by
      intro x hx hm hl2 he
      obtain ⟨u, h7, h8⟩ := hs s v x h1 (hl s v h1) hx hm hl2
      obtain ⟨-, -, h9, h10⟩ := hg.ok _ u h7
      have := topS_mono r (n := n) (s := nextS s x) h8 h9
      exact ⟨_, u, h7, by omega⟩
    rcases topS_succ r left n s v with h | h
    · rw [h2] at h
      by_cases hc : mayBe r (nextS s 1) = true ∧ v + 1 ≤ left
      · rw [if_pos hc] at h
        rcases Nat.le_total (topS r left n (nextS s 0) v) (topS r left n (nextS s 1) (v + 1)) with h7 | h7
        · exact key 1 (by omega) hc.1 hc.2 (by omega)
        · exact key 0 (by omega) (mayBe_good hr h4) (by omega) (by rw [Nat.add_zero]; omega)
      · rw [if_neg hc] at h
        exact key 0 (by omega) (mayBe_good hr h4) (by omega) (by rw [Nat.add_zero]; omega)
    · exact absurd h5 h
theorem topS_zero (r : Rul) (left s v : Nat) : topS r left 0 s v = v := by unfold topS; simp [bestS]
theorem mostT_end {r : Rul} {left best b : Nat} {f : Tab} {lf : Nat → Bool} (hf : MostT r left best 0 f) (h1 : b ≤ best) (h2 : ∀ s v, f s = some v → lf s = false → v ≤ b) (hl : ∀ s v, f s = some v → lf s = false) : b = best := by
  obtain ⟨s, v, h3, h4⟩ := hf.hit
  rw [topS_zero] at h4
  have := h2 s v h3 (hl s v h3)
  omega
theorem mostT_le {r : Rul} {left best : Nat} {f : Tab} (hf : MostT r left best 0 f) {s v : Nat} (h : f s = some v) : v ≤ best := by
  have := (hf.ok s v h).2.2.2
  rwa [topS_zero] at this
end Go.Proofs.YtfengddpfeneiaaGreat
