/-
  Shots, plain facts that the walks use: magnitudes, sums, and what comes element by element. Nothing of the program stands here.
  Repeats, the plain law: what is kept greedily breaks no rule, and nobody repeats less. Nothing of the program stands here.
  Further bad shots, the plain laws: states of the last twelve results, and the most bad ones among further shots. Nothing of the program stands here.
  Further bad shots, the plain law of the table of states: what the rounds over a table of the most bad ones so far come to. Nothing of the program stands here.
  All delays in order, and ways that are sorted: plain laws. Nothing of the program stands here.
  How many shots a ship fires that goes with given speeds (a plain law for TopHastes). Nothing of the program stands here.
-/
import Derived.Test.YtcmbmmpihiekhaaGreatQ1
set_option maxRecDepth 100000
set_option maxHeartbeats 16000000
set_option linter.unusedSimpArgs false
set_option linter.unusedVariables false
namespace Go.Proofs.YtcmbmmpihiekhaaGreat
open Go.RowKit

theorem mapRange_succ {α : Type} (f : Nat → α) (k : Nat) : (List.range (k + 1)).map f = (List.range k).map f ++ [f k] := by rw [List.range_succ, List.map_append]; rfl
theorem mapRange_at {α : Type} (f : Nat → α) {n k : Nat} (h : k < n) : ((List.range n).map f)[k]? = some (f k) := by rw [List.getElem?_map, List.getElem?_range h]; rfl

def pN (l : List Int) (i : Nat) : Nat := cnt (l.take i)
theorem pN_zero (l : List Int) : pN l 0 = 0 := rfl
theorem cnt_append (a b : List Int) : cnt (a ++ b) = cnt a + cnt b := by simp [cnt, List.countP_append]
theorem getD_of_lt {l : List Int} {i : Nat} (h : i < l.length) : l[i]? = some (l.getD i 0) := by
  rw [List.getElem?_eq_getElem h, List.getD_eq_getElem?_getD, List.getElem?_eq_getElem h]; rfl
theorem pN_succ {l : List Int} {i : Nat} (h : i < l.length) : pN l (i + 1) = pN l i + (if l.getD i 0 = 1 then 1 else 0) := by
  unfold pN
  rw [List.take_add_one, getD_of_lt h, cnt_append]
  congr 1
  simp only [Option.toList_some, cnt, List.countP_cons, List.countP_nil, Nat.zero_add]
  by_cases e : l.getD i 0 = 1 <;> simp [e]
theorem pN_len (l : List Int) {i : Nat} (h : l.length ≤ i) : pN l i = cnt l := by unfold pN; rw [List.take_of_length_le h]
theorem badS_p (l : List Int) {fr to : Int} {f t : Nat} (hf : fr.toNat = f) (ht : to.toNat = t) (h : f ≤ t) : badS l fr to = (pN l t : Int) - pN l f := by
  unfold badS
  rw [hf, ht]
  have e : cnt (l.take t) = cnt (l.take f) + cnt ((l.take t).drop f) := by
    rw [← cnt_append]
    congr 1
    have := List.take_append_drop f (l.take t)
    rw [List.take_take, Nat.min_eq_left h] at this
    exact this.symm
  unfold pN
  omega
theorem brkS_zero {r : Rul} (hr : okRul r = true) (l : List Int) (i : Nat) :
    brkS r l i = 0 ↔ ((pN l (i + 1) : Int) - pN l (i + 1 - r.row.toNat) ≠ r.row ∧ (pN l (i + 1) : Int) - pN l (i + 1 - r.win.toNat) < r.many ∧ (pN l (i + 1) : Int) < r.total) := by
  unfold okRul at hr
  have hr := of_decide_eq_true hr
  unfold brkS
  rw [badS_p l (f := i + 1 - r.row.toNat) (t := i + 1) (by omega) (by omega) (by omega), badS_p l (f := i + 1 - r.win.toNat) (t := i + 1) (by omega) (by omega) (by omega),
    badS_p l (f := 0) (t := i + 1) (by omega) (by omega) (by omega), pN_zero]
  split
  · simp; intro h; omega
  · split
    · simp; intro h h2; omega
    · split
      · simp; intro h h2; omega
      · simp; omega
theorem pN_append_le (a b : List Int) {i : Nat} (h : i ≤ a.length) : pN (a ++ b) i = pN a i := by
  unfold pN; rw [List.take_append_of_le_length h]
theorem pN_snoc (a : List Int) (x : Int) : pN (a ++ [x]) (a.length + 1) = pN a a.length + (if x = 1 then 1 else 0) := by
  rw [pN_succ (by simp), pN_append_le _ _ (Nat.le_refl _)]
  congr 1
  simp
def keepS (r : Rul) (l : List Int) : List Int := keepTo r l l.length
/-- How many of the first i are repeated. -/
def hS (r : Rul) (l : List Int) (i : Nat) : Int := (pN l i : Int) - pN (keepS r l) i
/-- What the numbers of repeated shots, among so many bad ones, must hold. -/
structure Feas (r : Rul) (l : List Int) (x : Nat → Int) : Prop where
  zero : x 0 = 0
  up : ∀ k < cnt l, x k ≤ x (k + 1)
  dn : ∀ k < cnt l, x (k + 1) ≤ x k + 1
  cl : ∀ c s, spanS r l c = some s → x (pN l s.fr.toNat) + ((pN l s.to.toNat : Int) - pN l s.fr.toNat - s.most) ≤ x (pN l s.to.toNat)

theorem bitS_zero (s x : Nat) (hx : x < 2) : bitS (nextS s x) 0 = x := by unfold bitS nextS; omega
theorem bitS_succ (s x : Nat) (hx : x < 2) : ∀ k, k < 11 → bitS (nextS s x) (k + 1) = bitS s k := by
  intro k hk
  unfold bitS nextS
  match k, hk with
  | 0, _ => simp only [Nat.reduceAdd, Nat.reducePow]; omega
  | 1, _ => simp only [Nat.reduceAdd, Nat.reducePow]; omega
  | 2, _ => simp only [Nat.reduceAdd, Nat.reducePow]; omega
  | 3, _ => simp only [Nat.reduceAdd, Nat.reducePow]; omega
  | 4, _ => simp only [Nat.reduceAdd, Nat.reducePow]; omega
  | 5, _ => simp only [Nat.reduceAdd, Nat.reducePow]; omega
  | 6, _ => simp only [Nat.reduceAdd, Nat.reducePow]; omega
  | 7, _ => simp only [Nat.reduceAdd, Nat.reducePow]; omega
  | 8, _ => simp only [Nat.reduceAdd, Nat.reducePow]; omega
  | 9, _ => simp only [Nat.reduceAdd, Nat.reducePow]; omega
  | 10, _ => simp only [Nat.reduceAdd, Nat.reducePow]; omega
theorem bitS_lt (s k : Nat) : bitS s k < 2 := by unfold bitS; omega
theorem onesS_next (s x : Nat) (hx : x < 2) : ∀ k, k < 12 → onesS (nextS s x) (k + 1) = x + onesS s k
  | 0, _ => by rw [onesS, onesS, onesS, bitS_zero s x hx]; omega
  | k + 1, h => by rw [onesS, onesS_next s x hx k (by omega), bitS_succ s x hx k (by omega)]; rw [onesS]; omega
theorem onesS_zero : ∀ k, onesS 0 k = 0
  | 0 => rfl
  | k + 1 => by rw [onesS, onesS_zero k]; unfold bitS; simp
theorem onesS_le (s : Nat) (k : Nat) : onesS s k ≤ onesS s (k + 1) := by rw [onesS]; omega
theorem onesS_bd (s : Nat) : ∀ k, onesS s k ≤ k
  | 0 => Nat.le_refl _
  | k + 1 => by rw [onesS]; have := onesS_bd s k; have := bitS_lt s k; omega
theorem mayBe_iff {r : Rul} (hr : okRul r = true) (s : Nat) : mayBe r s = true ↔ onesS s r.row.toNat < r.row.toNat ∧ onesS s r.win.toNat < r.many.toNat := by
  unfold okRul at hr
  have hr := of_decide_eq_true hr
  unfold mayBe
  simp only [Bool.and_eq_true, decide_eq_true_eq]
  omega
/-- A good shot never breaks a rule of rows or windows. -/
theorem mayBe_good {r : Rul} (hr : okRul r = true) {s : Nat} (h : mayBe r s = true) : mayBe r (nextS s 0) = true := by
  have hr' := hr
  unfold okRul at hr'
  have hr' := of_decide_eq_true hr'
  rw [mayBe_iff hr] at *
  obtain ⟨a, ha⟩ : ∃ a, r.row.toNat = a + 1 := ⟨r.row.toNat - 1, by omega⟩
  obtain ⟨c, hc⟩ : ∃ c, r.win.toNat = c + 1 := ⟨r.win.toNat - 1, by omega⟩
  rw [ha, hc] at h
  rw [ha, hc]
  rw [onesS_next s 0 (by omega) a (by omega), onesS_next s 0 (by omega) c (by omega)]
  have := onesS_le s a
  have := onesS_le s c
  have := onesS_bd s a
  omega
def isRes (l : List Int) : Prop := ∀ x ∈ l, x = 0 ∨ x = 1
theorem isRes_of {l : List Int} (h : okRes l 1 = true) : isRes l ∧ l.length ≤ 256 := by
  unfold okRes at h
  rw [Bool.and_eq_true, List.all_eq_true] at h
  refine ⟨fun x hx => ?_, of_decide_eq_true h.1⟩
  have := of_decide_eq_true (h.2 x hx)
  omega
theorem stateS_snoc (l : List Int) (x : Int) : stateS (l ++ [x]) = nextS (stateS l) x.toNat := by unfold stateS; rw [List.foldl_append]; rfl
theorem stateS_lt (l : List Int) : stateS l < 4096 := by
  rcases List.eq_nil_or_concat l with rfl | ⟨m, x, rfl⟩
  · decide
  · rw [List.concat_eq_append, stateS_snoc]; unfold nextS; omega
/-- The bits are the last results. -/
theorem onesS_state : ∀ (n : Nat) (l : List Int), l.length = n → isRes l → ∀ k, k ≤ 12 → (onesS (stateS l) k : Int) = (pN l l.length : Int) - pN l (l.length - k)
  | 0, l, hn, h, k, hk => by
    obtain rfl : l = [] := List.length_eq_zero_iff.1 hn
    rw [show stateS [] = 0 from rfl, onesS_zero]; simp [pN, cnt]
  | n + 1, l, hn, h, 0, hk => by rw [show l.length - 0 = l.length from rfl, onesS]; omega
  | n + 1, l, hn, h, k + 1, hk => by
    rcases List.eq_nil_or_concat l with rfl | ⟨m, x, rfl⟩
    · simp at hn
    · rw [List.concat_eq_append] at *
      have hm : m.length = n := by simpa using hn
      have hx := h x (by simp)
      rw [stateS_snoc, onesS_next _ _ (by omega) k (by omega)]
      have ih := onesS_state n m hm (fun y hy => h y (by simp [hy])) k (by omega)
      rw [show (m ++ [x]).length = m.length + 1 from by simp, pN_snoc, show m.length + 1 - (k + 1) = m.length - k from by omega, pN_append_le m [x] (by omega)]
      rcases hx with rfl | rfl <;> simp <;> omega
theorem judgeTo_zero {r : Rul} (hr : okRul r = true) {l : List Int} : ∀ k, k ≤ l.length → ((judgeTo r l k).2 = 0 ↔ ∀ i, l.length - k ≤ i → i < l.length → brkS r l i = 0)
  | 0, _ => by simp [judgeTo]; omega
  | k + 1, hk => by
    rw [judgeTo]
    split
    · rename_i h
      rw [judgeTo_zero hr k (by omega)]
      constructor
      · intro h2 i h3 h4
        by_cases e : i = l.length - (k + 1)
        · rw [e]; exact h
        · exact h2 i (by omega) h4
      · intro h2 i h3 h4; exact h2 i (by omega) h4
    · rename_i h
      constructor
      · intro h2; exact absurd h2 h
      · intro h2; exact absurd (h2 _ (Nat.le_refl _) (by omega)) h
theorem judgeS_zero {r : Rul} (hr : okRul r = true) {l : List Int} : (judgeS r l).2 = 0 ↔ ∀ i, i < l.length → brkS r l i = 0 := by
  unfold judgeS
  rw [judgeTo_zero hr _ (Nat.le_refl _)]
  constructor
  · intro h i hi; exact h i (by omega) hi
  · intro h i _ hi; exact h i hi
theorem state_ok {r : Rul} (hr : okRul r = true) {l : List Int} (hl : isRes l) (h : (judgeS r l).2 = 0) : mayBe r (stateS l) = true ∧ (cnt l : Int) < r.total := by
  have hr' := hr
  unfold okRul at hr'
  have hr' := of_decide_eq_true hr'
  rw [mayBe_iff hr]
  have h1 := onesS_state _ l rfl hl r.row.toNat (by omega)
  have h2 := onesS_state _ l rfl hl r.win.toNat (by omega)
  have h3 := onesS_bd (stateS l) r.row.toNat
  by_cases hz : l.length = 0
  · have : l = [] := List.length_eq_zero_iff.1 hz
    subst this
    rw [show stateS [] = 0 from rfl, onesS_zero, onesS_zero]
    simp [cnt]; omega
  · have h4 := (brkS_zero hr l (l.length - 1)).1 ((judgeS_zero hr).1 h _ (by omega))
    rw [show l.length - 1 + 1 = l.length from by omega] at h4
    have h5 := pN_len l (Nat.le_refl _)
    omega
theorem bestS_le (r : Rul) : ∀ n s left, bestS r n s left ≤ left ∧ bestS r n s left ≤ n
  | 0, _, _ => by simp [bestS]
  | n + 1, s, left => by
    rw [bestS]
    have h1 := bestS_le r n (nextS s 0) left
    have h2 := bestS_le r n (nextS s 1) (left - 1)
    split <;> omega
/-- One more that may be bad gives at most one more. -/
theorem bestS_lip (r : Rul) : ∀ n s left d, bestS r n s (left + d) ≤ d + bestS r n s left
  | 0, _, _, _ => by simp [bestS]
  | n + 1, s, left, d => by
    rw [bestS, bestS]
    have h1 := bestS_lip r n (nextS s 0) left d
    by_cases hk : mayBe r (nextS s 1) = true
    · by_cases hl : 1 ≤ left
      · have h2 := bestS_lip r n (nextS s 1) (left - 1) d
        rw [show left - 1 + d = left + d - 1 from by omega] at h2
        rw [if_pos ⟨hk, by omega⟩, if_pos ⟨hk, hl⟩]
        omega
      · obtain rfl : left = 0 := by omega
        rw [if_neg (by omega : ¬(mayBe r (nextS s 1) = true ∧ 1 ≤ 0))]
        split
        · have := (bestS_le r n (nextS s 1) (0 + d - 1)).1
          omega
        · omega
    · rw [if_neg (fun h => hk h.1), if_neg (fun h => hk h.1)]
      omega
/-- What may still come, on top of what has come up. -/
def topS (r : Rul) (left n : Nat) (s v : Nat) : Nat := v + bestS r n s (left - v)
theorem topS_mono (r : Rul) {left n s v u : Nat} (h : v ≤ u) (hu : u ≤ left) : topS r left n s v ≤ topS r left n s u := by
  unfold topS
  have := bestS_lip r n s (left - u) (u - v)
  rw [show left - u + (u - v) = left - v from by omega] at this
  omega
theorem topS_succ (r : Rul) (left n s v : Nat) : topS r left (n + 1) s v = max (topS r left n (nextS s 0) v) (if mayBe r (nextS s 1) = true ∧ v + 1 ≤ left then topS r left n (nextS s 1) (v + 1) else 0) ∨ ¬ v ≤ left := by
  by_cases hv : v ≤ left
  · left
    unfold topS
    rw [bestS]
    by_cases h : mayBe r (nextS s 1) = true ∧ 1 ≤ left - v
    · rw [if_pos h, if_pos ⟨h.1, by omega⟩, show left - v - 1 = left - (v + 1) from by omega]
      omega
    · rw [if_neg h, if_neg (fun h2 => h ⟨h2.1, by omega⟩)]
      omega
  · exact .inr hv

/-- A table: by the state, the most bad ones so far. -/
abbrev Tab := Nat → Option Nat
def putMax (g : Tab) (t u : Nat) : Tab := fun t' => if t' = t then some (match g t with | some o => max o u | none => u) else g t'
def stepT (r : Rul) (left s v x : Nat) (g : Tab) : Tab := if mayBe r (nextS s x) = true ∧ v + x ≤ left then putMax g (nextS s x) (v + x) else g
/-- After the first k of the two results. -/
def stepsT (r : Rul) (left s v : Nat) (g : Tab) : Nat → Tab
  | 0 => g
  | k + 1 => stepT r left s v k (stepsT r left s v g k)
structure GoodT (r : Rul) (left best n : Nat) (g : Tab) : Prop where
  ok : ∀ t u, g t = some u → t < 4096 ∧ mayBe r t = true ∧ u ≤ left ∧ topS r left n t u ≤ best
structure MostT (r : Rul) (left best n : Nat) (f : Tab) : Prop extends GoodT r left best n f where
  hit : ∃ s v, f s = some v ∧ topS r left n s v = best
def SeenT (r : Rul) (left : Nat) (f : Tab) (lf : Nat → Bool) (g : Tab) : Prop :=
  ∀ s v x, f s = some v → lf s = false → x < 2 → mayBe r (nextS s x) = true → v + x ≤ left → ∃ u, g (nextS s x) = some u ∧ v + x ≤ u
theorem nextS_lt (s x : Nat) : nextS s x < 4096 := by unfold nextS; omega
theorem putMax_same (g : Tab) (t u : Nat) : ∃ o, putMax g t u t = some o ∧ u ≤ o := by
  unfold putMax
  rw [if_pos rfl]
  split
  · exact ⟨_, rfl, by omega⟩
  · exact ⟨_, rfl, by omega⟩
theorem putMax_up {g : Tab} {t u t' o : Nat} (h : g t' = some o) : ∃ o', putMax g t u t' = some o' ∧ o ≤ o' := by
  unfold putMax
  by_cases e : t' = t
  · subst e
    rw [if_pos rfl, h]
    exact ⟨_, rfl, Nat.le_max_left _ _⟩
  · rw [if_neg e]; exact ⟨o, h, Nat.le_refl _⟩
theorem stepT_up {r : Rul} {left s v x : Nat} {g : Tab} {t o : Nat} (h : g t = some o) : ∃ o', stepT r left s v x g t = some o' ∧ o ≤ o' := by
  unfold stepT
  split
  · exact putMax_up h
  · exact ⟨o, h, Nat.le_refl _⟩
theorem mostT_start (r : Rul) {left n s : Nat} (hs : s < 4096) (hm : mayBe r s = true) : MostT r left (bestS r n s left) n (fun t => if t = s then some 0 else none) where
  ok t u h := by
    split at h
    · rename_i e; subst e; cases h
      exact ⟨hs, hm, Nat.zero_le _, by unfold topS; rw [Nat.sub_zero, Nat.zero_add]; exact Nat.le_refl _⟩
    · cases h
  hit := ⟨s, 0, by simp, by unfold topS; simp⟩
theorem goodT_none (r : Rul) (left best n : Nat) : GoodT r left best n (fun _ => none) := ⟨fun t u h => by cases h⟩
theorem seenT_start (r : Rul) (left : Nat) {f : Tab} {lf : Nat → Bool} (h : ∀ s v, f s = some v → lf s = true) (g : Tab) : SeenT r left f lf g := fun s v x hf hl => by rw [h s v hf] at hl; cases hl
theorem topS_next {r : Rul} (hr : okRul r = true) {left n s v x best : Nat} (hx : x < 2) (hs : mayBe r s = true) (hv : v ≤ left) (hb : topS r left (n + 1) s v ≤ best) (hm : mayBe r (nextS s x) = true) (hl : v + x ≤ left) : topS r left n (nextS s x) (v + x) ≤ best := by
  rcases topS_succ r left n s v with h | h
  · rw [h] at hb
    obtain rfl | rfl : x = 0 ∨ x = 1 := by omega
    · rw [Nat.add_zero]; omega
    · rw [if_pos ⟨hm, hl⟩] at hb; omega
  · exact absurd hv h
theorem goodT_step {r : Rul} (hr : okRul r = true) {left best n s v x : Nat} {g : Tab} (hg : GoodT r left best n g) (hx : x < 2) (hs : mayBe r s = true) (hv : v ≤ left) (hb : topS r left (n + 1) s v ≤ best) : GoodT r left best n (stepT r left s v x g) := by
  refine ⟨fun t u h => ?_⟩
  unfold stepT at h
  split at h
  · rename_i hc
    unfold putMax at h
    split at h
    · rename_i e
      subst e
      have h1 := topS_next (n := n) hr hx hs hv hb hc.1 hc.2
      split at h
      · rename_i o ho
        cases h
        have h2 := hg.ok _ o ho
        refine ⟨nextS_lt _ _, hc.1, by omega, ?_⟩
        rcases Nat.le_total o (v + x) with h3 | h3
        · rw [Nat.max_eq_right h3]; exact h1
        · rw [Nat.max_eq_left h3]; exact h2.2.2.2
      · cases h
        exact ⟨nextS_lt _ _, hc.1, hc.2, h1⟩
    · exact hg.ok t u h
  · exact hg.ok t u h
theorem stepsT_up {r : Rul} {left s v : Nat} {g : Tab} {t o : Nat} (h : g t = some o) : ∀ k, ∃ o', stepsT r left s v g k t = some o' ∧ o ≤ o'
  | 0 => ⟨o, h, Nat.le_refl _⟩
  | k + 1 => by
    obtain ⟨o1, h1, h2⟩ := stepsT_up (r := r) (left := left) (s := s) (v := v) h k
    obtain ⟨o2, h3, h4⟩ := stepT_up (r := r) (left := left) (s := s) (v := v) (x := k) h1
    exact ⟨o2, h3, by omega⟩
theorem goodT_steps {r : Rul} (hr : okRul r = true) {left best n s v : Nat} {g : Tab} (hg : GoodT r left best n g) (hs : mayBe r s = true) (hv : v ≤ left) (hb : topS r left (n + 1) s v ≤ best) : ∀ k, k ≤ 2 → GoodT r left best n (stepsT r left s v g k)
  | 0, _ => hg
  | k + 1, h => goodT_step hr (goodT_steps hr hg hs hv hb k (by omega)) (by omega) hs hv hb
theorem stepsT_hit {r : Rul} {left s v : Nat} (g : Tab) {x : Nat} (hx : x < 2) (hm : mayBe r (nextS s x) = true) (hl : v + x ≤ left) : ∃ u, stepsT r left s v g 2 (nextS s x) = some u ∧ v + x ≤ u := by
  obtain rfl | rfl : x = 0 ∨ x = 1 := by omega
  · have h1 : stepsT r left s v g 1 = putMax g (nextS s 0) (v + 0) := by
      show stepT r left s v 0 g = _
      unfold stepT; rw [if_pos ⟨hm, hl⟩]
    obtain ⟨o, h2, h3⟩ := putMax_same g (nextS s 0) (v + 0)
    rw [← h1] at h2
    obtain ⟨o', h4, h5⟩ := stepT_up (r := r) (left := left) (s := s) (v := v) (x := 1) h2
    exact ⟨o', h4, by omega⟩
  · have h1 : stepsT r left s v g 2 = putMax (stepsT r left s v g 1) (nextS s 1) (v + 1) := by
      show stepT r left s v 1 _ = _
      unfold stepT; rw [if_pos ⟨hm, hl⟩]
    rw [h1]
    exact putMax_same _ _ _
theorem seenT_step {r : Rul} {left : Nat} {f : Tab} {lf lf' : Nat → Bool} {g : Tab} {s v : Nat} (h : SeenT r left f lf g) (hf : f s = some v) (hlf : ∀ t, lf' t = (lf t && !decide (t = s))) : SeenT r left f lf' (stepsT r left s v g 2) := by
  intro t u x h1 h2 h3 h4 h5
  rw [hlf] at h2
  by_cases e : t = s
  · subst e
    obtain rfl : u = v := Option.some.inj (h1.symm.trans hf)
    exact stepsT_hit g h3 h4 h5
  · have h2' : lf t = false := by simpa [e] using h2
    obtain ⟨o, h6, h7⟩ := h t u x h1 h2' h3 h4 h5
    obtain ⟨o', h8, h9⟩ := stepsT_up (r := r) (left := left) (s := s) (v := v) h6 2
    exact ⟨o', h8, by omega⟩
theorem mostT_next {r : Rul} (hr : okRul r = true) {left best n : Nat} {f g : Tab} {lf : Nat → Bool} (hf : MostT r left best (n + 1) f) (hg : GoodT r left best n g) (hs : SeenT r left f lf g) (hl : ∀ s v, f s = some v → lf s = false) : MostT r left best n g where
  toGoodT := hg
  hit := by
    obtain ⟨s, v, h1, h2⟩ := hf.hit
    obtain ⟨h3, h4, h5, h6⟩ := hf.ok s v h1
    have key : ∀ x, x < 2 → mayBe r (nextS s x) = true → v + x ≤ left → topS r left n (nextS s x) (v + x) = best → ∃ t u, g t = some u ∧ topS r left n t u = best := by
      intro x hx hm hl2 he
      obtain ⟨u, h7, h8⟩ := hs s v x h1 (hl s v h1) hx hm hl2
      obtain ⟨-, -, h9, h10⟩ := hg.ok _ u h7
      have := topS_mono r (n := n) (s := nextS s x) h8 h9
      exact ⟨_, u, h7, by omega⟩
    rcases topS_succ r left n s v with h | h
    · rw [h2] at h
      by_cases hc : mayBe r (nextS s 1) = true ∧ v + 1 ≤ left
      · rw [if_pos hc] at h
        rcases Nat.le_total (topS r left n (nextS s 0) v) (topS r left n (nextS s 1) (v + 1)) with h7 | h7
        · exact key 1 (by omega) hc.1 hc.2 (by omega)
        · exact key 0 (by omega) (mayBe_good hr h4) (by omega) (by rw [Nat.add_zero]; omega)
      · rw [if_neg hc] at h
        exact key 0 (by omega) (mayBe_good hr h4) (by omega) (by rw [Nat.add_zero]; omega)
    · exact absurd h5 h
theorem topS_zero (r : Rul) (left s v : Nat) : topS r left 0 s v = v := by unfold topS; simp [bestS]
theorem mostT_end {r : Rul} {left best b : Nat} {f : Tab} {lf : Nat → Bool} (hf : MostT r left best 0 f) (h1 : b ≤ best) (h2 : ∀ s v, f s = some v → lf s = false → v ≤ b) (hl : ∀ s v, f s = some v → lf s = false) : b = best := by
  obtain ⟨s, v, h3, h4⟩ := hf.hit
  rw [topS_zero] at h4
  have := h2 s v h3 (hl s v h3)
  omega
theorem mostT_le {r : Rul} {left best : Nat} {f : Tab} (hf : MostT r left best 0 f) {s v : Nat} (h : f s = some v) : v ≤ best := by
  have := (hf.ok s v h).2.2.2
  rwa [topS_zero] at this

/-! sorted ways -/
theorem sorted_at : ∀ {l : List Int}, sorted l = true → ∀ {i j : Nat} {x y : Int}, i ≤ j → l[i]? = some x → l[j]? = some y → x ≤ y
  | [], _, i, j, x, y, _, h, _ => by simp at h
  | [z], _, i, j, x, y, h, h1, h2 => by
    have := (List.getElem?_eq_some_iff.1 h2).1
    obtain rfl : j = 0 := by simp at this; omega
    obtain rfl : i = 0 := by omega
    simp at h1 h2; omega
  | z :: u :: l, hs, i, j, x, y, h, h1, h2 => by
    rw [sorted, Bool.and_eq_true, decide_eq_true_eq] at hs
    match i, j with
    | 0, 0 => simp at h1 h2; omega
    | 0, j + 1 =>
      simp at h1
      have := sorted_at hs.2 (i := 0) (j := j) (x := u) (y := y) (by omega) rfl (by simpa using h2)
      omega
    | i + 1, j + 1 => exact sorted_at hs.2 (i := i) (j := j) (by omega) (by simpa using h1) (by simpa using h2)
theorem sorted_of : ∀ {l : List Int}, (∀ (i : Nat) (x y : Int), l[i]? = some x → l[i + 1]? = some y → x ≤ y) → sorted l = true
  | [], _ => rfl
  | [z], _ => rfl
  | z :: u :: l, h => by
    rw [sorted, Bool.and_eq_true, decide_eq_true_eq]
    exact ⟨h 0 z u rfl rfl, sorted_of fun i x y h1 h2 => h (i + 1) x y (by simpa using h1) (by simpa using h2)⟩
/-- A way that is sorted lies in its limits if its ends do. -/
theorem okWay_ends {l : List Int} (h1 : 1 ≤ l.length) (h2 : l.length ≤ 512) (hs : sorted l = true) {x y : Int} (hx : l[0]? = some x) (hy : l[l.length - 1]? = some y) : okWay l = decide (0 ≤ x ∧ y ≤ 1048576) := by
  unfold okWay
  rw [hs, decide_eq_true ⟨h1, h2⟩, Bool.true_and, Bool.true_and, Bool.eq_iff_iff, List.all_eq_true, decide_eq_true_eq]
  constructor
  · intro h
    have a := of_decide_eq_true (h x (List.mem_of_getElem? hx))
    have b := of_decide_eq_true (h y (List.mem_of_getElem? hy))
    omega
  · rintro ⟨a, b⟩ z hz
    obtain ⟨i, hi⟩ := List.mem_iff_getElem?.1 hz
    have hil := (List.getElem?_eq_some_iff.1 hi).1
    have c := sorted_at hs (i := 0) (j := i) (by omega) hx hi
    have d := sorted_at hs (i := i) (j := l.length - 1) (by omega) hi hy
    exact decide_eq_true ⟨by omega, by omega⟩
theorem reachS_bd : ∀ (l : List Int) (far : Int) (k : Nat), -1 ≤ reachS l far k ∧ reachS l far k < k + l.length
  | [], _, k => by simp only [reachS, List.length_nil]; omega
  | x :: l, far, k => by
    rw [reachS, List.length_cons]
    have := reachS_bd l far (k + 1)
    split <;> omega

/-- The way, step by step. -/
def cumL : Int → List Int → List Int
  | _, [] => []
  | s, v :: l => (s + v) :: cumL (s + v) l
theorem cumL_len : ∀ (s : Int) (l : List Int), (cumL s l).length = l.length
  | _, [] => rfl
  | s, v :: l => by rw [cumL, List.length_cons, List.length_cons, cumL_len]
theorem reach_iff : ∀ (l : List Int) (far : Int) (k : Nat), 0 ≤ reachS l far k ↔ ∃ x ∈ l, far ≤ x
  | [], far, k => by simp [reachS]
  | z :: zs, far, k => by
    by_cases h : far ≤ z
    · rw [reachS, if_pos h]
      exact ⟨fun _ => ⟨z, by simp, h⟩, fun _ => by omega⟩
    · rw [reachS, if_neg h, reach_iff zs far (k + 1)]
      constructor
      · rintro ⟨x, hx, hf⟩; exact ⟨x, List.mem_cons_of_mem _ hx, hf⟩
      · rintro ⟨x, hx, hf⟩
        rcases List.mem_cons.1 hx with rfl | hx
        · exact absurd hf h
        · exact ⟨x, hx, hf⟩
theorem sum_nonneg : ∀ {l : List Int}, (∀ v ∈ l, 0 ≤ v) → 0 ≤ l.sum
  | [], _ => by simp
  | v :: l, h => by
    have := sum_nonneg (l := l) fun x hx => h x (List.mem_cons_of_mem _ hx)
    have := h v (by simp)
    rw [List.sum_cons]; omega
theorem cum_le : ∀ {l : List Int} (s : Int), (∀ v ∈ l, 0 ≤ v) → ∀ x ∈ cumL s l, s ≤ x ∧ x ≤ s + l.sum
  | [], _, _, x, hx => by simp [cumL] at hx
  | v :: l, s, h, x, hx => by
    have hv := h v (by simp)
    have hl : ∀ u ∈ l, 0 ≤ u := fun u hu => h u (List.mem_cons_of_mem _ hu)
    have hs := sum_nonneg hl
    rw [List.sum_cons]
    rw [cumL] at hx
    rcases List.mem_cons.1 hx with rfl | hx
    · omega
    · have := cum_le (s + v) hl x hx; omega
theorem cum_top : ∀ {l : List Int} (s : Int), l ≠ [] → s + l.sum ∈ cumL s l
  | [], _, h => absurd rfl h
  | [v], s, _ => by simp [cumL]
  | v :: u :: l, s, _ => by
    have := cum_top (l := u :: l) (s + v) (by simp)
    rw [cumL, List.sum_cons, ← Int.add_assoc]
    exact List.mem_cons_of_mem _ this
/-- A shot fires iff the whole way comes to its due distance. -/
theorem fires_iff {f : Fir} {l : List Int} (h : ∀ v ∈ l, 0 ≤ v) (m : Nat) : 0 ≤ tickS f (cumL 0 l) m ↔ l ≠ [] ∧ dueS f m ≤ l.sum := by
  unfold tickS
  rw [reach_iff]
  constructor
  · rintro ⟨x, hx, hf⟩
    refine ⟨fun e => by subst e; simp [cumL] at hx, ?_⟩
    have := cum_le 0 h x hx
    omega
  · rintro ⟨hn, hf⟩
    exact ⟨_, cum_top 0 hn, by omega⟩
def firedN (f : Fir) (way : List Int) : Nat := (shotL f way).countP fun x => decide (0 ≤ x.tick)
theorem firedN_mono {f : Fir} {a b : List Int} (ha : ∀ v ∈ a, 0 ≤ v) (hb : ∀ v ∈ b, 0 ≤ v) (hl : a.length = b.length) (h : a.sum ≤ b.sum) : firedN f (cumL 0 a) ≤ firedN f (cumL 0 b) := by
  unfold firedN shotL
  rw [List.countP_map, List.countP_map]
  refine List.countP_mono_left fun m _ hm => ?_
  have hm2 := (fires_iff ha m).1 (of_decide_eq_true hm)
  refine decide_eq_true ((fires_iff hb m).2 ⟨fun e => hm2.1 ?_, by omega⟩)
  subst e
  exact List.eq_nil_of_length_eq_zero hl
theorem cum_step : ∀ {l : List Int} (s : Int), (∀ v ∈ l, 0 ≤ v) → ∀ (i : Nat) (x y : Int), (cumL s l)[i]? = some x → (cumL s l)[i + 1]? = some y → x ≤ y
  | [], _, _, i, x, y, hx, _ => by simp [cumL] at hx
  | v :: l, s, h, 0, x, y, hx, hy => by
    have hl : ∀ u ∈ l, 0 ≤ u := fun u hu => h u (List.mem_cons_of_mem _ hu)
    rw [cumL] at hx hy
    simp at hx hy
    subst hx
    have := cum_le (s + v) hl y (List.mem_of_getElem? hy)
    omega
  | v :: l, s, h, i + 1, x, y, hx, hy => by
    have hl : ∀ u ∈ l, 0 ≤ u := fun u hu => h u (List.mem_cons_of_mem _ hu)
    rw [cumL] at hx hy
    exact cum_step (s + v) hl i x y (by simpa using hx) (by simpa using hy)
theorem cum_way {l : List Int} (h : ∀ v ∈ l, 0 ≤ v) (h1 : 1 ≤ l.length) (h2 : l.length ≤ 512) (hs : l.sum ≤ 1048576) : okWay (cumL 0 l) = true := by
  unfold okWay
  rw [cumL_len, decide_eq_true ⟨h1, h2⟩, Bool.true_and, Bool.and_eq_true]
  refine ⟨sorted_of (cum_step 0 h), ?_⟩
  rw [List.all_eq_true]
  intro x hx
  have := cum_le 0 h x hx
  exact decide_eq_true ⟨by omega, by omega⟩
end Go.Proofs.YtcmbmmpihiekhaaGreat
