/-
  Shots, the plain law of ShotLost: which losses are found. Nothing of the program stands here.
-/
import Derived.Test.YtfengddpfeneiaaQ2
namespace Go.Proofs.Ytfengddpfeneiaa
open Go.RowKit
set_option linter.unusedSimpArgs false
set_option linter.unusedVariables false

/-- An increasing list of numbers from fr on, below G. -/
def Inc (G : Nat) : Nat → List Int → Prop
  | _, [] => True
  | fr, x :: s => ∃ i : Nat, x = (i : Int) ∧ fr ≤ i ∧ i < G ∧ Inc G (i + 1) s
theorem Inc.mono {G : Nat} : ∀ {s : List Int} {f g : Nat}, Inc G g s → f ≤ g → Inc G f s
  | [], _, _, _, _ => trivial
  | _ :: _, _, _, ⟨i, e, h1, h2, h3⟩, h => ⟨i, e, by omega, h2, h3⟩
theorem Inc.mem {G : Nat} : ∀ {s : List Int} {fr : Nat}, Inc G fr s → ∀ x ∈ s, ∃ i : Nat, x = (i : Int) ∧ fr ≤ i ∧ i < G
  | [], _, _, x, hx => by simp at hx
  | y :: s, fr, ⟨i, e, h1, h2, h3⟩, x, hx => by
    rcases List.mem_cons.1 hx with rfl | hx
    · exact ⟨i, e, h1, h2⟩
    · obtain ⟨j, e2, h4, h5⟩ := Inc.mem h3 x hx
      exact ⟨j, e2, by omega, h5⟩
theorem hasAll_iff (l loss : List Int) : hasAll l loss = true ↔ ∀ x ∈ l, x ∈ loss := by
  unfold hasAll
  simp [List.all_eq_true]
theorem hasAll_refl (l : List Int) : hasAll l l = true := (hasAll_iff l l).2 fun _ h => h
theorem holdsOne_iff (out : List (List Int)) (loss : List Int) : holdsOne out loss = true ↔ ∃ l ∈ out, hasAll l loss = true := by
  unfold holdsOne
  rw [List.any_eq_true]
theorem holdsOne_app {out : List (List Int)} {loss : List Int} (h : holdsOne out loss = true) (add : List (List Int)) : holdsOne (out ++ add) loss = true := by
  rw [holdsOne_iff] at *
  obtain ⟨l, h1, h2⟩ := h
  exact ⟨l, List.mem_append_left _ h1, h2⟩
theorem inc_len {G : Nat} : ∀ (y x : List Int) {f g : Nat}, Inc G f x → Inc G g y → (∀ z ∈ x, z ∈ y) → x.length ≤ y.length
  | _, [], _, _, _, _, _ => Nat.zero_le _
  | [], a :: x, _, _, _, _, h => by have := h a List.mem_cons_self; simp at this
  | b :: y, a :: x, f, g, ⟨i, e1, h1, h2, h3⟩, ⟨j, e2, h4, h5, h6⟩, h => by
    by_cases e : a = b
    · have := inc_len y x h3 h6 fun z hz => by
        rcases List.mem_cons.1 (h z (List.mem_cons_of_mem _ hz)) with h7 | h7
        · obtain ⟨k, e3, h8, -⟩ := h3.mem z hz
          omega
        · exact h7
      simp only [List.length_cons]; omega
    · have ha : a ∈ y := (List.mem_cons.1 (h a List.mem_cons_self)).resolve_left e
      obtain ⟨k, e3, h8, -⟩ := h6.mem a ha
      have := inc_len y (a :: x) (f := i) ⟨i, e1, Nat.le_refl _, h2, h3⟩ h6 fun z hz => by
        rcases List.mem_cons.1 (h z hz) with h7 | h7
        · have hz2 : ∃ k2 : Nat, z = (k2 : Int) ∧ i ≤ k2 := by
            rcases List.mem_cons.1 hz with h9 | h9
            · exact ⟨i, by rw [h9, e1], Nat.le_refl _⟩
            · obtain ⟨k2, e4, h10, -⟩ := h3.mem z h9
              exact ⟨k2, e4, by omega⟩
          obtain ⟨k2, e4, h10⟩ := hz2
          omega
        · exact h7
      simp only [List.length_cons] at this ⊢; omega
theorem inc_eq {G : Nat} : ∀ (y x : List Int) {f g : Nat}, Inc G f x → Inc G g y → (∀ z ∈ x, z ∈ y) → y.length ≤ x.length → x = y
  | [], [], _, _, _, _, _, _ => rfl
  | b :: y, [], _, _, _, _, _, h => by simp at h
  | [], a :: x, _, _, _, _, h, _ => by have := h a List.mem_cons_self; simp at this
  | b :: y, a :: x, f, g, ⟨i, e1, h1, h2, h3⟩, ⟨j, e2, h4, h5, h6⟩, h, hl => by
    by_cases e : a = b
    · have := inc_eq y x h3 h6 (fun z hz => by
        rcases List.mem_cons.1 (h z (List.mem_cons_of_mem _ hz)) with h7 | h7
        · obtain ⟨k, e3, h8, -⟩ := h3.mem z hz
          omega
        · exact h7) (by simp only [List.length_cons] at hl; omega)
      rw [e, this]
    · have ha : a ∈ y := (List.mem_cons.1 (h a List.mem_cons_self)).resolve_left e
      obtain ⟨k, e3, h8, -⟩ := h6.mem a ha
      have := inc_len y (a :: x) (f := i) ⟨i, e1, Nat.le_refl _, h2, h3⟩ h6 fun z hz => by
        rcases List.mem_cons.1 (h z hz) with h7 | h7
        · have hz2 : ∃ k2 : Nat, z = (k2 : Int) ∧ i ≤ k2 := by
            rcases List.mem_cons.1 hz with h9 | h9
            · exact ⟨i, by rw [h9, e1], Nat.le_refl _⟩
            · obtain ⟨k2, e4, h10, -⟩ := h3.mem z h9
              exact ⟨k2, e4, by omega⟩
          obtain ⟨k2, e4, h10⟩ := hz2
          omega
        · exact h7
      simp only [List.length_cons] at this hl; omega
def noneEarlier (L : List (List Int)) : Prop := L.Pairwise fun x y => hasAll x y = false
/-- What a search adds. -/
structure Found (a : Arr) (limit : Int) (m fr : Nat) (loss : List Int) (out add : List (List Int)) : Prop where
  new : ∀ e ∈ add, limit < misS a (onL a) e ∧ ∃ s, Inc a.gs.length fr s ∧ s.length = m ∧ e = loss ++ s
  all : ∀ s, Inc a.gs.length fr s → s.length = m → limit < misS a (onL a) (loss ++ s) → holdsOne (out ++ add) (loss ++ s) = true
  one : noneEarlier out → noneEarlier (out ++ add)
theorem srch_found (a : Arr) (limit : Int) : ∀ (m fr : Nat) (loss : List Int) (out : List (List Int)), ∃ add, srchS a limit m fr loss out = out ++ add ∧ Found a limit m fr loss out add
  | 0, fr, loss, out => by
    rw [srchS]
    by_cases h : holdsOne out loss = true
    · rw [if_pos h]
      refine ⟨[], by simp, ⟨fun e he => by simp at he, fun s _ hs _ => ?_, fun h2 => by simpa using h2⟩⟩
      obtain rfl := List.length_eq_zero_iff.1 hs
      simpa using h
    · rw [if_neg h]
      by_cases h2 : limit < misS a (onL a) loss
      · rw [if_pos h2]
        refine ⟨[loss], rfl, ⟨fun e he => ?_, fun s _ hs _ => ?_, fun h3 => ?_⟩⟩
        · simp at he
          subst he
          exact ⟨h2, [], trivial, rfl, by simp⟩
        · obtain rfl := List.length_eq_zero_iff.1 hs
          rw [List.append_nil, holdsOne_iff]
          exact ⟨loss, by simp, hasAll_refl _⟩
        · unfold noneEarlier at *
          rw [List.pairwise_append]
          refine ⟨h3, List.pairwise_singleton _ _, fun x hx y hy => ?_⟩
          simp at hy
          subst hy
          cases hc : hasAll x y with
          | false => rfl
          | true => exact absurd ((holdsOne_iff _ _).2 ⟨x, hx, hc⟩) h
      · rw [if_neg h2]
        refine ⟨[], by simp, ⟨fun e he => by simp at he, fun s _ hs h3 => ?_, fun h3 => by simpa using h3⟩⟩
        obtain rfl := List.length_eq_zero_iff.1 hs
        rw [List.append_nil] at h3
        exact absurd h3 h2
  | m + 1, fr, loss, out => by
    rw [srchS]
    have key : ∀ k, fr + k ≤ a.gs.length ∨ k = 0 → ∃ add, (List.range' fr k).foldl (fun o i => srchS a limit m (i + 1) (loss ++ [(i : Int)]) o) out = out ++ add ∧
        (∀ e ∈ add, limit < misS a (onL a) e ∧ ∃ s, Inc a.gs.length fr s ∧ s.length = m + 1 ∧ e = loss ++ s) ∧
        (∀ (i : Nat) s, fr ≤ i → i < fr + k → Inc a.gs.length (i + 1) s → s.length = m → limit < misS a (onL a) (loss ++ (i : Int) :: s) → holdsOne (out ++ add) (loss ++ (i : Int) :: s) = true) ∧
        (noneEarlier out → noneEarlier (out ++ add)) := by
      intro k
      induction k with
      | zero => intro _; exact ⟨[], by simp, fun e he => by simp at he, fun i s h1 h2 => by omega, fun h => by simpa using h⟩
      | succ k ih =>
        intro hk
        obtain ⟨add, e1, f1, f2, f3⟩ := ih (by omega)
        rw [List.range'_1_concat, List.foldl_append, e1]
        obtain ⟨add2, e2, g⟩ := srch_found a limit m (fr + k + 1) (loss ++ [((fr + k : Nat) : Int)]) (out ++ add)
        refine ⟨add ++ add2, by rw [List.foldl_cons, List.foldl_nil, e2, List.append_assoc], fun e he => ?_, fun i s h1 h2 h3 h4 h5 => ?_, fun h => by rw [← List.append_assoc]; exact g.one (f3 h)⟩
        · rcases List.mem_append.1 he with he | he
          · exact f1 e he
          · obtain ⟨h1, s, h2, h3, h4⟩ := g.new e he
            exact ⟨h1, ((fr + k : Nat) : Int) :: s, ⟨fr + k, rfl, by omega, by omega, h2⟩, by simp [h3], by rw [h4]; simp⟩
        · rw [← List.append_assoc]
          by_cases hi : i < fr + k
          · exact holdsOne_app (f2 i s h1 hi h3 h4 h5) _
          · obtain rfl : i = fr + k := by omega
            have e3 : loss ++ [((fr + k : Nat) : Int)] ++ s = loss ++ ((fr + k : Nat) : Int) :: s := by simp
            have := g.all s h3 h4 (by rw [e3]; exact h5)
            rw [e3] at this
            exact this
    by_cases hfr : fr ≤ a.gs.length
    · obtain ⟨add, e1, f1, f2, f3⟩ := key (a.gs.length - fr) (by omega)
      refine ⟨add, e1, ⟨f1, fun s hs hl hm => ?_, f3⟩⟩
      cases s with
      | nil => simp at hl
      | cons x s =>
        obtain ⟨i, rfl, h1, h2, h3⟩ := hs
        exact f2 i s h1 (by omega) h3 (by simpa using hl) hm
    · obtain ⟨add, e1, f1, f2, f3⟩ := key 0 (.inr rfl)
      rw [show a.gs.length - fr = 0 by omega]
      refine ⟨add, e1, ⟨f1, fun s hs hl hm => ?_, f3⟩⟩
      cases s with
      | nil => simp at hl
      | cons x s =>
        obtain ⟨i, rfl, h1, h2, h3⟩ := hs
        omega
structure AllFound (a : Arr) (limit : Int) (n : Nat) (L : List (List Int)) : Prop where
  new : ∀ e ∈ L, limit < misS a (onL a) e ∧ Inc a.gs.length 0 e ∧ 1 ≤ e.length ∧ e.length ≤ n
  all : ∀ s, Inc a.gs.length 0 s → 1 ≤ s.length → s.length ≤ n → limit < misS a (onL a) s → holdsOne L s = true
  one : noneEarlier L
  len : L.Pairwise fun x y => x.length ≤ y.length
theorem loss_found (a : Arr) (limit : Int) : ∀ n, AllFound a limit n (lossTo a limit n)
  | 0 => ⟨fun e he => by simp [lossTo] at he, fun s _ h1 h2 => by omega, List.Pairwise.nil, List.Pairwise.nil⟩
  | n + 1 => by
    obtain ⟨g1, g2, g3, g4⟩ := loss_found a limit n
    obtain ⟨add, e, f⟩ := srch_found a limit (n + 1) 0 [] (lossTo a limit n)
    rw [lossTo, e]
    refine ⟨fun x hx => ?_, fun s hs h1 h2 h3 => ?_, f.one g3, ?_⟩
    · rcases List.mem_append.1 hx with hx | hx
      · obtain ⟨a1, a2, a3, a4⟩ := g1 x hx
        exact ⟨a1, a2, a3, by omega⟩
      · obtain ⟨a1, s, a2, a3, a4⟩ := f.new x hx
        rw [List.nil_append] at a4
        subst a4
        exact ⟨a1, a2, by omega, by omega⟩
    · by_cases hl : s.length ≤ n
      · exact holdsOne_app (g2 s hs h1 hl h3) _
      · have := f.all s hs (by omega) (by rw [List.nil_append]; exact h3)
        rw [List.nil_append] at this
        exact this
    · rw [List.pairwise_append]
      refine ⟨g4, ?_, fun x hx y hy => ?_⟩
      · have : ∀ y ∈ add, y.length = n + 1 := fun y hy => by
          obtain ⟨a1, s, a2, a3, a4⟩ := f.new y hy
          rw [a4, List.nil_append]; exact a3
        refine List.pairwise_of_forall_mem_list fun x hx y hy => ?_
        rw [this x hx, this y hy]
        exact Nat.le_refl _
      · obtain ⟨a1, s, a2, a3, a4⟩ := f.new y hy
        rw [a4, List.nil_append, a3]
        have := (g1 x hx).2.2.2
        omega
theorem found_apart {a : Arr} {limit : Int} {n : Nat} {L : List (List Int)} (h : AllFound a limit n L) {i k : Nat} {x y : List Int} (hi : L[i]? = some x) (hk : L[k]? = some y) (hne : i ≠ k) : hasAll x y = false := by
  have h1 := h.one
  have h2 := h.len
  unfold noneEarlier at h1
  rw [List.pairwise_iff_getElem] at h1 h2
  have li := (List.getElem?_eq_some_iff.1 hi)
  have lk := (List.getElem?_eq_some_iff.1 hk)
  obtain ⟨li, ei⟩ := li
  obtain ⟨lk, ek⟩ := lk
  by_cases hlt : i < k
  · have := h1 i k li lk hlt
    rwa [ei, ek] at this
  · have a1 := h1 k i lk li (by omega)
    have a2 := h2 k i lk li (by omega)
    rw [ei, ek] at a1 a2
    cases hc : hasAll x y with
    | false => rfl
    | true =>
      have hx := (h.new x (List.mem_of_getElem? hi)).2.1
      have hy := (h.new y (List.mem_of_getElem? hk)).2.1
      have := inc_eq y x hx hy ((hasAll_iff x y).1 hc) a2
      rw [this, hasAll_refl] at a1
      cases a1
/-- With a greater limit each loss contains one of those with the lesser one. -/
theorem found_more {a : Arr} {l1 l2 : Int} {n : Nat} {L M : List (List Int)} (h : AllFound a l1 n L) (h2 : AllFound a l2 n M) (hl : l1 ≤ l2) {y : List Int} (hy : y ∈ M) : holdsOne L y = true := by
  obtain ⟨a1, a2, a3, a4⟩ := h2.new y hy
  exact h.all y a2 a3 a4 (by omega)
/-! a loss that is offered -/
theorem sig_loss {a : Arr} {l1 l2 : List Int} (h : ∀ k : Nat, k < a.gs.length → l1.contains (k : Int) = l2.contains (k : Int)) (ds : List Int) (t : Int) : ∀ k, k ≤ a.gs.length → sigTo a ds l1 t k = sigTo a ds l2 t k
  | 0, _ => rfl
  | k + 1, hk => by rw [sigTo, sigTo, sig_loss h ds t k (by omega), h k (by omega)]
theorem mis_loss {a : Arr} {l1 l2 : List Int} (h : ∀ k : Nat, k < a.gs.length → l1.contains (k : Int) = l2.contains (k : Int)) (ds : List Int) : misS a ds l1 = misS a ds l2 := by
  unfold misS sigL
  congr 1
  refine List.map_congr_left fun t _ => ?_
  exact sig_loss h ds t _ (Nat.le_refl _)
/-- The guns among the first k that are not lost. -/
def leftTo (a : Arr) (loss : List Int) : Nat → List Gun
  | 0 => []
  | k + 1 => if loss.contains (k : Int) = true then leftTo a loss k else leftTo a loss k ++ [a.gs.getD k gun0]
/-- The numbers below k that are lost, in order. -/
def lostTo (loss : List Int) (k : Nat) : List Int := ((List.range k).filter fun (i : Nat) => loss.contains (i : Int)).map fun (i : Nat) => (i : Int)
theorem lost_succ (loss : List Int) (k : Nat) : lostTo loss (k + 1) = lostTo loss k ++ (if loss.contains (k : Int) = true then [(k : Int)] else []) := by
  unfold lostTo
  rw [List.range_succ, List.filter_append, List.map_append]
  congr 1
  rw [List.filter_cons, List.filter_nil]
  split <;> rfl
theorem left_lost (a : Arr) (loss : List Int) : ∀ k, (leftTo a loss k).length + (lostTo loss k).length = k
  | 0 => rfl
  | k + 1 => by
    have ih := left_lost a loss k
    rw [lost_succ, leftTo]
    split
    · simp; omega
    · simp; omega
theorem inc_map {G : Nat} (p : Nat → Bool) : ∀ n fr, fr + n = G → Inc G fr (((List.range' fr n).filter p).map fun (i : Nat) => (i : Int))
  | 0, fr, _ => by simp [Inc]
  | n + 1, fr, h => by
    rw [List.range'_succ, List.filter_cons]
    have ih := inc_map (G := G) p n (fr + 1) (by omega)
    split
    · rw [List.map_cons]
      exact ⟨fr, rfl, Nat.le_refl _, by omega, ih⟩
    · exact ih.mono (by omega)
theorem lost_inc (loss : List Int) (G : Nat) : Inc G 0 (lostTo loss G) := by
  unfold lostTo
  rw [List.range_eq_range']
  exact inc_map _ G 0 (by omega)
theorem lost_has (loss : List Int) {G k : Nat} (h : k < G) : (lostTo loss G).contains (k : Int) = loss.contains (k : Int) := by
  rw [Bool.eq_iff_iff]
  unfold lostTo
  simp only [List.contains_iff_mem, List.mem_map, List.mem_filter, List.mem_range]
  constructor
  · rintro ⟨i, ⟨h1, h2⟩, h3⟩
    have : i = k := by omega
    subst this
    exact h2
  · intro h1
    exact ⟨k, ⟨h, h1⟩, rfl⟩
theorem hasAll_lost {G : Nat} {l : List Int} (hl : Inc G 0 l) (loss : List Int) : hasAll l (lostTo loss G) = hasAll l loss := by
  unfold hasAll
  rw [Bool.eq_iff_iff, List.all_eq_true, List.all_eq_true]
  constructor
  · intro h x hx
    obtain ⟨i, rfl, -, hi⟩ := hl.mem x hx
    rw [← lost_has loss hi]; exact h _ hx
  · intro h x hx
    obtain ⟨i, rfl, -, hi⟩ := hl.mem x hx
    rw [lost_has loss hi]; exact h _ hx
theorem holds_lost {a : Arr} {limit : Int} {n : Nat} {L : List (List Int)} (h : AllFound a limit n L) (loss : List Int) : holdsOne L (lostTo loss a.gs.length) = holdsOne L loss := by
  rw [Bool.eq_iff_iff, holdsOne_iff, holdsOne_iff]
  constructor
  · rintro ⟨l, h1, h2⟩
    exact ⟨l, h1, by rwa [hasAll_lost (h.new l h1).2.1] at h2⟩
  · rintro ⟨l, h1, h2⟩
    exact ⟨l, h1, by rwa [hasAll_lost (h.new l h1).2.1]⟩
theorem sig_zero (sh : List Int) (gs : List Gun) {ds : List Int} (hd : ∀ k, ds.getD k 0 = 0) (loss : List Int) (t : Int) : ∀ k, sigTo ⟨sh, gs⟩ ds loss t k = sigTo ⟨sh, gs⟩ [] loss t k
  | 0 => rfl
  | k + 1 => by rw [sigTo, sigTo, sig_zero sh gs hd loss t k, hd]; simp
theorem sig_app (sh : List Int) (gs : List Gun) (g : Gun) (loss : List Int) (t : Int) : ∀ k, k ≤ gs.length → sigTo ⟨sh, gs ++ [g]⟩ [] loss t k = sigTo ⟨sh, gs⟩ [] loss t k
  | 0, _ => rfl
  | k + 1, h => by
    rw [sigTo, sigTo, sig_app sh gs g loss t k (by omega)]
    dsimp only
    rw [List.getD_eq_getElem?_getD, List.getElem?_append_left (by omega), ← List.getD_eq_getElem?_getD]
theorem sig_left (a : Arr) (loss : List Int) (t : Int) : ∀ k, sigTo ⟨a.sh, leftTo a loss k⟩ [] [] t (leftTo a loss k).length = sigTo a [] loss t k
  | 0 => rfl
  | k + 1 => by
    have ih := sig_left a loss t k
    rw [sigTo, leftTo]
    by_cases h : loss.contains (k : Int) = true
    · rw [if_pos h, if_pos h, ih, Int.add_zero]
    · rw [if_neg h, if_neg h, List.length_append, List.length_singleton, sigTo, sig_app a.sh _ _ [] t _ (Nat.le_refl _), ih]
      congr 1
      dsimp only
      rw [List.getD_eq_getElem?_getD, List.getElem?_append_right (Nat.le_refl _), Nat.sub_self]
      simp
/-- The signature of the guns that are left is that without the lost ones. -/
theorem left_sig (a : Arr) (loss : List Int) : sigL ⟨a.sh, leftTo a loss a.gs.length⟩ (onL ⟨a.sh, leftTo a loss a.gs.length⟩) [] = sigL a (onL a) loss := by
  unfold sigL
  refine List.map_congr_left fun t _ => ?_
  unfold sigAt
  rw [sig_zero _ _ (onL_at _)]
  show sigTo _ _ _ _ (leftTo a loss a.gs.length).length = _
  rw [sig_left a loss t a.gs.length]
  exact (sig_zero a.sh a.gs (onL_at a) loss t a.gs.length).symm
theorem mis_flip (x y : List Int) : ∀ k, misTo x y k = misTo y x k
  | 0 => rfl
  | k + 1 => by rw [misTo, misTo, mis_flip x y k]; unfold magI; omega
theorem leftTo_mem (a : Arr) (loss : List Int) : ∀ k, k ≤ a.gs.length → ∀ g ∈ leftTo a loss k, g ∈ a.gs
  | 0, _, g, h => by simp [leftTo] at h
  | k + 1, hk, g, h => by
    rw [leftTo] at h
    split at h
    · exact leftTo_mem a loss k (by omega) g h
    · rcases List.mem_append.1 h with h | h
      · exact leftTo_mem a loss k (by omega) g h
      · simp only [List.mem_singleton] at h
        subst h
        rw [List.getD_eq_getElem?_getD, List.getElem?_eq_getElem (by omega)]
        exact List.getElem_mem _
theorem left_ok {a : Arr} (ha : okArr a = true) (loss : List Int) (h1 : 1 ≤ (leftTo a loss a.gs.length).length) : okArr ⟨a.sh, leftTo a loss a.gs.length⟩ = true := by
  have hl := okArr_len ha
  have hs := left_lost a loss a.gs.length
  unfold okArr at ha ⊢
  simp only [Bool.and_eq_true, decide_eq_true_eq, List.all_eq_true] at ha ⊢
  unfold arrLen at *
  exact ⟨⟨⟨hl.1, hl.2.1, h1, by dsimp only; omega⟩, ha.1.2⟩, fun g hg => ha.2 g (leftTo_mem a loss _ (Nat.le_refl _) g hg)⟩
/-- All that ShotLost asks of a loss that is offered. -/
theorem lost_said {a : Arr} {limit : Int} {n : Nat} {L : List (List Int)} (h : AllFound a limit n L) (loss : List Int) (h1 : 1 ≤ loss.length) (h2 : loss.length ≤ n) (h3 : (leftTo a loss a.gs.length).length + loss.length = a.gs.length) :
    holdsOne L loss = true ∨ misTo (sigL a (onL a) []) (sigL a (onL a) loss) (a.sh.length + 48) ≤ limit := by
  by_cases hc : holdsOne L loss = true
  · exact .inl hc
  · right
    have hs := left_lost a loss a.gs.length
    rw [← holds_lost h loss] at hc
    rw [mis_flip]
    show misS a (onL a) loss ≤ limit
    rw [← mis_loss (fun k hk => lost_has loss hk) (onL a)]
    by_cases hm : limit < misS a (onL a) (lostTo loss a.gs.length)
    · exact absurd (h.all _ (lost_inc loss _) (by omega) (by omega) hm) hc
    · omega
end Go.Proofs.Ytfengddpfeneiaa
