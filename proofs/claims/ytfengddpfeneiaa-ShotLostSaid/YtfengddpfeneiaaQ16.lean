/-
  Shots, the plain laws of ShotWithin and ShotReached: what delays that lie in an array can bring. Nothing of the program stands here.
-/
import Derived.Test.YtfengddpfeneiaaQ10
import Derived.Test.YtfengddpfeneiaaI1
namespace Go.Proofs.Ytfengddpfeneiaa
open Go.RowKit
set_option linter.unusedSimpArgs false
set_option linter.unusedVariables false

theorem inD_allD : ∀ (gs : List Gun) (l : List Int), inD gs l → l ∈ allD gs
  | [], l, h => by
    have : l = [] := List.length_eq_zero_iff.1 h.1
    subst this
    simp [allD]
  | g :: gs, [], h => by simp [inD] at h
  | g :: gs, d :: l, h => by
    have h0 := h.2 0 g d rfl rfl
    have hr := inD_allD gs l ⟨by have := h.1; simpa using this, fun j g' d' h1 h2 => h.2 (j + 1) g' d' (by simpa using h1) (by simpa using h2)⟩
    simp only [allD, List.mem_flatMap, List.mem_range, List.mem_map]
    refine ⟨(d - g.late.lo).toNat, by unfold widS; omega, l, hr, ?_⟩
    congr 1; omega
/-- The delays of an array, as numbers choose them. -/
def lateD (bits : List Int) (i : Nat) (g : Gun) : Int := g.late.lo + restS (pickS bits (i : Int)) (g.late.hi - g.late.lo + 1)
def lateL (gs : List Gun) (bits : List Int) : List Int := (List.range gs.length).map fun i => lateD bits i (gs.getD i gun0)
theorem lateL_len (gs : List Gun) (bits : List Int) : (lateL gs bits).length = gs.length := by simp [lateL]
theorem lateL_at {gs : List Gun} (bits : List Int) {i : Nat} {g : Gun} (h : gs[i]? = some g) : (lateL gs bits)[i]? = some (lateD bits i g) := by
  have hi := (List.getElem?_eq_some_iff.1 h).1
  unfold lateL
  rw [mapRange_at _ hi, List.getD_eq_getElem?_getD, h]; rfl
theorem late_in {gs : List Gun} (bits : List Int) (hg : ∀ g ∈ gs, g.late.lo ≤ g.late.hi) : inD gs (lateL gs bits) := by
  refine ⟨lateL_len gs bits, fun j g d h1 h2 => ?_⟩
  rw [lateL_at bits h1] at h2
  cases h2
  have := restS_bd (pickS bits (j : Int)) (many := g.late.hi - g.late.lo + 1) (by have := hg g (List.mem_of_getElem? h1); omega)
  unfold lateD
  omega
theorem betTo_has (sh : List Int) (g : Gun) (t : Int) : ∀ k j, j < k → (betTo sh g t k).lo ≤ giveS sh g t (g.late.lo + (j : Int)) ∧ giveS sh g t (g.late.lo + (j : Int)) ≤ (betTo sh g t k).hi
  | 0, j, h => by omega
  | k + 1, j, h => by
    rw [betTo]
    dsimp only
    by_cases e : j = k
    · subst e; omega
    · have := betTo_has sh g t k j (by omega)
      omega
theorem betS_has (sh : List Int) {g : Gun} (t : Int) {d : Int} (h1 : g.late.lo ≤ d) (h2 : d ≤ g.late.hi) : (betS sh g t).lo ≤ giveS sh g t d ∧ giveS sh g t d ≤ (betS sh g t).hi := by
  have := betTo_has sh g t (g.late.hi + 1 - g.late.lo).toNat (d - g.late.lo).toNat (by omega)
  rw [show g.late.lo + ((d - g.late.lo).toNat : Int) = d by omega] at this
  exact this
theorem sig_in {a : Arr} {ds : List Int} (h : inD a.gs ds) (t : Int) : ∀ k, k ≤ a.gs.length → (encTo a t k).lo ≤ sigTo a ds [] t k ∧ sigTo a ds [] t k ≤ (encTo a t k).hi
  | 0, _ => by simp [encTo, sigTo]
  | k + 1, hk => by
    have ih := sig_in h t k (by omega)
    obtain ⟨g, hg⟩ := some_of_lt (xs := a.gs) rfl (show k < a.gs.length by omega)
    obtain ⟨d, hd⟩ := some_of_lt h.1 (show k < a.gs.length by omega)
    have hr := h.2 k g d hg hd
    have hb := betS_has a.sh t hr.1 hr.2
    rw [encTo, sigTo, List.getD_eq_getElem?_getD, List.getD_eq_getElem?_getD, hg, hd]
    simp only [Option.getD_some, List.contains_nil, Bool.false_eq_true, if_false, plusB]
    omega
theorem within_said {a : Arr} {ds : List Int} (h : inD a.gs ds) (t : Nat) : (encAtS a t).lo ≤ sigAt a ds [] t ∧ sigAt a ds [] t ≤ (encAtS a t).hi := sig_in h t _ (Nat.le_refl _)
theorem inD_ok {a : Arr} (ha : okArr a = true) {ds : List Int} (h : inD a.gs ds) : okDel a ds = true := by
  unfold okDel
  rw [h.1, decide_eq_true rfl, Bool.true_and, List.all_eq_true]
  intro d hd
  obtain ⟨i, hi⟩ := List.mem_iff_getElem?.1 hd
  have hl := (List.getElem?_eq_some_iff.1 hi).1
  obtain ⟨g, hg⟩ := some_of_lt (xs := a.gs) rfl (show i < a.gs.length by have := h.1; omega)
  have h1 := h.2 i g d hg hi
  have h2 := okArr_gun ha (List.mem_of_getElem? hg)
  unfold okNum
  exact decide_eq_true ⟨by omega, by omega⟩
theorem onL_ok (a : Arr) : okDel a (onL a) = true := by
  unfold okDel onL
  rw [List.length_replicate, decide_eq_true rfl, Bool.true_and, List.all_eq_true]
  intro d hd
  rw [(List.mem_replicate.1 hd).2]; rfl
theorem errA_ok {a : Arr} (ha : okArr a = true) {ds : List Int} (h : okDel a ds = true) : errA a ds = 0 := by unfold errA; rw [if_pos ha, if_pos h]
theorem mis_self (l : List Int) : ∀ k, misTo l l k = 0
  | 0 => rfl
  | k + 1 => by rw [misTo, mis_self l k]; unfold magI; omega
theorem mis_on (a : Arr) : misS a (onL a) [] = 0 := mis_self _ _
/-! the worst delays -/
theorem better_fold (a : Arr) : ∀ (ls : List (List Int)) (b : List Int × Int), (b.2 ≤ (ls.foldl (better a) b).2) ∧ (∀ l ∈ ls, misS a l [] ≤ (ls.foldl (better a) b).2) ∧ (ls.foldl (better a) b = b ∨ ((ls.foldl (better a) b).1 ∈ ls ∧ (ls.foldl (better a) b).2 = misS a (ls.foldl (better a) b).1 []))
  | [], b => ⟨Int.le_refl _, fun l h => by simp at h, .inl rfl⟩
  | x :: ls, b => by
    rw [List.foldl_cons]
    obtain ⟨h1, h2, h3⟩ := better_fold a ls (better a b x)
    have hb : b.2 ≤ (better a b x).2 ∧ misS a x [] ≤ (better a b x).2 ∧ (better a b x = b ∨ better a b x = (x, misS a x [])) := by
      unfold better
      split
      · exact ⟨by dsimp only; omega, Int.le_refl _, .inr rfl⟩
      · exact ⟨Int.le_refl _, by omega, .inl rfl⟩
    refine ⟨by omega, fun l hl => ?_, ?_⟩
    · rcases List.mem_cons.1 hl with rfl | hl
      · omega
      · exact h2 l hl
    · rcases h3 with h3 | h3
      · rcases hb.2.2 with e | e
        · exact .inl (h3.trans e)
        · right
          rw [h3, e]
          exact ⟨List.mem_cons_self, rfl⟩
      · exact .inr ⟨List.mem_cons_of_mem _ h3.1, h3.2⟩
theorem mis_nn (a : Arr) (ds loss : List Int) : 0 ≤ misS a ds loss := by
  have key : ∀ (x y : List Int) k, 0 ≤ misTo x y k := fun x y k => by
    induction k with
    | zero => simp [misTo]
    | succ k ih => rw [misTo]; unfold magI; omega
  exact key _ _ _
theorem worst_said {a : Arr} (ha : okArr a = true) : inD a.gs (worstS a).1 ∧ (worstS a).2 = misS a (worstS a).1 [] ∧ ∀ l, inD a.gs l → misS a l [] ≤ (worstS a).2 := by
  obtain ⟨h1, h2, h3⟩ := better_fold a (allD a.gs) ([], -1)
  have h0 := allD_first a.gs (fun g hg => (okArr_gun ha hg).2.2.2.2.2.1)
  have hm := h2 _ (List.mem_of_getElem? h0)
  have hn := mis_nn a (a.gs.map (·.late.lo)) []
  refine ⟨?_, ?_, fun l hl => h2 l (inD_allD _ _ hl)⟩
  · rcases h3 with h3 | h3
    · rw [h3] at hm; dsimp only at hm; omega
    · exact allD_in _ _ h3.1
  · rcases h3 with h3 | h3
    · rw [h3] at hm; dsimp only at hm; omega
    · exact h3.2
/-! both ends are reached -/
theorem pickS_nil (i : Int) : pickS [] i = 0 := rfl
theorem restS_zero (m : Int) : restS 0 m = 0 := by unfold restS; split <;> simp
theorem late_nil (gs : List Gun) : lateL gs [] = lowsD gs := by
  refine List.ext_getElem? fun i => ?_
  by_cases hi : i < gs.length
  · obtain ⟨g, hg⟩ := some_of_lt (xs := gs) rfl hi
    rw [lateL_at [] hg, lowsD_at hg]
    unfold lateD
    rw [pickS_nil, restS_zero, Int.add_zero]
  · rw [List.getElem?_eq_none (by rw [lateL_len]; omega), List.getElem?_eq_none (by rw [lowsD_len]; omega)]
/-- The least, and the most, that the first k delays of a gun bring, and the delays that bring it. -/
structure EndsAt (sh : List Int) (g : Gun) (t : Int) (k : Nat) (least most dl dh : Int) : Prop where
  l1 : g.late.lo ≤ dl ∧ dl ≤ g.late.hi
  h1 : g.late.lo ≤ dh ∧ dh ≤ g.late.hi
  l2 : 0 < k → least = (betTo sh g t k).lo ∧ giveS sh g t dl = least
  h2 : 0 < k → most = (betTo sh g t k).hi ∧ giveS sh g t dh = most
theorem ends_start (sh : List Int) {g : Gun} (h : g.late.lo ≤ g.late.hi) (t : Int) : EndsAt sh g t 0 0 0 g.late.lo g.late.lo := ⟨⟨Int.le_refl _, h⟩, ⟨Int.le_refl _, h⟩, fun h => by omega, fun h => by omega⟩
theorem ends_next {sh : List Int} {g : Gun} {t : Int} {k : Nat} {least most dl dh d x : Int} (h : EndsAt sh g t k least most dl dh) (hd : d = g.late.lo + (k : Int)) (hh : d ≤ g.late.hi) (hx : x = giveS sh g t d) :
    EndsAt sh g t (k + 1) (if d = g.late.lo ∨ x < least then x else least) (if d = g.late.lo ∨ most < x then x else most) (if d = g.late.lo ∨ x < least then d else dl) (if d = g.late.lo ∨ most < x then d else dh) := by
  obtain ⟨l1, h1, l2, h2⟩ := h
  have hb : betTo sh g t (k + 1) = ⟨min (betTo sh g t k).lo x, max (betTo sh g t k).hi x⟩ := by rw [betTo, hx, hd]
  have hz : k = 0 → betTo sh g t k = ⟨x, x⟩ := fun e => by subst e; rw [betTo, hx, hd]; simp [still]
  refine ⟨by split <;> omega, by split <;> omega, fun _ => ?_, fun _ => ?_⟩
  · rw [hb]
    dsimp only
    by_cases e : k = 0
    · rw [hz e]
      dsimp only
      have : d = g.late.lo := by omega
      rw [if_pos (.inl this), if_pos (.inl this)]
      exact ⟨by omega, hx.symm⟩
    · have := l2 (by omega)
      by_cases c : d = g.late.lo ∨ x < least
      · rw [if_pos c, if_pos c]
        exact ⟨by omega, hx.symm⟩
      · rw [if_neg c, if_neg c]
        exact ⟨by omega, this.2⟩
  · rw [hb]
    dsimp only
    by_cases e : k = 0
    · rw [hz e]
      dsimp only
      have : d = g.late.lo := by omega
      rw [if_pos (.inl this), if_pos (.inl this)]
      exact ⟨by omega, hx.symm⟩
    · have := h2 (by omega)
      by_cases c : d = g.late.lo ∨ most < x
      · rw [if_pos c, if_pos c]
        exact ⟨by omega, hx.symm⟩
      · rw [if_neg c, if_neg c]
        exact ⟨by omega, this.2⟩
/-- The delays of the first i guns bring the ends of what the guns can give. -/
def lowTo (a : Arr) (t : Int) (ls : List Int) (i : Nat) : Prop := inD a.gs ls ∧ ∀ (k : Nat) (g : Gun) (d : Int), k < i → a.gs[k]? = some g → ls[k]? = some d → giveS a.sh g t d = (betS a.sh g t).lo
def highTo (a : Arr) (t : Int) (ls : List Int) (i : Nat) : Prop := inD a.gs ls ∧ ∀ (k : Nat) (g : Gun) (d : Int), k < i → a.gs[k]? = some g → ls[k]? = some d → giveS a.sh g t d = (betS a.sh g t).hi
theorem inD_set {gs : List Gun} {l : List Int} (h : inD gs l) {i : Nat} {g : Gun} (hg : gs[i]? = some g) {d : Int} (h1 : g.late.lo ≤ d ∧ d ≤ g.late.hi) : inD gs (l.set i d) := by
  refine ⟨by rw [List.length_set]; exact h.1, fun j g' d' h2 h3 => ?_⟩
  rw [List.getElem?_set] at h3
  by_cases e : i = j
  · subst e
    rw [if_pos rfl] at h3
    split at h3
    · cases h3
      rw [hg] at h2
      cases h2
      exact h1
    · cases h3
  · rw [if_neg e] at h3
    exact h.2 j g' d' h2 h3
theorem get_set {l : List Int} {i : Nat} (d : Int) (h : i < l.length) : (l.set i d)[i]? = some d := by rw [List.getElem?_set, if_pos rfl, if_pos h]
theorem set_set (l : List Int) (i : Nat) (d e : Int) : (l.set i d).set i e = l.set i e := by
  refine List.ext_getElem? fun j => ?_
  rw [List.getElem?_set, List.getElem?_set, List.getElem?_set, List.length_set]
  split <;> rfl
theorem lowTo_next {a : Arr} {t : Int} {ls : List Int} {i : Nat} (h : lowTo a t ls i) {g : Gun} (hg : a.gs[i]? = some g) {least most dl dh : Int} (he : EndsAt a.sh g t (widS g) least most dl dh) (hw : 0 < widS g) : lowTo a t (ls.set i dl) (i + 1) := by
  refine ⟨inD_set h.1 hg he.l1, fun k g' d' hk h1 h2 => ?_⟩
  rw [List.getElem?_set] at h2
  by_cases e : i = k
  · subst e
    rw [if_pos rfl] at h2
    split at h2
    · cases h2
      rw [hg] at h1
      cases h1
      have := he.l2 hw
      rw [this.2, this.1]; rfl
    · cases h2
  · rw [if_neg e] at h2
    exact h.2 k g' d' (by omega) h1 h2
theorem highTo_next {a : Arr} {t : Int} {ls : List Int} {i : Nat} (h : highTo a t ls i) {g : Gun} (hg : a.gs[i]? = some g) {least most dl dh : Int} (he : EndsAt a.sh g t (widS g) least most dl dh) (hw : 0 < widS g) : highTo a t (ls.set i dh) (i + 1) := by
  refine ⟨inD_set h.1 hg he.h1, fun k g' d' hk h1 h2 => ?_⟩
  rw [List.getElem?_set] at h2
  by_cases e : i = k
  · subst e
    rw [if_pos rfl] at h2
    split at h2
    · cases h2
      rw [hg] at h1
      cases h1
      have := he.h2 hw
      rw [this.2, this.1]; rfl
    · cases h2
  · rw [if_neg e] at h2
    exact h.2 k g' d' (by omega) h1 h2
theorem lowTo_sum {a : Arr} {t : Int} {ls : List Int} (h : lowTo a t ls a.gs.length) : ∀ k, k ≤ a.gs.length → sigTo a ls [] t k = (encTo a t k).lo
  | 0, _ => rfl
  | k + 1, hk => by
    have ih := lowTo_sum h k (by omega)
    obtain ⟨g, hg⟩ := some_of_lt (xs := a.gs) rfl (show k < a.gs.length by omega)
    obtain ⟨d, hd⟩ := some_of_lt h.1.1 (show k < a.gs.length by omega)
    have he := h.2 k g d (by omega) hg hd
    rw [encTo, sigTo, List.getD_eq_getElem?_getD, List.getD_eq_getElem?_getD, hg, hd]
    simp only [Option.getD_some, List.contains_nil, Bool.false_eq_true, if_false, plusB]
    omega
theorem highTo_sum {a : Arr} {t : Int} {ls : List Int} (h : highTo a t ls a.gs.length) : ∀ k, k ≤ a.gs.length → sigTo a ls [] t k = (encTo a t k).hi
  | 0, _ => rfl
  | k + 1, hk => by
    have ih := highTo_sum h k (by omega)
    obtain ⟨g, hg⟩ := some_of_lt (xs := a.gs) rfl (show k < a.gs.length by omega)
    obtain ⟨d, hd⟩ := some_of_lt h.1.1 (show k < a.gs.length by omega)
    have he := h.2 k g d (by omega) hg hd
    rw [encTo, sigTo, List.getD_eq_getElem?_getD, List.getD_eq_getElem?_getD, hg, hd]
    simp only [Option.getD_some, List.contains_nil, Bool.false_eq_true, if_false, plusB]
    omega
end Go.Proofs.Ytfengddpfeneiaa
