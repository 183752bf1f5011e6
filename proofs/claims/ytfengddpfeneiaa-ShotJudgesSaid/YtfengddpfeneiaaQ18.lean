/-
  Further bad shots, the table as a list of 4096 numbers, as the specification keeps it: plain laws. Nothing of the program stands here.
-/
import Derived.Test.YtfengddpfeneiaaQ6
import Derived.Test.YtfengddpfeneiaaI1
namespace Go.Proofs.Ytfengddpfeneiaa
open Go.RowKit
set_option linter.unusedSimpArgs false
set_option linter.unusedVariables false

def tv (o : Option Nat) : Int := match o with | some v => (v : Int) | none => -1
def TL (f : Tab) : List Int := (List.range 4096).map fun s => tv (f s)
theorem TL_len (f : Tab) : (TL f).length = 4096 := by unfold TL; rw [List.length_map, List.length_range]
theorem TL_at (f : Tab) {s : Nat} (h : s < 4096) : (TL f)[s]? = some (tv (f s)) := by unfold TL; rw [List.getElem?_map, List.getElem?_range h]; rfl
theorem TL_get (f : Tab) (i : Nat) : (TL f)[i]? = if i < 4096 then some (tv (f i)) else none := by
  by_cases h : i < 4096
  · rw [if_pos h, TL_at f h]
  · rw [if_neg h, List.getElem?_eq_none (by rw [TL_len]; omega)]
theorem TL_set (f g : Tab) {s : Nat} {x : Int} (h : s < 4096) (h1 : tv (g s) = x) (h2 : ∀ t, t ≠ s → g t = f t) : (TL f).set s x = TL g := by
  refine List.ext_getElem? fun i => ?_
  rw [List.getElem?_set, TL_get, TL_get, TL_len]
  by_cases e : s = i
  · subst e
    rw [if_pos rfl, if_pos h, if_pos h, h1]
  · rw [if_neg e]
    split
    · rw [h2 i (fun e2 => e e2.symm)]
    · rfl
theorem TL_put (g : Tab) {t : Nat} (u : Nat) (h : t < 4096) : (TL g).set t (max (tv (g t)) (u : Int)) = TL (putMax g t u) := by
  refine TL_set g _ h ?_ fun s hs => by unfold putMax; rw [if_neg hs]
  unfold putMax
  rw [if_pos rfl]
  cases g t with
  | none => simp only [tv]; omega
  | some o => simp only [tv]; omega
theorem TL_none : TL (fun _ => none) = List.replicate 4096 (-1) := by
  refine List.ext_getElem? fun i => ?_
  rw [TL_get, List.getElem?_replicate]; rfl
theorem TL_one {s : Nat} (h : s < 4096) : (TL (fun _ => none)).set s 0 = TL (fun t => if t = s then some 0 else none) :=
  TL_set _ _ h (by simp [tv]) fun t ht => by rw [if_neg ht]
/-- The most among the first k states. -/
def mxT (f : Tab) : Nat → Nat
  | 0 => 0
  | k + 1 => max (mxT f k) ((f k).getD 0)
theorem mxT_succ (f : Tab) (k : Nat) : ((mxT f (k + 1) : Nat) : Int) = max (mxT f k : Int) (tv (f k)) := by
  rw [mxT]
  cases f k with
  | none => simp only [tv, Option.getD_none]; omega
  | some v => simp only [tv, Option.getD_some]; omega
theorem mxT_has (f : Tab) : ∀ k s v, s < k → f s = some v → v ≤ mxT f k
  | 0, s, v, h, _ => by omega
  | k + 1, s, v, h, hf => by
    rw [mxT]
    by_cases e : s = k
    · subst e; rw [hf, Option.getD_some]; omega
    · have := mxT_has f k s v (by omega) hf; omega
theorem mxT_le {f : Tab} {b : Nat} (h : ∀ s v, f s = some v → v ≤ b) : ∀ k, mxT f k ≤ b
  | 0 => Nat.zero_le _
  | k + 1 => by
    rw [mxT]
    have := mxT_le h k
    cases hf : f k with
    | none => simp only [Option.getD_none]; omega
    | some v => have := h k v hf; simp only [Option.getD_some]; omega
theorem mxT_end {r : Rul} {left best : Nat} {f : Tab} (hf : MostT r left best 0 f) : mxT f 4096 = best :=
  mostT_end (lf := fun _ => false) hf (mxT_le (fun s v h => mostT_le hf h) _) (fun s v h _ => mxT_has f _ s v (hf.ok s v h).1 h) (fun _ _ _ => rfl)
/-- The states below i are done. -/
def fromI (i : Nat) : Nat → Bool := fun s => decide (i ≤ s)
theorem seen_none {r : Rul} {left : Nat} {f g : Tab} {i : Nat} (h : SeenT r left f (fromI i) g) (hf : f i = none) : SeenT r left f (fromI (i + 1)) g := by
  intro s v x h1 h2 h3 h4 h5
  refine h s v x h1 ?_ h3 h4 h5
  unfold fromI at *
  have h2 := of_decide_eq_false h2
  refine decide_eq_false fun h6 => ?_
  have : s = i := by omega
  subst this
  rw [hf] at h1; cases h1
theorem seen_some {r : Rul} {left : Nat} {f g : Tab} {i v : Nat} (h : SeenT r left f (fromI i) g) (hf : f i = some v) : SeenT r left f (fromI (i + 1)) (stepsT r left i v g 2) :=
  seenT_step h hf fun t => by
    unfold fromI
    rw [← decide_not, ← Bool.decide_and]
    exact dec_eq (by omega)
theorem seen_start (r : Rul) (left : Nat) (f : Tab) (g : Tab) : SeenT r left f (fromI 0) g := seenT_start r left (fun _ _ _ => decide_eq_true (Nat.zero_le _)) g
theorem most_next {r : Rul} (hr : okRul r = true) {left best n : Nat} {f g : Tab} (hf : MostT r left best (n + 1) f) (hg : GoodT r left best n g) (hs : SeenT r left f (fromI 4096) g) : MostT r left best n g :=
  mostT_next hr hf hg hs fun s v h => decide_eq_false (by have := (hf.ok s v h).1; omega)
theorem good_steps {r : Rul} (hr : okRul r = true) {left best n i v : Nat} {f g : Tab} (hf : MostT r left best (n + 1) f) (hi : f i = some v) (hg : GoodT r left best n g) (k : Nat) (hk : k ≤ 2) : GoodT r left best n (stepsT r left i v g k) := by
  obtain ⟨h1, h2, h3, h4⟩ := hf.ok i v hi
  exact goodT_steps hr hg h2 h3 h4 k hk
theorem steps_yes {r : Rul} {left s v k : Nat} {g : Tab} (hm : mayBe r (nextS s k) = true) (hl : v + k ≤ left) : stepsT r left s v g (k + 1) = putMax (stepsT r left s v g k) (nextS s k) (v + k) := by
  show stepT r left s v k _ = _
  unfold stepT; rw [if_pos ⟨hm, hl⟩]
theorem steps_no {r : Rul} {left s v k : Nat} {g : Tab} (hm : mayBe r (nextS s k) = false) : stepsT r left s v g (k + 1) = stepsT r left s v g k := by
  show stepT r left s v k _ = _
  unfold stepT; rw [if_neg (by rw [hm]; simp)]
theorem most_val {r : Rul} {left best n : Nat} {f : Tab} (hf : MostT r left best n f) {i v : Nat} (h : f i = some v) : v ≤ best := by
  have := (hf.ok i v h).2.2.2
  unfold topS at this; omega
theorem good_val {r : Rul} {left best n : Nat} {f : Tab} (hf : GoodT r left best n f) {i v : Nat} (h : f i = some v) : v ≤ best := by
  have := (hf.ok i v h).2.2.2
  unfold topS at this; omega
end Go.Proofs.Ytfengddpfeneiaa
