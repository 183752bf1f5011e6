/-
  Plain laws of steps: what is greater before a step is not less after it; what lies in bounds lies in those after a step. Nothing of the program stands here.
  The plain law of the fastest plan: it keeps the limits, none that keeps them is faster, and none as fast comes before it. Nothing of the program stands here.
  The plain law of the search through all plans: what it finds is the fastest plan. Nothing of the program stands here.
-/
import Derived.Test.YthjdjpcomocffaaGreatW13
import Derived.Test.YthjdjpcomocffaaGreatH1
namespace Go.Proofs.YthjdjpcomocffaaGreat
open Go.RowKit Go.Shelf

/-- A number lies in a bound. -/
def inB (x : Int) (b : Bnd) : Prop := b.lo ≤ x ∧ x ≤ b.hi
/-- So many numbers, each in its bound. -/
def Lies (xs : List Int) (bs : List Bnd) : Prop := xs.length = bs.length ∧ ∀ (i : Nat) (x : Int) (b : Bnd), xs[i]? = some x → bs[i]? = some b → inB x b
/-- So many numbers, none greater than the other one. -/
def LeL (xs ys : List Int) : Prop := xs.length = ys.length ∧ ∀ (i : Nat) (x y : Int), xs[i]? = some x → ys[i]? = some y → x ≤ y

theorem stepL_length (s : Strm) (o d : List Int) : (stepL s o d).length = o.length := eachL_length _ _ _
theorem encL_length (s : Strm) (bs : List Bnd) (d : Bnd) : (encL s bs d).length = bs.length := eachL_length _ _ _
theorem stepL_at (s : Strm) (o d : List Int) {i : Nat} (h : i < o.length) : (stepL s o d)[i]? = some (eased s (s.sec i) (o.getD i s.head) (prev s.head o i) (d.getD i 0)) := eachL_get _ _ _ h
theorem encL_at (s : Strm) (bs : List Bnd) (d : Bnd) {i : Nat} (h : i < bs.length) : (encL s bs d)[i]? = some (encB s d i (bs.getD i (still s.head)) (prev (still s.head) bs i)) := eachL_get _ _ _ h
theorem lt_of_at {α : Type} {l : List α} {i : Nat} {x : α} (h : l[i]? = some x) : i < l.length := (List.getElem?_eq_some_iff.1 h).1
theorem getD_of {α : Type} {l : List α} {i : Nat} {x : α} (d : α) (h : l[i]? = some x) : l.getD i d = x := by rw [List.getD_eq_getElem?_getD, h]; rfl
theorem Lies.getD {xs : List Int} {bs : List Bnd} (h : Lies xs bs) {i : Nat} (hi : i < bs.length) (n : Int) (b : Bnd) : (bs.getD i b).lo ≤ xs.getD i n ∧ xs.getD i n ≤ (bs.getD i b).hi :=
  h.2 i _ _ (getD_get n (by have := h.1; omega)) (getD_get b hi)
theorem LeL.getD {xs ys : List Int} (h : LeL xs ys) {i : Nat} (n : Int) : xs.getD i n ≤ ys.getD i n := by
  by_cases hi : i < xs.length
  · exact h.2 i _ _ (getD_get n hi) (getD_get n (by have := h.1; omega))
  · rw [List.getD_eq_getElem?_getD, List.getD_eq_getElem?_getD, List.getElem?_eq_none (by omega), List.getElem?_eq_none (by have := h.1; omega)]; exact Int.le_refl _
theorem Lies.prev {xs : List Int} {bs : List Bnd} (h : Lies xs bs) {i : Nat} (hi : i < bs.length) (n : Int) : (prev (still n) bs i).lo ≤ prev n xs i ∧ prev n xs i ≤ (prev (still n) bs i).hi := by
  cases i with
  | zero => exact ⟨Int.le_refl _, Int.le_refl _⟩
  | succ k => exact h.getD (by omega) n (still n)
theorem LeL.prev {xs ys : List Int} (h : LeL xs ys) (n : Int) (i : Nat) : prev n xs i ≤ prev n ys i := by
  cases i with
  | zero => exact Int.le_refl _
  | succ k => exact h.getD n
/-- Offsets that lie in bounds lie in those after a step. -/
theorem Lies.step {s : Strm} {o dr : List Int} {bs : List Bnd} {d : Bnd} (hs : okStrm s = true) (hl : bs.length = s.secs.length) (h : Lies o bs) (hd : ∀ i, i < bs.length → inB (dr.getD i 0) d) : Lies (stepL s o dr) (encL s bs d) := by
  refine ⟨by rw [stepL_length, encL_length]; exact h.1, fun i x b hx hb => ?_⟩
  have hi : i < bs.length := by have := lt_of_at hb; rwa [encL_length] at this
  rw [stepL_at s o dr (by have := h.1; omega)] at hx
  rw [encL_at s bs d hi] at hb
  cases hx
  cases hb
  have a := h.getD hi s.head (still s.head)
  have p := h.prev hi s.head
  have q := hd i hi
  exact ⟨eased_mono (ok_head hs) (ok_sec hs (by omega)) a.1 p.1 q.1, eased_mono (ok_head hs) (ok_sec hs (by omega)) a.2 p.2 q.2⟩
theorem prev_map {α β : Type} (f : α → β) (h : α) (l : List α) (i : Nat) : prev (f h) (l.map f) i = f (prev h l i) := by
  cases i with
  | zero => rfl
  | succ k => simp only [prev, List.getD_eq_getElem?_getD, List.getElem?_map]; cases l[k]? <;> rfl
theorem getD_map {α β : Type} (f : α → β) (h : α) (l : List α) (i : Nat) : (l.map f).getD i (f h) = f (l.getD i h) := by
  simp only [List.getD_eq_getElem?_getD, List.getElem?_map]; cases l[i]? <;> rfl
/-- Both ends of the bounds are themselves offsets after a step. -/
theorem stepL_lo (s : Strm) (bs : List Bnd) (d : Bnd) (dr : List Int) (hd : ∀ i, i < bs.length → dr.getD i 0 = d.lo) : stepL s (bs.map (·.lo)) dr = (encL s bs d).map (·.lo) := by
  unfold stepL encL eachL
  rw [List.map_map, List.length_map]
  refine List.map_congr_left fun i hi => ?_
  have hi' : i < bs.length := by simpa using hi
  show eased s (s.sec i) ((bs.map (·.lo)).getD i (still s.head).lo) (prev (still s.head).lo (bs.map (·.lo)) i) (dr.getD i 0) = _
  rw [getD_map (fun b : Bnd => b.lo), prev_map (fun b : Bnd => b.lo), hd i hi']
  rfl
theorem stepL_hi (s : Strm) (bs : List Bnd) (d : Bnd) (dr : List Int) (hd : ∀ i, i < bs.length → dr.getD i 0 = d.hi) : stepL s (bs.map (·.hi)) dr = (encL s bs d).map (·.hi) := by
  unfold stepL encL eachL
  rw [List.map_map, List.length_map]
  refine List.map_congr_left fun i hi => ?_
  have hi' : i < bs.length := by simpa using hi
  show eased s (s.sec i) ((bs.map (·.hi)).getD i (still s.head).hi) (prev (still s.head).hi (bs.map (·.hi)) i) (dr.getD i 0) = _
  rw [getD_map (fun b : Bnd => b.hi), prev_map (fun b : Bnd => b.hi), hd i hi']
  rfl
/-- More of anything before a step is not less after it. -/
theorem LeL.step {s : Strm} {o p d e : List Int} (hs : okStrm s = true) (hl : o.length = s.secs.length) (h1 : LeL o p) (h2 : LeL d e) : LeL (stepL s o d) (stepL s p e) := by
  refine ⟨by rw [stepL_length, stepL_length]; exact h1.1, fun i x y hx hy => ?_⟩
  have hi : i < o.length := by have := lt_of_at hx; rwa [stepL_length] at this
  rw [stepL_at s o d hi] at hx
  rw [stepL_at s p e (by have := h1.1; omega)] at hy
  cases hx
  cases hy
  exact eased_mono (ok_head hs) (ok_sec hs (by omega)) (h1.getD _) (h1.prev _ _) (h2.getD _)
/-! Bends and pulls. -/
theorem bend_in {x p : Int} {own bef : Bnd} (h1 : inB x own) (h2 : inB p bef) : inB (magS (x - p)) (bendB own bef) := by
  unfold inB magS bendB at *; dsimp only; omega
theorem bendL_length (s : Strm) (bs : List Bnd) : (bendL s bs).length = bs.length := eachL_length _ _ _
theorem bendL_at (s : Strm) (bs : List Bnd) {i : Nat} (h : i < bs.length) : (bendL s bs)[i]? = some (bendB (bs.getD i (still s.head)) (prev (still s.head) bs i)) := eachL_get _ _ _ h
/-- The bend of a section. -/
def bendAt (s : Strm) (o : List Int) (i : Nat) : Int := magS (o.getD i s.head - prev s.head o i)
theorem Lies.bend {s : Strm} {o : List Int} {bs : List Bnd} (h : Lies o bs) {i : Nat} (hi : i < bs.length) : inB (bendAt s o i) ((bendL s bs).getD i ⟨0, 0⟩) := by
  rw [getD_of _ (bendL_at s bs hi)]
  exact bend_in (h.getD hi _ _) (h.prev hi _)
/-- The sum of so many numbers from one on. -/
def sumFr (g : Nat → Int) (i : Nat) : Nat → Int
  | 0 => 0
  | m + 1 => g i + sumFr g (i + 1) m
theorem sumFr_succ (g : Nat → Int) (i m : Nat) : sumFr g i (m + 1) = g i + sumFr g (i + 1) m := rfl
theorem sumFr_mono {f g : Nat → Int} : ∀ (m i : Nat), (∀ j, i ≤ j → j < i + m → f j ≤ g j) → sumFr f i m ≤ sumFr g i m
  | 0, _, _ => Int.le_refl _
  | m + 1, i, h => by
    have h1 := h i (Nat.le_refl _) (by omega)
    have h2 := sumFr_mono (f := f) (g := g) m (i + 1) fun j a b => h j (by omega) (by omega)
    rw [sumFr_succ, sumFr_succ]; omega
theorem sumB_drop (Z : List Bnd) : ∀ (m i : Nat), i + m = Z.length → sumB (Z.drop i) = ⟨sumFr (fun j => (Z.getD j ⟨0, 0⟩).lo) i m, sumFr (fun j => (Z.getD j ⟨0, 0⟩).hi) i m⟩
  | 0, i, h => by rw [List.drop_eq_nil_of_le (by omega)]; rfl
  | m + 1, i, h => by
    have e := sumB_step (getD_get (⟨0, 0⟩ : Bnd) (l := Z) (i := i) (by omega))
    rw [e, sumB_drop Z m (i + 1) (by omega)]
    simp only [sumFr_succ]
    rw [Int.add_comm, Int.add_comm (sumFr _ _ _)]
theorem zip_getD (s : Strm) (L : List Bnd) (sl fa : Int) (hl : L.length = s.secs.length) {j : Nat} (hj : j < L.length) : (List.zipWith (ownPull sl fa) s.secs L).getD j ⟨0, 0⟩ = ownPull sl fa (s.sec j) (L.getD j ⟨0, 0⟩) := by
  rw [List.getD_eq_getElem?_getD, List.getElem?_zipWith, sec_at s (by omega), getD_get (⟨0, 0⟩ : Bnd) hj]; rfl
/-- The pull of a section. -/
def pullAt (s : Strm) (w : Int) (f : Nat → Int) (j : Nat) : Int := (s.sec j).drag * (w * w + f j)
theorem sq_mono {a b : Int} (h0 : 0 ≤ a) (h : a ≤ b) : a * a ≤ b * b := Int.mul_le_mul h h h0 (by omega)
theorem pullL_at (s : Strm) (bs : List Bnd) (v : Int) (cur : Bnd) (hl : bs.length = s.secs.length) {i : Nat} (hi : i < bs.length) :
    (pullL s bs v cur)[i]? = some ⟨sumFr (pullAt s (max 0 (v - cur.hi)) fun j => ((bendL s bs).getD j ⟨0, 0⟩).lo) i (bs.length - i), sumFr (pullAt s (max 0 (v - cur.lo)) fun j => ((bendL s bs).getD j ⟨0, 0⟩).hi) i (bs.length - i)⟩ := by
  unfold pullL
  rw [List.getElem?_map, List.getElem?_range hi]
  have e := sumB_drop (List.zipWith (ownPull (max 0 (v - cur.hi)) (max 0 (v - cur.lo))) s.secs (bendL s bs)) (bs.length - i) i (by rw [List.length_zipWith, bendL_length]; omega)
  have c : ∀ f g : Nat → Int, (∀ j, i ≤ j → j < i + (bs.length - i) → f j = g j) → sumFr f i (bs.length - i) = sumFr g i (bs.length - i) := fun f g h => Int.le_antisymm (sumFr_mono _ _ fun j a b => by rw [h j a b]; exact Int.le_refl _) (sumFr_mono _ _ fun j a b => by rw [h j a b]; exact Int.le_refl _)
  show some (sumB _) = _
  rw [e]
  congr 2
  · refine c _ _ fun j a b => ?_
    rw [zip_getD s _ _ _ (by rw [bendL_length]; exact hl) (by rw [bendL_length]; omega)]; rfl
  · refine c _ _ fun j a b => ?_
    rw [zip_getD s _ _ _ (by rw [bendL_length]; exact hl) (by rw [bendL_length]; omega)]; rfl
theorem pullAt_le {s : Strm} (hs : okStrm s = true) {j : Nat} (hj : j < s.secs.length) {w z : Int} {f g : Nat → Int} (hw : 0 ≤ w) (hz : w ≤ z) (hf : f j ≤ g j) : pullAt s w f j ≤ pullAt s z g j := by
  obtain ⟨k0, k1, k2, k3, k4, k5, k6, k7, k8, k9⟩ := of_decide_eq_true (ok_sec hs hj)
  have := sq_mono hw hz
  exact Int.mul_le_mul_of_nonneg_left (by omega) k6
/-- The pulls of offsets within bounds lie in theirs, with any current along the way. -/
theorem Lies.pull {s : Strm} {o : List Int} {bs : List Bnd} {v c : Int} {cur : Bnd} (hs : okStrm s = true) (hl : bs.length = s.secs.length) (h : Lies o bs) (hc : inB c cur) {i : Nat} (hi : i < bs.length) :
    inB (sumFr (pullAt s (max 0 (v - c)) (bendAt s o)) i (bs.length - i)) ((pullL s bs v cur).getD i ⟨0, 0⟩) := by
  rw [getD_of _ (pullL_at s bs v cur hl hi)]
  obtain ⟨c1, c2⟩ := hc
  exact ⟨sumFr_mono _ _ fun j a b => pullAt_le hs (by omega) (by omega) (by omega) (h.bend (by omega)).1, sumFr_mono _ _ fun j a b => pullAt_le hs (by omega) (by omega) (by omega) (h.bend (by omega)).2⟩
/-! The first step in which something holds. -/
theorem fstN_hit {p : Nat → Bool} {t : Nat} (hp : p t = true) : ∀ n, t < n → 0 ≤ fstN p n ∧ fstN p n ≤ t
  | 0, h => absurd h (Nat.not_lt_zero _)
  | n + 1, h => by
    rw [fstN_step]
    by_cases ht : t < n
    · have := fstN_hit hp n ht
      rw [if_pos this.1]; exact this
    · obtain rfl : t = n := by omega
      have := fstN_bd p t
      split
      · omega
      · omega
theorem fstN_none {p : Nat → Bool} : ∀ n, fstN p n = -1 ↔ ∀ t, t < n → p t = false
  | 0 => by simp [fstN]
  | n + 1 => by
    have ih := fstN_none (p := p) n
    constructor
    · intro h t ht
      cases hp : p t with
      | false => rfl
      | true => have := fstN_hit hp (n + 1) ht; omega
    · intro h
      have e := ih.2 fun t ht => h t (by omega)
      rw [fstN_step, e, if_neg (by omega), if_neg (by simp [h n (by omega)])]
theorem bentS_of {s : Strm} {bs : List Bnd} {i : Nat} (hi : i < bs.length) (h : s.bend < ((bendL s bs).getD i ⟨0, 0⟩).hi) : bentS s bs = true := by
  unfold bentS
  rw [List.any_eq_true]
  exact ⟨_, List.mem_of_getElem? (getD_get (⟨0, 0⟩ : Bnd) (l := bendL s bs) (i := i) (by rw [bendL_length]; exact hi)), decide_eq_true h⟩
theorem pulledS_of {s : Strm} {bs : List Bnd} {v : Int} {cur : Bnd} {i : Nat} (hi : i < bs.length) (h : (s.sec i).cap < ((pullL s bs v cur).getD i ⟨0, 0⟩).hi) : pulledS s bs v cur = true := by
  unfold pulledS
  rw [List.any_eq_true]
  exact ⟨i, by simpa using hi, decide_eq_true h⟩
/-! Narrower bounds. -/
def NarB (a b : Bnd) : Prop := b.lo ≤ a.lo ∧ a.hi ≤ b.hi
def NarL (xs ys : List Bnd) : Prop := xs.length = ys.length ∧ ∀ (i : Nat) (x y : Bnd), xs[i]? = some x → ys[i]? = some y → NarB x y
theorem NarB.refl (b : Bnd) : NarB b b := ⟨Int.le_refl _, Int.le_refl _⟩
theorem NarL.getD {xs ys : List Bnd} (h : NarL xs ys) {i : Nat} (n : Bnd) : NarB (xs.getD i n) (ys.getD i n) := by
  by_cases hi : i < xs.length
  · exact h.2 i _ _ (getD_get n hi) (getD_get n (by have := h.1; omega))
  · rw [List.getD_eq_getElem?_getD, List.getD_eq_getElem?_getD, List.getElem?_eq_none (by omega), List.getElem?_eq_none (by have := h.1; omega)]; exact NarB.refl _
theorem NarL.prev {xs ys : List Bnd} (h : NarL xs ys) (n : Bnd) (i : Nat) : NarB (prev n xs i) (prev n ys i) := by
  cases i with
  | zero => exact NarB.refl _
  | succ k => exact h.getD n
theorem NarL.enc {s : Strm} {bs cs : List Bnd} {d e : Bnd} (hs : okStrm s = true) (hl : bs.length = s.secs.length) (h : NarL bs cs) (hd : NarB d e) : NarL (encL s bs d) (encL s cs e) := by
  refine ⟨by rw [encL_length, encL_length]; exact h.1, fun i x y hx hy => ?_⟩
  have hi : i < bs.length := by have := lt_of_at hx; rwa [encL_length] at this
  rw [encL_at s bs d hi] at hx
  rw [encL_at s cs e (by have := h.1; omega)] at hy
  cases hx
  cases hy
  have a := h.getD (i := i) (still s.head)
  have p := h.prev (still s.head) i
  exact ⟨eased_mono (ok_head hs) (ok_sec hs (by omega)) a.1 p.1 hd.1, eased_mono (ok_head hs) (ok_sec hs (by omega)) a.2 p.2 hd.2⟩
theorem NarL.bendHi {s : Strm} {bs cs : List Bnd} (h : NarL bs cs) {i : Nat} (hi : i < bs.length) : ((bendL s bs).getD i ⟨0, 0⟩).hi ≤ ((bendL s cs).getD i ⟨0, 0⟩).hi := by
  rw [getD_of _ (bendL_at s bs hi), getD_of _ (bendL_at s cs (by have := h.1; omega))]
  have a := h.getD (i := i) (still s.head)
  have p := h.prev (still s.head) i
  unfold NarB at a p
  unfold bendB
  dsimp only
  omega
theorem NarL.pullHi {s : Strm} {bs cs : List Bnd} {v : Int} {c d : Bnd} (hs : okStrm s = true) (hl : bs.length = s.secs.length) (h : NarL bs cs) (hc : d.lo ≤ c.lo) {i : Nat} (hi : i < bs.length) :
    ((pullL s bs v c).getD i ⟨0, 0⟩).hi ≤ ((pullL s cs v d).getD i ⟨0, 0⟩).hi := by
  have hn := h.1
  rw [getD_of _ (pullL_at s bs v c hl hi), getD_of _ (pullL_at s cs v d (by omega) (by omega))]
  dsimp only
  rw [← hn]
  exact sumFr_mono _ _ fun j a b => pullAt_le hs (by omega) (by omega) (by omega) (h.bendHi (by omega))
theorem NarL.bent {s : Strm} {bs cs : List Bnd} (h : NarL bs cs) (hb : bentS s cs = false) : bentS s bs = false := by
  unfold bentS at *
  rw [List.any_eq_false] at *
  intro x hx
  obtain ⟨i, hi⟩ := List.mem_iff_getElem?.1 hx
  have hl : i < bs.length := by have := lt_of_at hi; rwa [bendL_length] at this
  have e := getD_of (⟨0, 0⟩ : Bnd) hi
  have q := h.bendHi (s := s) hl
  have := hb _ (List.mem_of_getElem? (getD_get (⟨0, 0⟩ : Bnd) (l := bendL s cs) (i := i) (by rw [bendL_length]; have := h.1; omega)))
  rw [e] at q
  simp only [decide_eq_true_eq] at this ⊢
  omega
theorem NarL.pulled {s : Strm} {bs cs : List Bnd} {v : Int} {c d : Bnd} (hs : okStrm s = true) (hl : bs.length = s.secs.length) (h : NarL bs cs) (hc : d.lo ≤ c.lo) (hb : pulledS s cs v d = false) : pulledS s bs v c = false := by
  unfold pulledS at *
  rw [List.any_eq_false] at *
  intro i hi
  have hi' : i < bs.length := by simpa using hi
  have := hb i (by simp; have := h.1; omega)
  have q := h.pullHi (v := v) hs hl hc hi'
  simp only [decide_eq_true_eq] at this ⊢
  omega
/-- Narrower waters. -/
def NarW (l m : List Wat) : Prop := ∀ i, NarB (l.getD i wat0).acr (m.getD i wat0).acr ∧ (m.getD i wat0).alo.lo ≤ (l.getD i wat0).alo.lo
theorem NarL.encAt {s : Strm} {bs cs : List Bnd} {l m : List Wat} (hs : okStrm s = true) (hl : bs.length = s.secs.length) (h : NarL bs cs) (hw : NarW l m) : ∀ k, NarL (encAt s bs l k) (encAt s cs m k)
  | 0 => h
  | k + 1 => NarL.enc hs (by rw [encAt_len rfl]; exact hl) (NarL.encAt hs hl h hw k) (hw k).1
theorem keepsS_iff (s : Strm) (bs : List Bnd) (l : List Wat) (v : List Int) : keepsS s bs l v = true ↔ ∀ t, t < l.length → bentN s bs l t = false ∧ pulledN s bs l v t = false := by
  unfold keepsS strainS
  rw [decide_eq_true_eq, Prod.mk.injEq, fstN_none, fstN_none]
  exact ⟨fun h t ht => ⟨h.1 t ht, h.2 t ht⟩, fun h => ⟨fun t ht => (h t ht).1, fun t ht => (h t ht).2⟩⟩
theorem keepsS_narrow {s : Strm} {bs cs : List Bnd} {l m : List Wat} {v : List Int} (hs : okStrm s = true) (hl : bs.length = s.secs.length) (h : NarL bs cs) (hw : NarW l m) (hn : l.length = m.length) (hk : keepsS s cs m v = true) : keepsS s bs l v = true := by
  rw [keepsS_iff] at *
  intro t ht
  obtain ⟨h1, h2⟩ := hk t (by omega)
  have hN := NarL.encAt hs hl h hw (t + 1)
  exact ⟨hN.bent h1, NarL.pulled hs (by rw [encAt_len rfl]; exact hl) hN (hw t).2 h2⟩
theorem take_getD {α : Type} {l : List α} {n t : Nat} (d : α) (h : t < n) : (l.take n).getD t d = l.getD t d := by
  rw [List.getD_eq_getElem?_getD, List.getElem?_take_of_lt h, ← List.getD_eq_getElem?_getD]
theorem encAt_take (s : Strm) (bs : List Bnd) (l : List Wat) (n : Nat) : ∀ k, k ≤ n → encAt s bs (l.take n) k = encAt s bs l k
  | 0, _ => rfl
  | k + 1, h => by
    show encL s (encAt s bs (l.take n) k) ((l.take n).getD k wat0).acr = encL s (encAt s bs l k) (l.getD k wat0).acr
    rw [encAt_take s bs l n k (by omega), take_getD _ (by omega)]
theorem keepsS_take {s : Strm} {bs : List Bnd} {l : List Wat} {v : List Int} (n : Nat) (hk : keepsS s bs l v = true) : keepsS s bs (l.take n) (v.take n) = true := by
  rw [keepsS_iff] at *
  intro t ht
  rw [List.length_take] at ht
  obtain ⟨h1, h2⟩ := hk t (by omega)
  unfold bentN pulledN at *
  rw [encAt_take s bs l n (t + 1) (by omega), take_getD _ (by omega), take_getD _ (by omega)]
  exact ⟨h1, h2⟩
/-! Numbers within bounds, as others choose them. -/
theorem insB_in (bits : List Int) (fr : Int) (i : Nat) {b : Bnd} {m : Int} (hm : m ≤ 100000) (h : okBnd m b = true) : inB (insB bits fr i b) b ∧ insB bits fr i b = b.lo + restS (pickS bits (fr + i)) (b.hi - b.lo + 1) := by
  obtain ⟨h1, h2, h3⟩ := of_decide_eq_true h
  have e1 : wrap64 (wrap64 (b.hi - b.lo) + 1) = b.hi - b.lo + 1 := by unfold wrap64; omega
  have hr := restS_bd (pickS bits (fr + i)) (many := b.hi - b.lo + 1) (by omega)
  unfold insB inB
  rw [e1, show wrap64 (b.lo + restS (pickS bits (fr + i)) (b.hi - b.lo + 1)) = b.lo + restS (pickS bits (fr + i)) (b.hi - b.lo + 1) by unfold wrap64; omega]
  exact ⟨by omega, rfl⟩
theorem insTo_len (l : List Bnd) (bits : List Int) (fr : Int) (k : Nat) : (insTo l bits fr k).length = k := by simp [insTo]
theorem insL_len (l : List Bnd) (bits : List Int) (fr : Int) : (insL l bits fr).length = l.length := insTo_len _ _ _ _
theorem insL_at (l : List Bnd) (bits : List Int) (fr : Int) {i : Nat} {b : Bnd} (h : l[i]? = some b) : (insL l bits fr)[i]? = some (insB bits fr i b) := by
  unfold insL insTo
  rw [List.getElem?_map, List.getElem?_range (lt_of_at h), Option.map_some, getD_of _ h]
theorem insL_lies {l : List Bnd} (bits : List Int) (fr : Int) (h : l.all (okBnd 16384) = true) : Lies (insL l bits fr) l := by
  refine ⟨insL_len _ _ _, fun i x b hx hb => ?_⟩
  rw [insL_at l bits fr hb] at hx
  cases hx
  exact (insB_in bits fr i (by omega) (List.all_eq_true.1 h b (List.mem_of_getElem? hb))).1
theorem sumFr_bd {g : Nat → Int} {M : Int} : ∀ (m i : Nat), (∀ j, i ≤ j → j < i + m → 0 ≤ g j ∧ g j ≤ M) → 0 ≤ sumFr g i m ∧ sumFr g i m ≤ m * M
  | 0, _, _ => by simp [sumFr]
  | m + 1, i, h => by
    have h1 := h i (Nat.le_refl _) (by omega)
    have h2 := sumFr_bd (g := g) m (i + 1) fun j a b => h j (by omega) (by omega)
    rw [sumFr_succ, show ((m + 1 : Nat) : Int) = (m : Int) + 1 by omega, Int.add_mul]; omega
theorem bendAt_bd {s : Strm} {o : List Int} (hh : headOk s) (ho : ∀ x ∈ o, -16384 ≤ x ∧ x ≤ 16384) (i : Nat) : 0 ≤ bendAt s o i ∧ bendAt s o i ≤ 32768 := by
  have hg : ∀ k, -16384 ≤ o.getD k s.head ∧ o.getD k s.head ≤ 16384 := fun k => by
    by_cases hk : k < o.length
    · exact ho _ (List.mem_of_getElem? (getD_get s.head hk))
    · rw [List.getD_eq_getElem?_getD, List.getElem?_eq_none (by omega)]; unfold headOk at hh; simp; omega
  have hp : -16384 ≤ prev s.head o i ∧ prev s.head o i ≤ 16384 := by
    cases i with
    | zero => unfold headOk at hh; show -16384 ≤ s.head ∧ s.head ≤ 16384; omega
    | succ k => exact hg k
  have := hg i
  unfold bendAt magS
  omega
theorem pullAt_bd {s : Strm} (hs : okStrm s = true) {j : Nat} (hj : j < s.secs.length) {w : Int} {f : Nat → Int} (hw : 0 ≤ w) (hw2 : w ≤ 150) (hf : 0 ≤ f j ∧ f j ≤ 32768) : 0 ≤ pullAt s w f j ∧ pullAt s w f j ≤ 100000000 := by
  obtain ⟨k0, k1, k2, k3, k4, k5, k6, k7, k8, k9⟩ := of_decide_eq_true (ok_sec hs hj)
  have a := sq_mono (Int.le_refl 0) hw
  have b := sq_mono hw hw2
  have c := mul_bd (s.sec j).drag (w * w + f j) 1000 100000 k6 k7 (by omega) (by omega) (by omega)
  have d : 0 ≤ (s.sec j).drag * (w * w + f j) := Int.mul_nonneg k6 (by omega)
  unfold pullAt
  omega
theorem Lies.range {o : List Int} {l : List Bnd} (h : Lies o l) (hl : l.all (okBnd 16384) = true) : ∀ x ∈ o, -16384 ≤ x ∧ x ≤ 16384 := by
  intro x hx
  obtain ⟨i, hi⟩ := List.mem_iff_getElem?.1 hx
  have hlt := lt_of_at hi
  have hb := getD_get (⟨0, 0⟩ : Bnd) (l := l) (i := i) (by have := h.1; omega)
  have h1 := h.2 i x _ hi hb
  obtain ⟨a, b, c⟩ := of_decide_eq_true (List.all_eq_true.1 hl _ (List.mem_of_getElem? hb))
  unfold inB at h1
  omega
theorem sumFr_down (g : Nat → Int) (m k : Nat) : sumFr g m (k + 1) = sumFr g (m + 1) k + g m := by rw [sumFr_succ, Int.add_comm]
end Go.Proofs.YthjdjpcomocffaaGreat
namespace Go.Proofs.YthjdjpcomocffaaGreat

def sumL : List Int → Int
  | [] => 0
  | x :: l => x + sumL l
/-- A list comes before another one. -/
def earlierS : List Int → List Int → Bool
  | x :: l, y :: m => if x = y then earlierS l m else decide (x < y)
  | l, m => decide (l.length < m.length)
theorem sumL_append (l m : List Int) : sumL (l ++ m) = sumL l + sumL m := by
  induction l with
  | nil => simp [sumL]
  | cons x l ih => simp only [List.cons_append, sumL, ih]; omega
theorem earlierS_not : ∀ (l m : List Int), l.length = m.length → (∀ i, i < l.length → m.getD i 0 ≤ l.getD i 0) → earlierS l m = false
  | [], [], _, _ => by simp [earlierS]
  | x :: l, y :: m, h, hh => by
    have h0 := hh 0 (by simp)
    simp at h0
    rw [earlierS]
    by_cases e : x = y
    · rw [if_pos e]
      exact earlierS_not l m (by simpa using h) fun i hi => by have := hh (i + 1) (by simpa using hi); simpa using this
    · rw [if_neg e]; exact decide_eq_false (by omega)
theorem sumL_le : ∀ (l m : List Int), l.length = m.length → (∀ i, i < l.length → l.getD i 0 ≤ m.getD i 0) → sumL l ≤ sumL m ∧ (sumL l = sumL m → ∀ i, i < l.length → l.getD i 0 = m.getD i 0)
  | [], [], _, _ => by simp [sumL]
  | x :: l, y :: m, h, hh => by
    have h0 := hh 0 (by simp)
    simp at h0
    obtain ⟨a, b⟩ := sumL_le l m (by simpa using h) fun i hi => by have := hh (i + 1) (by simpa using hi); simpa using this
    simp only [sumL]
    refine ⟨by omega, fun e i hi => ?_⟩
    cases i with
    | zero => simp; omega
    | succ i => have := b (by omega) i (by simpa using hi); simpa using this
theorem pickTo_best {f : Nat → Bool} {ch : List Int} {k : Nat} (hf : f k = true) : ∀ n, k < n → 0 ≤ pickTo f ch n ∧ ch.getD k 0 ≤ ch.getD (pickTo f ch n).toNat 0 ∧ (ch.getD k 0 = ch.getD (pickTo f ch n).toNat 0 → pickTo f ch n ≤ k)
  | 0, h => absurd h (Nat.not_lt_zero _)
  | n + 1, h => by
    have hb := pickTo_bd f ch n
    rw [pickTo_step]
    by_cases hk : k < n
    · obtain ⟨a, b, c⟩ := pickTo_best (ch := ch) hf n hk
      split
      · rw [if_neg (by omega)]
        split
        · refine ⟨by omega, ?_, ?_⟩ <;> simp only [Int.toNat_natCast] <;> omega
        · exact ⟨a, b, c⟩
      · exact ⟨a, b, c⟩
    · obtain rfl : k = n := by omega
      rw [if_pos hf]
      split
      · refine ⟨by omega, ?_, ?_⟩ <;> simp only [Int.toNat_natCast] <;> omega
      · split
        · refine ⟨by omega, ?_, ?_⟩ <;> simp only [Int.toNat_natCast] <;> omega
        · refine ⟨by omega, by omega, fun _ => by omega⟩
theorem pickTo_kept {f : Nat → Bool} {ch : List Int} : ∀ n, 0 ≤ pickTo f ch n → f (pickTo f ch n).toNat = true
  | 0, h => by simp [pickTo] at h
  | n + 1, h => by
    rw [pickTo_step] at h ⊢
    have ih := pickTo_kept (f := f) (ch := ch) n
    by_cases hf : f n = true
    · rw [if_pos hf] at h ⊢
      split
      · simpa using hf
      · split
        · simpa using hf
        · exact ih (by omega)
    · rw [if_neg hf] at h ⊢
      exact ih h
theorem runPlan_true {p : Nat → Int} {ch : List Int} {nd : Nat} : ∀ (r : Nat) (plan : List Int) (way : Int), r ≤ nd → (∀ i, nd - r ≤ i → i < nd → 0 ≤ p i) →
    runPlan p ch nd r plan way = (true, plan ++ (List.range' (nd - r) r).map p, way + sumL ((List.range' (nd - r) r).map fun i => ch.getD (p i).toNat 0))
  | 0, plan, way, _, _ => by simp [runPlan, sumL]
  | r + 1, plan, way, hr, h => by
    rw [runPlan, if_neg (by have := h (nd - (r + 1)) (by omega) (by omega); omega), runPlan_true r _ _ (by omega) fun i a b => h i (by omega) b]
    rw [List.range'_succ, show nd - (r + 1) + 1 = nd - r by omega]
    simp only [List.map_cons, sumL, List.append_assoc, List.singleton_append]
    rw [Int.add_assoc]
theorem runPlan_all {p : Nat → Int} {ch : List Int} {nd : Nat} : ∀ (r : Nat) (plan : List Int) (way : Int), r ≤ nd → (runPlan p ch nd r plan way).1 = true → ∀ i, nd - r ≤ i → i < nd → 0 ≤ p i
  | 0, plan, way, _, _, i, a, b => by omega
  | r + 1, plan, way, hr, h, i, a, b => by
    rw [runPlan] at h
    by_cases hp : p (nd - (r + 1)) < 0
    · rw [if_pos hp] at h; cases h
    · rw [if_neg hp] at h
      by_cases e : i = nd - (r + 1)
      · subst e; omega
      · exact runPlan_all r _ _ (by omega) h i (by omega) b
/-- The speeds of a plan. -/
def speedsOf (ch plan : List Int) : List Int := plan.map fun x => ch.getD x.toNat 0
def isPlan (ch plan : List Int) : Bool := plan.all fun x => decide (0 ≤ x ∧ x ≤ ch.length - 1)
theorem keeps_plan (s : Strm) (bs : List Bnd) (l : List Wat) (ch plan : List Int) (hn : plan.length = l.length) :
    keepsS s bs l (speedsOf ch plan) = true ↔ ∀ t, t < l.length → keptN s bs l ch t (plan.getD t 0).toNat = true := by
  rw [keepsS_iff]
  have e : ∀ t, t < l.length → (speedsOf ch plan).getD t 0 = ch.getD (plan.getD t 0).toNat 0 := fun t ht => by
    unfold speedsOf
    rw [List.getD_eq_getElem?_getD, List.getElem?_map, getD_get (0 : Int) (l := plan) (i := t) (by omega)]; rfl
  constructor
  · intro h t ht
    obtain ⟨a, b⟩ := h t ht
    unfold pulledN at b
    unfold keptN
    rw [a, ← e t ht, b]; rfl
  · intro h t ht
    have := h t ht
    unfold keptN at this
    unfold pulledN
    rw [e t ht]
    simpa using this
theorem speedsOf_ok {ch plan : List Int} (hc : okSpeeds ch = true) : okSpeeds (speedsOf ch plan) = true := by
  unfold okSpeeds speedsOf
  rw [List.all_eq_true]
  intro x hx
  obtain ⟨y, _, rfl⟩ := List.mem_map.1 hx
  rw [List.getD_eq_getElem?_getD]
  cases h : ch[y.toNat]? with
  | none => decide
  | some z => exact List.all_eq_true.1 hc z (List.mem_of_getElem? h)
/-- What Fastest says, where it is asked well. -/
structure FastSaid (s : Strm) (bs : List Bnd) (l : List Wat) (ch : List Int) (r : List Int × Int × Int) : Prop where
  bw : errBW s bs l = 0
  lim : 1 ≤ l.length ∧ l.length ≤ 6 ∧ 1 ≤ ch.length ∧ ch.length ≤ 4
  spd : okSpeeds ch = true
  run : (r.2.2 = 0 ∧ r.1.length = l.length ∧ isPlan ch r.1 = true ∧ keepsS s bs l (speedsOf ch r.1) = true ∧ sumL (speedsOf ch r.1) = r.2.1) ∨ r = ([], 0, 4)
  best : ∀ plan, plan.length = l.length → isPlan ch plan = true → keepsS s bs l (speedsOf ch plan) = true →
    r.2.2 = 0 ∧ sumL (speedsOf ch plan) ≤ r.2.1 ∧ (sumL (speedsOf ch plan) < r.2.1 ∨ earlierS plan r.1 = false)
theorem isPlan_at {ch plan : List Int} (h : isPlan ch plan = true) {t : Nat} (ht : t < plan.length) : 0 ≤ plan.getD t 0 ∧ (plan.getD t 0).toNat < ch.length := by
  have := of_decide_eq_true (List.all_eq_true.1 h _ (List.mem_of_getElem? (getD_get (0 : Int) ht)))
  omega
theorem errBW_vals (s : Strm) (bs : List Bnd) (l : List Wat) : errBW s bs l = 0 ∨ errBW s bs l = 30 ∨ errBW s bs l = 31 ∨ errBW s bs l = 33 := by
  unfold errBW errB chkWats
  repeat' split
  all_goals simp_all
theorem fast_said (s : Strm) (bs : List Bnd) (l : List Wat) (ch : List Int) (h : (fastR s bs l ch).2.2 = 0 ∨ (fastR s bs l ch).2.2 = 4) : FastSaid s bs l ch (fastR s bs l ch) := by
  have h1 : errBW s bs l = 0 := by
    by_cases e : errBW s bs l = 0
    · exact e
    · exfalso
      rw [fastR, if_pos e] at h
      have := errBW_vals s bs l
      simp only at h
      omega
  have h2 : 1 ≤ l.length ∧ l.length ≤ 6 ∧ 1 ≤ ch.length ∧ ch.length ≤ 4 := by
    by_cases e : 1 ≤ l.length ∧ l.length ≤ 6 ∧ 1 ≤ ch.length ∧ ch.length ≤ 4
    · exact e
    · rw [fastR, if_neg (by simp [h1]), if_pos e] at h; simp at h
  have h3 : okSpeeds ch = true := by
    cases e : okSpeeds ch
    · rw [fastR, if_neg (by simp [h1]), if_neg (by simp only [Decidable.not_not]; exact h2), if_pos e] at h; simp at h
    · rfl
  have hr : fastR s bs l ch = (if (runPlan (fun i => pickTo (keptN s bs l ch i) ch ch.length) ch l.length l.length [] 0).1 = true then ((runPlan (fun i => pickTo (keptN s bs l ch i) ch ch.length) ch l.length l.length [] 0).2.1, (runPlan (fun i => pickTo (keptN s bs l ch i) ch ch.length) ch l.length l.length [] 0).2.2, 0) else ([], 0, 4)) := by
    rw [fastR, if_neg (by simp [h1]), if_neg (by simp only [Decidable.not_not]; exact h2), if_neg (by simp [h3])]
  rw [hr]
  clear hr h
  obtain ⟨p, hp⟩ : ∃ p : Nat → Int, (fun i => pickTo (keptN s bs l ch i) ch ch.length) = p := ⟨_, rfl⟩
  have hpi : ∀ i, p i = pickTo (keptN s bs l ch i) ch ch.length := fun i => by rw [← hp]
  rw [hp]
  have hbest : ∀ plan : List Int, plan.length = l.length → isPlan ch plan = true → keepsS s bs l (speedsOf ch plan) = true → ∀ t, t < l.length →
      0 ≤ p t ∧ ch.getD (plan.getD t 0).toNat 0 ≤ ch.getD (p t).toNat 0 ∧ (ch.getD (plan.getD t 0).toNat 0 = ch.getD (p t).toNat 0 → p t ≤ plan.getD t 0) := by
    intro plan hn hi hk t ht
    obtain ⟨a, b⟩ := isPlan_at hi (t := t) (by omega)
    have := pickTo_best (f := keptN s bs l ch t) (ch := ch) ((keeps_plan s bs l ch plan hn).1 hk t ht) ch.length b
    rw [← hpi t] at this
    exact ⟨this.1, this.2.1, fun e => by have := this.2.2 e; omega⟩
  by_cases hrun : (runPlan p ch l.length l.length [] 0).1 = true
  · rw [if_pos hrun]
    have hall := runPlan_all l.length [] 0 (Nat.le_refl _) hrun
    have e := runPlan_true (ch := ch) l.length [] 0 (Nat.le_refl _) hall
    rw [e]
    simp only [Nat.sub_self, List.nil_append, Int.zero_add] at hall ⊢
    have hlen : ((List.range' 0 l.length).map p).length = l.length := by simp
    have hget : ∀ t, t < l.length → ((List.range' 0 l.length).map p).getD t 0 = p t := fun t ht => by
      rw [List.getD_eq_getElem?_getD, List.getElem?_map, List.getElem?_range' ht]; simp
    have hsp : speedsOf ch ((List.range' 0 l.length).map p) = (List.range' 0 l.length).map fun i => ch.getD (p i).toNat 0 := by
      unfold speedsOf; rw [List.map_map]; rfl
    refine ⟨h1, h2, h3, .inl ⟨rfl, hlen, ?_, ?_, by rw [hsp]⟩, ?_⟩
    · unfold isPlan
      rw [List.all_eq_true]
      intro x hx
      obtain ⟨i, hi, rfl⟩ := List.mem_map.1 hx
      have hi' : i < l.length := by simpa using hi
      have h0 := hall i (Nat.zero_le _) hi'
      have hb := pickTo_bd (keptN s bs l ch i) ch ch.length
      rw [← hpi i] at hb
      exact decide_eq_true (by omega)
    · rw [keeps_plan s bs l ch _ hlen]
      intro t ht
      rw [hget t ht, hpi t]
      exact pickTo_kept _ (by rw [← hpi t]; exact hall t (Nat.zero_le _) ht)
    · intro plan hn hi hk
      have hb := hbest plan hn hi hk
      have hl2 : (speedsOf ch plan).length = ((List.range' 0 l.length).map fun i => ch.getD (p i).toNat 0).length := by simp [speedsOf, hn]
      have hg1 : ∀ t, t < l.length → (speedsOf ch plan).getD t 0 = ch.getD (plan.getD t 0).toNat 0 := fun t ht => by
        unfold speedsOf
        rw [List.getD_eq_getElem?_getD, List.getElem?_map, getD_get (0 : Int) (l := plan) (i := t) (by omega)]; rfl
      have hg2 : ∀ t, t < l.length → ((List.range' 0 l.length).map fun i => ch.getD (p i).toNat 0).getD t 0 = ch.getD (p t).toNat 0 := fun t ht => by
        rw [List.getD_eq_getElem?_getD, List.getElem?_map, List.getElem?_range' ht]; simp
      have hsl : (speedsOf ch plan).length = l.length := by simp [speedsOf, hn]
      obtain ⟨a, b⟩ := sumL_le (speedsOf ch plan) ((List.range' 0 l.length).map fun i => ch.getD (p i).toNat 0) hl2 fun i hi => by
        rw [hsl] at hi
        rw [hg1 i hi, hg2 i hi]
        exact (hb i hi).2.1
      refine ⟨rfl, a, ?_⟩
      by_cases hlt : sumL (speedsOf ch plan) < sumL ((List.range' 0 l.length).map fun i => ch.getD (p i).toNat 0)
      · exact .inl hlt
      · refine .inr (earlierS_not _ _ (by rw [hlen, hn]) fun i hi => ?_)
        rw [hn] at hi
        rw [hget i hi]
        have := b (by omega) i (by rw [hsl]; exact hi)
        rw [hg1 i hi, hg2 i hi] at this
        exact (hb i hi).2.2 this
  · rw [if_neg hrun]
    refine ⟨h1, h2, h3, .inr rfl, fun plan hn hi hk => ?_⟩
    exfalso
    apply hrun
    rw [runPlan_true (ch := ch) l.length [] 0 (Nat.le_refl _) fun i _ b => (hbest plan hn hi hk i b).1]
end Go.Proofs.YthjdjpcomocffaaGreat
namespace Go.Proofs.YthjdjpcomocffaaGreat
set_option linter.unusedSimpArgs false
set_option linter.unusedVariables false

/-- The best plan so far, when one more is looked at. -/
def updF (K : List Int → Bool) (S : List Int → Int) (o : Option (List Int)) (p : List Int) : Option (List Int) :=
  if K p = true then (match o with | none => some p | some q => if S q < S p then some p else some q) else o
/-- All plans that begin so, with so many steps more. -/
def allP (m : Nat) : Nat → List Int → List (List Int)
  | 0, p => [p]
  | r + 1, p => (List.range m).flatMap fun i : Nat => allP m r (p ++ [(i : Int)])
def BestOf (K : List Int → Bool) (S : List Int → Int) (L : List (List Int)) : Option (List Int) → Prop
  | none => ∀ q ∈ L, K q = false
  | some p => p ∈ L ∧ K p = true ∧ ∀ q ∈ L, K q = true → S q < S p ∨ S q = S p ∧ (q = p ∨ earlierS p q = true)
theorem bestOf_next {K : List Int → Bool} {S : List Int → Int} {M : List (List Int)} {o : Option (List Int)} {x : List Int} (h : BestOf K S M o) (hx : ∀ y ∈ M, earlierS y x = true) : BestOf K S (M ++ [x]) (updF K S o x) := by
  unfold updF
  cases hk : K x with
  | false =>
    rw [if_neg (by simp)]
    cases o with
    | none =>
      intro q hq
      rcases List.mem_append.1 hq with hq | hq
      · exact h q hq
      · simp at hq; rw [hq, hk]
    | some p =>
      obtain ⟨h1, h2, h3⟩ := h
      refine ⟨List.mem_append_left _ h1, h2, fun q hq hkq => ?_⟩
      rcases List.mem_append.1 hq with hq | hq
      · exact h3 q hq hkq
      · simp at hq; rw [hq, hk] at hkq; cases hkq
  | true =>
    rw [if_pos rfl]
    have hm : x ∈ M ++ [x] := by simp
    cases o with
    | none =>
      refine ⟨hm, hk, fun q hq hkq => ?_⟩
      rcases List.mem_append.1 hq with hq | hq
      · rw [h q hq] at hkq; cases hkq
      · simp at hq; exact .inr ⟨by rw [hq], .inl hq⟩
    | some p =>
      obtain ⟨h1, h2, h3⟩ := h
      dsimp only
      split
      · rename_i hlt
        refine ⟨hm, hk, fun q hq hkq => ?_⟩
        rcases List.mem_append.1 hq with hq | hq
        · rcases h3 q hq hkq with a | ⟨a, -⟩
          · exact .inl (by omega)
          · exact .inl (by omega)
        · simp at hq; exact .inr ⟨by rw [hq], .inl hq⟩
      · rename_i hlt
        refine ⟨List.mem_append_left _ h1, h2, fun q hq hkq => ?_⟩
        rcases List.mem_append.1 hq with hq | hq
        · exact h3 q hq hkq
        · simp at hq
          subst hq
          by_cases e : S q = S p
          · exact .inr ⟨e, .inr (hx p h1)⟩
          · exact .inl (by omega)
theorem bestOf_fold (K : List Int → Bool) (S : List Int → Int) : ∀ (L M : List (List Int)) (o : Option (List Int)), BestOf K S M o → (M ++ L).Pairwise (fun a b => earlierS a b = true) → BestOf K S (M ++ L) (L.foldl (updF K S) o)
  | [], M, o, h, _ => by rw [List.append_nil]; exact h
  | x :: L, M, o, h, hp => by
    have hp2 : ((M ++ [x]) ++ L).Pairwise (fun a b => earlierS a b = true) := by simpa using hp
    have hx : ∀ y ∈ M, earlierS y x = true := fun y hy => (List.pairwise_append.1 hp).2.2 y hy x (by simp)
    have := bestOf_fold K S L (M ++ [x]) _ (bestOf_next h hx) hp2
    simpa using this
theorem earlierS_at : ∀ (p t u : List Int) (i j : Int), i < j → earlierS (p ++ i :: t) (p ++ j :: u) = true
  | [], t, u, i, j, h => by simp only [List.nil_append, earlierS]; rw [if_neg (by omega)]; exact decide_eq_true h
  | x :: p, t, u, i, j, h => by simp only [List.cons_append, earlierS, if_true]; exact earlierS_at p t u i j h
theorem allP_form (m : Nat) : ∀ (r : Nat) (p q : List Int), q ∈ allP m r p → ∃ t, q = p ++ t ∧ t.length = r
  | 0, p, q, h => by simp [allP] at h; exact ⟨[], by rw [h, List.append_nil], rfl⟩
  | r + 1, p, q, h => by
    rw [allP, List.mem_flatMap] at h
    obtain ⟨i, -, hi⟩ := h
    obtain ⟨t, e, hl⟩ := allP_form m r _ _ hi
    exact ⟨(i : Int) :: t, by rw [e]; simp, by simp [hl]⟩
theorem allP_sorted (m : Nat) : ∀ (r : Nat) (p : List Int), (allP m r p).Pairwise (fun a b => earlierS a b = true)
  | 0, p => by simp [allP]
  | r + 1, p => by
    rw [allP, List.pairwise_flatMap]
    refine ⟨fun i _ => allP_sorted m r _, ?_⟩
    refine List.Pairwise.imp ?_ List.pairwise_lt_range
    intro i j hij x hx y hy
    obtain ⟨t, e1, -⟩ := allP_form m r _ _ hx
    obtain ⟨u, e2, -⟩ := allP_form m r _ _ hy
    rw [e1, e2, List.append_assoc, List.append_assoc]
    exact earlierS_at p t u i j (by omega)
theorem allP_has (m : Nat) : ∀ (t p : List Int), (∀ x ∈ t, 0 ≤ x ∧ x < (m : Int)) → p ++ t ∈ allP m t.length p
  | [], p, _ => by simp [allP]
  | x :: t, p, h => by
    have hx := h x (by simp)
    rw [List.length_cons, allP, List.mem_flatMap]
    refine ⟨x.toNat, List.mem_range.2 (by omega), ?_⟩
    have := allP_has m t (p ++ [((x.toNat : Nat) : Int)]) fun y hy => h y (by simp [hy])
    have e : ((x.toNat : Nat) : Int) = x := by omega
    rw [e] at this ⊢
    simpa using this
theorem allP_bd (m : Nat) : ∀ (r : Nat) (p q : List Int), (∀ x ∈ p, 0 ≤ x ∧ x < (m : Int)) → q ∈ allP m r p → ∀ x ∈ q, 0 ≤ x ∧ x < (m : Int)
  | 0, p, q, h, hq => by simp [allP] at hq; rw [hq]; exact h
  | r + 1, p, q, h, hq => by
    rw [allP, List.mem_flatMap] at hq
    obtain ⟨i, hi, hq⟩ := hq
    have hi := List.mem_range.1 hi
    refine allP_bd m r _ q ?_ hq
    intro x hx
    rcases List.mem_append.1 hx with hx | hx
    · exact h x hx
    · simp at hx; omega
/-- What the search has found when it has looked at the plans that begin so, too. -/
def searchS (s : Strm) (bs : List Bnd) (l : List Wat) (ch : List Int) (r : Nat) (p : List Int) (o : Option (List Int)) : Option (List Int) :=
  (allP ch.length r p).foldl (updF (fun p => keepsS s bs l (speedsOf ch p)) (fun p => sumL (speedsOf ch p))) o
def searchTo (s : Strm) (bs : List Bnd) (l : List Wat) (ch : List Int) (r : Nat) (p : List Int) (k : Nat) (o : Option (List Int)) : Option (List Int) :=
  (List.range k).foldl (fun o (i : Nat) => searchS s bs l ch r (p ++ [(i : Int)]) o) o
theorem searchTo_succ (s : Strm) (bs : List Bnd) (l : List Wat) (ch : List Int) (r : Nat) (p : List Int) (k : Nat) (o : Option (List Int)) : searchTo s bs l ch r p (k + 1) o = searchS s bs l ch r (p ++ [(k : Int)]) (searchTo s bs l ch r p k o) := by
  unfold searchTo; rw [List.range_succ, List.foldl_append]; rfl
theorem searchS_succ (s : Strm) (bs : List Bnd) (l : List Wat) (ch : List Int) (r : Nat) (p : List Int) (o : Option (List Int)) : searchS s bs l ch (r + 1) p o = searchTo s bs l ch r p ch.length o := by
  unfold searchS searchTo
  rw [allP, List.foldl_flatMap]
  rfl
theorem searchS_zero (s : Strm) (bs : List Bnd) (l : List Wat) (ch : List Int) (p : List Int) (o : Option (List Int)) : searchS s bs l ch 0 p o = updF (fun p => keepsS s bs l (speedsOf ch p)) (fun p => sumL (speedsOf ch p)) o p := rfl
def foundR (ch : List Int) : Option (List Int) → List Int × Int × Int
  | none => ([], 0, 4)
  | some p => (p, sumL (speedsOf ch p), 0)
theorem fast_search {s : Strm} {bs : List Bnd} {l : List Wat} {ch : List Int} (h1 : errBW s bs l = 0) (h2 : 1 ≤ l.length ∧ l.length ≤ 6 ∧ 1 ≤ ch.length ∧ ch.length ≤ 4) (h3 : okSpeeds ch = true) :
    fastR s bs l ch = foundR ch (searchS s bs l ch l.length [] none) := by
  have hE : (fastR s bs l ch).2.2 = 0 ∨ (fastR s bs l ch).2.2 = 4 := by
    rw [fastR, if_neg (by simp [h1]), if_neg (by simp only [Decidable.not_not]; exact h2), if_neg (by simp [h3])]
    dsimp only
    split
    · exact .inl rfl
    · exact .inr rfl
  obtain ⟨-, -, -, hrun, hbest⟩ := fast_said s bs l ch hE
  generalize fastR s bs l ch = r at *
  have hB := bestOf_fold (fun p => keepsS s bs l (speedsOf ch p)) (fun p => sumL (speedsOf ch p)) (allP ch.length l.length []) [] none (fun q hq => by cases hq) (by rw [List.nil_append]; exact allP_sorted _ _ _)
  rw [List.nil_append] at hB
  unfold searchS
  generalize (allP ch.length l.length []).foldl (updF (fun p => keepsS s bs l (speedsOf ch p)) (fun p => sumL (speedsOf ch p))) none = o at *
  have hmem : ∀ p : List Int, p.length = l.length → isPlan ch p = true → p ∈ allP ch.length l.length [] := by
    intro p hl hp
    have := allP_has ch.length p [] fun x hx => by
      have := of_decide_eq_true (List.all_eq_true.1 hp x hx)
      omega
    rw [hl, List.nil_append] at this
    exact this
  have hof : ∀ p, p ∈ allP ch.length l.length [] → p.length = l.length ∧ isPlan ch p = true := by
    intro p hp
    obtain ⟨t, e, hl⟩ := allP_form _ _ _ _ hp
    refine ⟨by rw [e, List.nil_append, hl], ?_⟩
    have := allP_bd ch.length l.length [] p (fun x hx => by cases hx) hp
    unfold isPlan
    rw [List.all_eq_true]
    exact fun x hx => decide_eq_true (by have := this x hx; omega)
  cases o with
  | none =>
    rcases hrun with ⟨-, hl, hp, hk, -⟩ | e
    · have := hB _ (hmem _ hl hp)
      dsimp only at this
      rw [hk] at this; cases this
    · rw [e]; rfl
  | some p =>
    obtain ⟨g1, g2, g3⟩ := hB
    dsimp only at g2 g3
    obtain ⟨pl, pp⟩ := hof p g1
    obtain ⟨e0, le, fin⟩ := hbest p pl pp g2
    rcases hrun with ⟨-, hl, hp, hk, hs⟩ | e
    · have hq := g3 r.1 (hmem _ hl hp) hk
      rw [hs] at hq
      obtain ⟨a, b, c⟩ := r
      dsimp only at *
      unfold foundR
      have hw : sumL (speedsOf ch p) = b := by omega
      have ha : a = p := by
        rcases hq with q | ⟨-, q | q⟩
        · omega
        · exact q
        · rcases fin with f | f
          · omega
          · rw [f] at q; cases q
      dsimp only
      rw [hw, ha, e0]
    · rw [e] at e0; simp at e0
end Go.Proofs.YthjdjpcomocffaaGreat
