/-
  The plain law of the fastest plan: it keeps the limits, none that keeps them is faster, and none as fast comes before it. Nothing of the program stands here.
-/
import Derived.Test.YtjiaepphnddpoaaGreatM1
namespace Go.Proofs.YtjiaepphnddpoaaGreat

def sumL : List Int → Int
  | [] => 0
  | x :: l => x + sumL l
/-- A list comes before another one. -/
def earlierS : List Int → List Int → Bool
  | x :: l, y :: m => if x = y then earlierS l m else decide (x < y)
  | l, m => decide (l.length < m.length)
theorem sumL_append (l m : List Int) : sumL (l ++ m) = sumL l + sumL m := by
  induction l with
  | nil => simp [sumL]
  | cons x l ih => simp only [List.cons_append, sumL, ih]; omega
theorem earlierS_not : ∀ (l m : List Int), l.length = m.length → (∀ i, i < l.length → m.getD i 0 ≤ l.getD i 0) → earlierS l m = false
  | [], [], _, _ => by simp [earlierS]
  | x :: l, y :: m, h, hh => by
    have h0 := hh 0 (by simp)
    simp at h0
    rw [earlierS]
    by_cases e : x = y
    · rw [if_pos e]
      exact earlierS_not l m (by simpa using h) fun i hi => by have := hh (i + 1) (by simpa using hi); simpa using this
    · rw [if_neg e]; exact decide_eq_false (by omega)
theorem sumL_le : ∀ (l m : List Int), l.length = m.length → (∀ i, i < l.length → l.getD i 0 ≤ m.getD i 0) → sumL l ≤ sumL m ∧ (sumL l = sumL m → ∀ i, i < l.length → l.getD i 0 = m.getD i 0)
  | [], [], _, _ => by simp [sumL]
  | x :: l, y :: m, h, hh => by
    have h0 := hh 0 (by simp)
    simp at h0
    obtain ⟨a, b⟩ := sumL_le l m (by simpa using h) fun i hi => by have := hh (i + 1) (by simpa using hi); simpa using this
    simp only [sumL]
    refine ⟨by omega, fun e i hi => ?_⟩
    cases i with
    | zero => simp; omega
    | succ i => have := b (by omega) i (by simpa using hi); simpa using this
theorem pickTo_best {f : Nat → Bool} {ch : List Int} {k : Nat} (hf : f k = true) : ∀ n, k < n → 0 ≤ pickTo f ch n ∧ ch.getD k 0 ≤ ch.getD (pickTo f ch n).toNat 0 ∧ (ch.getD k 0 = ch.getD (pickTo f ch n).toNat 0 → pickTo f ch n ≤ k)
  | 0, h => absurd h (Nat.not_lt_zero _)
  | n + 1, h => by
    have hb := pickTo_bd f ch n
    rw [pickTo_step]
    by_cases hk : k < n
    · obtain ⟨a, b, c⟩ := pickTo_best (ch := ch) hf n hk
      split
      · rw [if_neg (by omega)]
        split
        · refine ⟨by omega, ?_, ?_⟩ <;> simp only [Int.toNat_natCast] <;> omega
        · exact ⟨a, b, c⟩
      · exact ⟨a, b, c⟩
    · obtain rfl : k = n := by omega
      rw [if_pos hf]
      split
      · refine ⟨by omega, ?_, ?_⟩ <;> simp only [Int.toNat_natCast] <;> omega
      · split
        · refine ⟨by omega, ?_, ?_⟩ <;> simp only [Int.toNat_natCast] <;> omega
        · refine ⟨by omega, by omega, fun _ => by omega⟩
theorem pickTo_kept {f : Nat → Bool} {ch : List Int} : ∀ n, 0 ≤ pickTo f ch n → f (pickTo f ch n).toNat = true
  | 0, h => by simp [pickTo] at h
  | n + 1, h => by
    rw [pickTo_step] at h ⊢
    have ih := pickTo_kept (f := f) (ch := ch) n
    by_cases hf : f n = true
    · rw [if_pos hf] at h ⊢
      split
      · simpa using hf
      · split
        · simpa using hf
        · exact ih (by omega)
    · rw [if_neg hf] at h ⊢
      exact ih h
theorem runPlan_true {p : Nat → Int} {ch : List Int} {nd : Nat} : ∀ (r : Nat) (plan : List Int) (way : Int), r ≤ nd → (∀ i, nd - r ≤ i → i < nd → 0 ≤ p i) →
    runPlan p ch nd r plan way = (true, plan ++ (List.range' (nd - r) r).map p, way + sumL ((List.range' (nd - r) r).map fun i => ch.getD (p i).toNat 0))
  | 0, plan, way, _, _ => by simp [runPlan, sumL]
  | r + 1, plan, way, hr, h => by
    rw [runPlan, if_neg (by have := h (nd - (r + 1)) (by omega) (by omega); omega), runPlan_true r _ _ (by omega) fun i a b => h i (by omega) b]
    rw [List.range'_succ, show nd - (r + 1) + 1 = nd - r by omega]
    simp only [List.map_cons, sumL, List.append_assoc, List.singleton_append]
    rw [Int.add_assoc]
theorem runPlan_all {p : Nat → Int} {ch : List Int} {nd : Nat} : ∀ (r : Nat) (plan : List Int) (way : Int), r ≤ nd → (runPlan p ch nd r plan way).1 = true → ∀ i, nd - r ≤ i → i < nd → 0 ≤ p i
  | 0, plan, way, _, _, i, a, b => by omega
  | r + 1, plan, way, hr, h, i, a, b => by
    rw [runPlan] at h
    by_cases hp : p (nd - (r + 1)) < 0
    · rw [if_pos hp] at h; cases h
    · rw [if_neg hp] at h
      by_cases e : i = nd - (r + 1)
      · subst e; omega
      · exact runPlan_all r _ _ (by omega) h i (by omega) b
/-- The speeds of a plan. -/
def speedsOf (ch plan : List Int) : List Int := plan.map fun x => ch.getD x.toNat 0
def isPlan (ch plan : List Int) : Bool := plan.all fun x => decide (0 ≤ x ∧ x ≤ ch.length - 1)
theorem keeps_plan (s : Strm) (bs : List Bnd) (l : List Wat) (ch plan : List Int) (hn : plan.length = l.length) :
    keepsS s bs l (speedsOf ch plan) = true ↔ ∀ t, t < l.length → keptN s bs l ch t (plan.getD t 0).toNat = true := by
  rw [keepsS_iff]
  have e : ∀ t, t < l.length → (speedsOf ch plan).getD t 0 = ch.getD (plan.getD t 0).toNat 0 := fun t ht => by
    unfold speedsOf
    rw [List.getD_eq_getElem?_getD, List.getElem?_map, getD_get (0 : Int) (l := plan) (i := t) (by omega)]; rfl
  constructor
  · intro h t ht
    obtain ⟨a, b⟩ := h t ht
    unfold pulledN at b
    unfold keptN
    rw [a, ← e t ht, b]; rfl
  · intro h t ht
    have := h t ht
    unfold keptN at this
    unfold pulledN
    rw [e t ht]
    simpa using this
theorem speedsOf_ok {ch plan : List Int} (hc : okSpeeds ch = true) : okSpeeds (speedsOf ch plan) = true := by
  unfold okSpeeds speedsOf
  rw [List.all_eq_true]
  intro x hx
  obtain ⟨y, _, rfl⟩ := List.mem_map.1 hx
  rw [List.getD_eq_getElem?_getD]
  cases h : ch[y.toNat]? with
  | none => decide
  | some z => exact List.all_eq_true.1 hc z (List.mem_of_getElem? h)
/-- What Fastest says, where it is asked well. -/
structure FastSaid (s : Strm) (bs : List Bnd) (l : List Wat) (ch : List Int) (r : List Int × Int × Int) : Prop where
  bw : errBW s bs l = 0
  lim : 1 ≤ l.length ∧ l.length ≤ 6 ∧ 1 ≤ ch.length ∧ ch.length ≤ 4
  spd : okSpeeds ch = true
  run : (r.2.2 = 0 ∧ r.1.length = l.length ∧ isPlan ch r.1 = true ∧ keepsS s bs l (speedsOf ch r.1) = true ∧ sumL (speedsOf ch r.1) = r.2.1) ∨ r = ([], 0, 4)
  best : ∀ plan, plan.length = l.length → isPlan ch plan = true → keepsS s bs l (speedsOf ch plan) = true →
    r.2.2 = 0 ∧ sumL (speedsOf ch plan) ≤ r.2.1 ∧ (sumL (speedsOf ch plan) < r.2.1 ∨ earlierS plan r.1 = false)
theorem isPlan_at {ch plan : List Int} (h : isPlan ch plan = true) {t : Nat} (ht : t < plan.length) : 0 ≤ plan.getD t 0 ∧ (plan.getD t 0).toNat < ch.length := by
  have := of_decide_eq_true (List.all_eq_true.1 h _ (List.mem_of_getElem? (getD_get (0 : Int) ht)))
  omega
theorem errBW_vals (s : Strm) (bs : List Bnd) (l : List Wat) : errBW s bs l = 0 ∨ errBW s bs l = 30 ∨ errBW s bs l = 31 ∨ errBW s bs l = 33 := by
  unfold errBW errB chkWats
  repeat' split
  all_goals simp_all
theorem fast_said (s : Strm) (bs : List Bnd) (l : List Wat) (ch : List Int) (h : (fastR s bs l ch).2.2 = 0 ∨ (fastR s bs l ch).2.2 = 4) : FastSaid s bs l ch (fastR s bs l ch) := by
  have h1 : errBW s bs l = 0 := by
    by_cases e : errBW s bs l = 0
    · exact e
    · exfalso
      rw [fastR, if_pos e] at h
      have := errBW_vals s bs l
      simp only at h
      omega
  have h2 : 1 ≤ l.length ∧ l.length ≤ 6 ∧ 1 ≤ ch.length ∧ ch.length ≤ 4 := by
    by_cases e : 1 ≤ l.length ∧ l.length ≤ 6 ∧ 1 ≤ ch.length ∧ ch.length ≤ 4
    · exact e
    · rw [fastR, if_neg (by simp [h1]), if_pos e] at h; simp at h
  have h3 : okSpeeds ch = true := by
    cases e : okSpeeds ch
    · rw [fastR, if_neg (by simp [h1]), if_neg (by simp only [Decidable.not_not]; exact h2), if_pos e] at h; simp at h
    · rfl
  have hr : fastR s bs l ch = (if (runPlan (fun i => pickTo (keptN s bs l ch i) ch ch.length) ch l.length l.length [] 0).1 = true then ((runPlan (fun i => pickTo (keptN s bs l ch i) ch ch.length) ch l.length l.length [] 0).2.1, (runPlan (fun i => pickTo (keptN s bs l ch i) ch ch.length) ch l.length l.length [] 0).2.2, 0) else ([], 0, 4)) := by
    rw [fastR, if_neg (by simp [h1]), if_neg (by simp only [Decidable.not_not]; exact h2), if_neg (by simp [h3])]
  rw [hr]
  clear hr h
  obtain ⟨p, hp⟩ : ∃ p : Nat → Int, (fun i => pickTo (keptN s bs l ch i) ch ch.length) = p := ⟨_, rfl⟩
  have hpi : ∀ i, p i = pickTo (keptN s bs l ch i) ch ch.length := fun i => by rw [← hp]
  rw [hp]
  have hbest : ∀ plan : List Int, plan.length = l.length → isPlan ch plan = true → keepsS s bs l (speedsOf ch plan) = true → ∀ t, t < l.length →
      0 ≤ p t ∧ ch.getD (plan.getD t 0).toNat 0 ≤ ch.getD (p t).toNat 0 ∧ (ch.getD (plan.getD t 0).toNat 0 = ch.getD (p t).toNat 0 → p t ≤ plan.getD t 0) := by
    intro plan hn hi hk t ht
    obtain ⟨a, b⟩ := isPlan_at hi (t := t) (by omega)
    have := pickTo_best (f := keptN s bs l ch t) (ch := ch) ((keeps_plan s bs l ch plan hn).1 hk t ht) ch.length b
    rw [← hpi t] at this
    exact ⟨this.1, this.2.1, fun e => by have := this.2.2 e; omega⟩
  by_cases hrun : (runPlan p ch l.length l.length [] 0).1 = true
  · rw [if_pos hrun]
    have hall := runPlan_all l.length [] 0 (Nat.le_refl _) hrun
    have e := runPlan_true (ch := ch) l.length [] 0 (Nat.le_refl _) hall
    rw [e]
    simp only [Nat.sub_self, List.nil_append, Int.zero_add] at hall ⊢
    have hlen : ((List.range' 0 l.length).map p).length = l.length := by simp
    have hget : ∀ t, t < l.length → ((List.range' 0 l.length).map p).getD t 0 = p t := fun t ht => by
      rw [List.getD_eq_getElem?_getD, List.getElem?_map, List.getElem?_range' ht]; simp
    have hsp : speedsOf ch ((List.range' 0 l.length).map p) = (List.range' 0 l.length).map fun i => ch.getD (p i).toNat 0 := by
      unfold speedsOf; rw [List.map_map]; rfl
    refine ⟨h1, h2, h3, .inl ⟨rfl, hlen, ?_, ?_, by rw [hsp]⟩, ?_⟩
    · unfold isPlan
      rw [List.all_eq_true]
      intro x hx
      obtain ⟨i, hi, rfl⟩ := List.mem_map.1 hx
      have hi' : i < l.length := by simpa using hi
      have h0 := hall i (Nat.zero_le _) hi'
      have hb := pickTo_bd (keptN s bs l ch i) ch ch.length
      rw [← hpi i] at hb
      exact decide_eq_true (by omega)
    · rw [keeps_plan s bs l ch _ hlen]
      intro t ht
      rw [hget t ht, hpi t]
      exact pickTo_kept _ (by rw [← hpi t]; exact hall t (Nat.zero_le _) ht)
    · intro plan hn hi hk
      have hb := hbest plan hn hi hk
      have hl2 : (speedsOf ch plan).length = ((List.range' 0 l.length).map fun i => ch.getD (p i).toNat 0).length := by simp [speedsOf, hn]
      have hg1 : ∀ t, t < l.length → (speedsOf ch plan).getD t 0 = ch.getD (plan.getD t 0).toNat 0 := fun t ht => by
        unfold speedsOf
        rw [List.getD_eq_getElem?_getD, List.getElem?_map, getD_get (0 : Int) (l := plan) (i := t) (by omega)]; rfl
      have hg2 : ∀ t, t < l.length → ((List.range' 0 l.length).map fun i => ch.getD (p i).toNat 0).getD t 0 = ch.getD (p t).toNat 0 := fun t ht => by
        rw [List.getD_eq_getElem?_getD, List.getElem?_map, List.getElem?_range' ht]; simp
      have hsl : (speedsOf ch plan).length = l.length := by simp [speedsOf, hn]
      obtain ⟨a, b⟩ := sumL_le (speedsOf ch plan) ((List.range' 0 l.length).map fun i => ch.getD (p i).toNat 0) hl2 fun i hi => by
        rw [hsl] at hi
        rw [hg1 i hi, hg2 i hi]
        exact (hb i hi).2.1
      refine ⟨rfl, a, ?_⟩
      by_cases hlt : sumL (speedsOf ch plan) < sumL ((List.range' 0 l.length).map fun i => ch.getD (p i).toNat 0)
      · exact .inl hlt
      · refine .inr (earlierS_not _ _ (by rw [hlen, hn]) fun i hi => ?_)
        rw [hn] at hi
        rw [hget i hi]
        have := b (by omega) i (by rw [hsl]; exact hi)
        rw [hg1 i hi, hg2 i hi] at this
        exact (hb i hi).2.2 this
  · rw [if_neg hrun]
    refine ⟨h1, h2, h3, .inr rfl, fun plan hn hi hk => ?_⟩
    exfalso
    apply hrun
    rw [runPlan_true (ch := ch) l.length [] 0 (Nat.le_refl _) fun i _ b => (hbest plan hn hi hk i b).1]
end Go.Proofs.YtjiaepphnddpoaaGreat
