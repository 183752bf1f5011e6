/-
  Walks: shortest, floor, ceil, CheckHeading, extremes.
  Walks: the least and the greatest value of an expression in a region.
  The specification's package: numbers, Check.
  The specification's package: a step of offsets.
  The specification's package: a step of offsets, its loop.
  The specification's package: the ends of bounds, and so many times a number.
  The specification's package: the error of a streamer with bounds; the bounds after a step.
  The specification's package: the bounds after a step, walked.
  Small helpers of the statements: a number out of a list, numbers within bounds.
  Plain laws of steps: what is greater before a step is not less after it; what lies in bounds lies in those after a step. Nothing of the program stands here.
  The plain law of the fastest plan: it keeps the limits, none that keeps them is faster, and none as fast comes before it. Nothing of the program stands here.
  The plain law of the search through all plans: what it finds is the fastest plan. Nothing of the program stands here.
  Plain laws of regions: what a tight region has. Nothing of the program stands here.
  Small helpers of the statements: drifts, sums, lists compared, a list of one's own.
  Plain laws of the steps of a streamer within bounds. Nothing of the program stands here.
  Walks: the regions of all nodes.
  Walks: a region that is turned.
  Walks: Turned.
  Plain laws of nodes that lie straight, and of turned regions. Nothing of the program stands here.
  Walks in region: CheckPoint, first, inside, Has (of a place that lies in the region), Move.
-/
import Derived.Test.YtcmbmmpihiekhaaGreatTG
import Derived.Test.YtcmbmmpihiekhaaGreatTW
import Derived.Deep.QuietTactic
import Derived.Test.YtcmbmmpihiekhaaGreatBase
import Derived.Deep.AppendLies
import Derived.ChangeKeysEq
set_option maxRecDepth 100000
set_option maxHeartbeats 16000000
set_option linter.unusedSimpArgs false
set_option linter.unusedVariables false
namespace Go.Proofs.YtcmbmmpihiekhaaGreat
open Go.RowKit Go.Shelf

end Go.Proofs.YtcmbmmpihiekhaaGreat
namespace Go.Proofs.YtcmbmmpihiekhaaGreat
open Go.RowKit Go.Shelf

theorem smul_bd {a b A B : Int} (h1 : -A ≤ a) (h2 : a ≤ A) (h3 : -B ≤ b) (h4 : b ≤ B) : -(A * B) ≤ a * b ∧ a * b ≤ A * B := by
  have hA : 0 ≤ A := by omega
  have hB : 0 ≤ B := by omega
  rcases Int.le_total 0 a with ha | ha <;> rcases Int.le_total 0 b with hb | hb
  · have := Int.mul_le_mul h2 h4 hb hA
    have := Int.mul_nonneg ha hb
    have := Int.mul_nonneg hA hB
    omega
  · have h := Int.mul_le_mul h2 (show -b ≤ B by omega) (by omega) hA
    have h0 := Int.mul_nonneg ha (show 0 ≤ -b by omega)
    have := Int.mul_nonneg hA hB
    rw [Int.mul_neg] at h h0
    omega
  · have h := Int.mul_le_mul (show -a ≤ A by omega) h4 hb hA
    have h0 := Int.mul_nonneg (show 0 ≤ -a by omega) hb
    have := Int.mul_nonneg hA hB
    rw [Int.neg_mul] at h h0
    omega
  · have h := Int.mul_le_mul (show -a ≤ A by omega) (show -b ≤ B by omega) (by omega) hA
    have h0 := Int.mul_nonneg (show 0 ≤ -a by omega) (show 0 ≤ -b by omega)
    have := Int.mul_nonneg hA hB
    rw [Int.neg_mul_neg] at h h0
    omega
def optB (o : Option Bnd) : Bnd := o.getD ⟨0, 0⟩
end Go.Proofs.YtcmbmmpihiekhaaGreat
namespace Go.Proofs.YtcmbmmpihiekhaaGreat
open Go.RowKit Go.Shelf

end Go.Proofs.YtcmbmmpihiekhaaGreat
namespace Go.Proofs.YtcmbmmpihiekhaaGreat
open Go.RowKit Go.Shelf

end Go.Proofs.YtcmbmmpihiekhaaGreat
namespace Go.Proofs.YtcmbmmpihiekhaaGreat
open Go.RowKit Go.Shelf

end Go.Proofs.YtcmbmmpihiekhaaGreat
namespace Go.Proofs.YtcmbmmpihiekhaaGreat
open Go.RowKit Go.Shelf

end Go.Proofs.YtcmbmmpihiekhaaGreat
namespace Go.Proofs.YtcmbmmpihiekhaaGreat
open Go.RowKit Go.Shelf

end Go.Proofs.YtcmbmmpihiekhaaGreat
namespace Go.Proofs.YtcmbmmpihiekhaaGreat
open Go.RowKit Go.Shelf

end Go.Proofs.YtcmbmmpihiekhaaGreat
namespace Go.Proofs.YtcmbmmpihiekhaaGreat
open Go.RowKit Go.Shelf

/-! Numbers within bounds, as others choose them. -/
end Go.Proofs.YtcmbmmpihiekhaaGreat
namespace Go.Proofs.YtcmbmmpihiekhaaGreat
open Go.RowKit Go.Shelf

/-- A number lies in a bound. -/
def inB (x : Int) (b : Bnd) : Prop := b.lo ≤ x ∧ x ≤ b.hi
theorem getD_of {α : Type} {l : List α} {i : Nat} {x : α} (d : α) (h : l[i]? = some x) : l.getD i d = x := by rw [List.getD_eq_getElem?_getD, h]; rfl
/-! Bends and pulls. -/
/-! The first step in which something holds. -/
theorem fstN_hit {p : Nat → Bool} {t : Nat} (hp : p t = true) : ∀ n, t < n → 0 ≤ fstN p n ∧ fstN p n ≤ t
  | 0, h => absurd h (Nat.not_lt_zero _)
  | n + 1, h => by
    rw [fstN_step]
    by_cases ht : t < n
    · have := fstN_hit hp n ht
      rw [if_pos this.1]; exact this
    · obtain rfl : t = n := by omega
      have := fstN_bd p t
      split
      · omega
      · omega
theorem fstN_none {p : Nat → Bool} : ∀ n, fstN p n = -1 ↔ ∀ t, t < n → p t = false
  | 0 => by simp [fstN]
  | n + 1 => by
    have ih := fstN_none (p := p) n
    constructor
    · intro h t ht
      cases hp : p t with
      | false => rfl
      | true => have := fstN_hit hp (n + 1) ht; omega
    · intro h
      have e := ih.2 fun t ht => h t (by omega)
      rw [fstN_step, e, if_neg (by omega), if_neg (by simp [h n (by omega)])]
/-! Narrower bounds. -/
theorem keepsS_iff (s : Strm) (bs : List Bnd) (l : List Wat) (v : List Int) : keepsS s bs l v = true ↔ ∀ t, t < l.length → bentN s bs l t = false ∧ pulledN s bs l v t = false := by
  unfold keepsS strainS
  rw [decide_eq_true_eq, Prod.mk.injEq, fstN_none, fstN_none]
  exact ⟨fun h t ht => ⟨h.1 t ht, h.2 t ht⟩, fun h => ⟨fun t ht => (h t ht).1, fun t ht => (h t ht).2⟩⟩
/-! Numbers within bounds, as others choose them. -/
end Go.Proofs.YtcmbmmpihiekhaaGreat
namespace Go.Proofs.YtcmbmmpihiekhaaGreat

def sumL : List Int → Int
  | [] => 0
  | x :: l => x + sumL l
/-- A list comes before another one. -/
def earlierS : List Int → List Int → Bool
  | x :: l, y :: m => if x = y then earlierS l m else decide (x < y)
  | l, m => decide (l.length < m.length)
theorem sumL_append (l m : List Int) : sumL (l ++ m) = sumL l + sumL m := by
  induction l with
  | nil => simp [sumL]
  | cons x l ih => simp only [List.cons_append, sumL, ih]; omega
theorem earlierS_not : ∀ (l m : List Int), l.length = m.length → (∀ i, i < l.length → m.getD i 0 ≤ l.getD i 0) → earlierS l m = false
  | [], [], _, _ => by simp [earlierS]
  | x :: l, y :: m, h, hh => by
    have h0 := hh 0 (by simp)
    simp at h0
    rw [earlierS]
    by_cases e : x = y
    · rw [if_pos e]
      exact earlierS_not l m (by simpa using h) fun i hi => by have := hh (i + 1) (by simpa using hi); simpa using this
    · rw [if_neg e]; exact decide_eq_false (by omega)
theorem sumL_le : ∀ (l m : List Int), l.length = m.length → (∀ i, i < l.length → l.getD i 0 ≤ m.getD i 0) → sumL l ≤ sumL m ∧ (sumL l = sumL m → ∀ i, i < l.length → l.getD i 0 = m.getD i 0)
  | [], [], _, _ => by simp [sumL]
  | x :: l, y :: m, h, hh => by
    have h0 := hh 0 (by simp)
    simp at h0
    obtain ⟨a, b⟩ := sumL_le l m (by simpa using h) fun i hi => by have := hh (i + 1) (by simpa using hi); simpa using this
    simp only [sumL]
    refine ⟨by omega, fun e i hi => ?_⟩
    cases i with
    | zero => simp; omega
    | succ i => have := b (by omega) i (by simpa using hi); simpa using this
theorem pickTo_best {f : Nat → Bool} {ch : List Int} {k : Nat} (hf : f k = true) : ∀ n, k < n → 0 ≤ pickTo f ch n ∧ ch.getD k 0 ≤ ch.getD (pickTo f ch n).toNat 0 ∧ (ch.getD k 0 = ch.getD (pickTo f ch n).toNat 0 → pickTo f ch n ≤ k)
  | 0, h => absurd h (Nat.not_lt_zero _)
  | n + 1, h => by
    have hb := pickTo_bd f ch n
    rw [pickTo_step]
    by_cases hk : k < n
    · obtain ⟨a, b, c⟩ := pickTo_best (ch := ch) hf n hk
      split
      · rw [if_neg (by omega)]
        split
        · refine ⟨by omega, ?_, ?_⟩ <;> simp only [Int.toNat_natCast] <;> omega
        · exact ⟨a, b, c⟩
      · exact ⟨a, b, c⟩
    · obtain rfl : k = n := by omega
      rw [if_pos hf]
      split
      · refine ⟨by omega, ?_, ?_⟩ <;> simp only [Int.toNat_natCast] <;> omega
      · split
        · refine ⟨by omega, ?_, ?_⟩ <;> simp only [Int.toNat_natCast] <;> omega
        · refine ⟨by omega, by omega, fun _ => by omega⟩
theorem pickTo_kept {f : Nat → Bool} {ch : List Int} : ∀ n, 0 ≤ pickTo f ch n → f (pickTo f ch n).toNat = true
  | 0, h => by simp [pickTo] at h
  | n + 1, h => by
    rw [pickTo_step] at h ⊢
    have ih := pickTo_kept (f := f) (ch := ch) n
    by_cases hf : f n = true
    · rw [if_pos hf] at h ⊢
      split
      · simpa using hf
      · split
        · simpa using hf
        · exact ih (by omega)
    · rw [if_neg hf] at h ⊢
      exact ih h
theorem runPlan_true {p : Nat → Int} {ch : List Int} {nd : Nat} : ∀ (r : Nat) (plan : List Int) (way : Int), r ≤ nd → (∀ i, nd - r ≤ i → i < nd → 0 ≤ p i) →
    runPlan p ch nd r plan way = (true, plan ++ (List.range' (nd - r) r).map p, way + sumL ((List.range' (nd - r) r).map fun i => ch.getD (p i).toNat 0))
  | 0, plan, way, _, _ => by simp [runPlan, sumL]
  | r + 1, plan, way, hr, h => by
    rw [runPlan, if_neg (by have := h (nd - (r + 1)) (by omega) (by omega); omega), runPlan_true r _ _ (by omega) fun i a b => h i (by omega) b]
    rw [List.range'_succ, show nd - (r + 1) + 1 = nd - r by omega]
    simp only [List.map_cons, sumL, List.append_assoc, List.singleton_append]
    rw [Int.add_assoc]
theorem runPlan_all {p : Nat → Int} {ch : List Int} {nd : Nat} : ∀ (r : Nat) (plan : List Int) (way : Int), r ≤ nd → (runPlan p ch nd r plan way).1 = true → ∀ i, nd - r ≤ i → i < nd → 0 ≤ p i
  | 0, plan, way, _, _, i, a, b => by omega
  | r + 1, plan, way, hr, h, i, a, b => by
    rw [runPlan] at h
    by_cases hp : p (nd - (r + 1)) < 0
    · rw [if_pos hp] at h; cases h
    · rw [if_neg hp] at h
      by_cases e : i = nd - (r + 1)
      · subst e; omega
      · exact runPlan_all r _ _ (by omega) h i (by omega) b
/-- The speeds of a plan. -/
def speedsOf (ch plan : List Int) : List Int := plan.map fun x => ch.getD x.toNat 0
def isPlan (ch plan : List Int) : Bool := plan.all fun x => decide (0 ≤ x ∧ x ≤ ch.length - 1)
theorem keeps_plan (s : Strm) (bs : List Bnd) (l : List Wat) (ch plan : List Int) (hn : plan.length = l.length) :
    keepsS s bs l (speedsOf ch plan) = true ↔ ∀ t, t < l.length → keptN s bs l ch t (plan.getD t 0).toNat = true := by
  rw [keepsS_iff]
  have e : ∀ t, t < l.length → (speedsOf ch plan).getD t 0 = ch.getD (plan.getD t 0).toNat 0 := fun t ht => by
    unfold speedsOf
    rw [List.getD_eq_getElem?_getD, List.getElem?_map, getD_get (0 : Int) (l := plan) (i := t) (by omega)]; rfl
  constructor
  · intro h t ht
    obtain ⟨a, b⟩ := h t ht
    unfold pulledN at b
    unfold keptN
    rw [a, ← e t ht, b]; rfl
  · intro h t ht
    have := h t ht
    unfold keptN at this
    unfold pulledN
    rw [e t ht]
    simpa using this
theorem speedsOf_ok {ch plan : List Int} (hc : okSpeeds ch = true) : okSpeeds (speedsOf ch plan) = true := by
  unfold okSpeeds speedsOf
  rw [List.all_eq_true]
  intro x hx
  obtain ⟨y, _, rfl⟩ := List.mem_map.1 hx
  rw [List.getD_eq_getElem?_getD]
  cases h : ch[y.toNat]? with
  | none => decide
  | some z => exact List.all_eq_true.1 hc z (List.mem_of_getElem? h)
/-- What Fastest says, where it is asked well. -/
structure FastSaid (s : Strm) (bs : List Bnd) (l : List Wat) (ch : List Int) (r : List Int × Int × Int) : Prop where
  bw : errBW s bs l = 0
  lim : 1 ≤ l.length ∧ l.length ≤ 6 ∧ 1 ≤ ch.length ∧ ch.length ≤ 4
  spd : okSpeeds ch = true
  run : (r.2.2 = 0 ∧ r.1.length = l.length ∧ isPlan ch r.1 = true ∧ keepsS s bs l (speedsOf ch r.1) = true ∧ sumL (speedsOf ch r.1) = r.2.1) ∨ r = ([], 0, 4)
  best : ∀ plan, plan.length = l.length → isPlan ch plan = true → keepsS s bs l (speedsOf ch plan) = true →
    r.2.2 = 0 ∧ sumL (speedsOf ch plan) ≤ r.2.1 ∧ (sumL (speedsOf ch plan) < r.2.1 ∨ earlierS plan r.1 = false)
theorem isPlan_at {ch plan : List Int} (h : isPlan ch plan = true) {t : Nat} (ht : t < plan.length) : 0 ≤ plan.getD t 0 ∧ (plan.getD t 0).toNat < ch.length := by
  have := of_decide_eq_true (List.all_eq_true.1 h _ (List.mem_of_getElem? (getD_get (0 : Int) ht)))
  omega
theorem errBW_vals (s : Strm) (bs : List Bnd) (l : List Wat) : errBW s bs l = 0 ∨ errBW s bs l = 30 ∨ errBW s bs l = 31 ∨ errBW s bs l = 33 := by
  unfold errBW errB chkWats
  repeat' split
  all_goals simp_all
theorem fast_said (s : Strm) (bs : List Bnd) (l : List Wat) (ch : List Int) (h : (fastR s bs l ch).2.2 = 0 ∨ (fastR s bs l ch).2.2 = 4) : FastSaid s bs l ch (fastR s bs l ch) := by
  have h1 : errBW s bs l = 0 := by
    by_cases e : errBW s bs l = 0
    · exact e
    · exfalso
      rw [fastR, if_pos e] at h
      have := errBW_vals s bs l
      simp only at h
      omega
  have h2 : 1 ≤ l.length ∧ l.length ≤ 6 ∧ 1 ≤ ch.length ∧ ch.length ≤ 4 := by
    by_cases e : 1 ≤ l.length ∧ l.length ≤ 6 ∧ 1 ≤ ch.length ∧ ch.length ≤ 4
    · exact e
    · rw [fastR, if_neg (by simp [h1]), if_pos e] at h; simp at h
  have h3 : okSpeeds ch = true := by
    cases e : okSpeeds ch
    · rw [fastR, if_neg (by simp [h1]), if_neg (by simp only [Decidable.not_not]; exact h2), if_pos e] at h; simp at h
    · rfl
  have hr : fastR s bs l ch = (if (runPlan (fun i => pickTo (keptN s bs l ch i) ch ch.length) ch l.length l.length [] 0).1 = true then ((runPlan (fun i => pickTo (keptN s bs l ch i) ch ch.length) ch l.length l.length [] 0).2.1, (runPlan (fun i => pickTo (keptN s bs l ch i) ch ch.length) ch l.length l.length [] 0).2.2, 0) else ([], 0, 4)) := by
    rw [fastR, if_neg (by simp [h1]), if_neg (by simp only [Decidable.not_not]; exact h2), if_neg (by simp [h3])]
  rw [hr]
  clear hr h
  obtain ⟨p, hp⟩ : ∃ p : Nat → Int, (fun i => pickTo (keptN s bs l ch i) ch ch.length) = p := ⟨_, rfl⟩
  have hpi : ∀ i, p i = pickTo (keptN s bs l ch i) ch ch.length := fun i => by rw [← hp]
  rw [hp]
  have hbest : ∀ plan : List Int, plan.length = l.length → isPlan ch plan = true → keepsS s bs l (speedsOf ch plan) = true → ∀ t, t < l.length →
      0 ≤ p t ∧ ch.getD (plan.getD t 0).toNat 0 ≤ ch.getD (p t).toNat 0 ∧ (ch.getD (plan.getD t 0).toNat 0 = ch.getD (p t).toNat 0 → p t ≤ plan.getD t 0) := by
    intro plan hn hi hk t ht
    obtain ⟨a, b⟩ := isPlan_at hi (t := t) (by omega)
    have := pickTo_best (f := keptN s bs l ch t) (ch := ch) ((keeps_plan s bs l ch plan hn).1 hk t ht) ch.length b
    rw [← hpi t] at this
    exact ⟨this.1, this.2.1, fun e => by have := this.2.2 e; omega⟩
  by_cases hrun : (runPlan p ch l.length l.length [] 0).1 = true
  · rw [if_pos hrun]
    have hall := runPlan_all l.length [] 0 (Nat.le_refl _) hrun
    have e := runPlan_true (ch := ch) l.length [] 0 (Nat.le_refl _) hall
    rw [e]
    simp only [Nat.sub_self, List.nil_append, Int.zero_add] at hall ⊢
    have hlen : ((List.range' 0 l.length).map p).length = l.length := by simp
    have hget : ∀ t, t < l.length → ((List.range' 0 l.length).map p).getD t 0 = p t := fun t ht => by
      rw [List.getD_eq_getElem?_getD, List.getElem?_map, List.getElem?_range' ht]; simp
    have hsp : speedsOf ch ((List.range' 0 l.length).map p) = (List.range' 0 l.length).map fun i => ch.getD (p i).toNat 0 := by
      unfold speedsOf; rw [List.map_map]; rfl
    refine ⟨h1, h2, h3, .inl ⟨rfl, hlen, ?_, ?_, by rw [hsp]⟩, ?_⟩
    · unfold isPlan
      rw [List.all_eq_true]
      intro x hx
      obtain ⟨i, hi, rfl⟩ := List.mem_map.1 hx
      have hi' : i < l.length := by simpa using hi
      have h0 := hall i (Nat.zero_le _) hi'
      have hb := pickTo_bd (keptN s bs l ch i) ch ch.length
      rw [← hpi i] at hb
      exact decide_eq_true (by omega)
    · rw [keeps_plan s bs l ch _ hlen]
      intro t ht
      rw [hget t ht, hpi t]
      exact pickTo_kept _ (by rw [← hpi t]; exact hall t (Nat.zero_le _) ht)
    · intro plan hn hi hk
      have hb := hbest plan hn hi hk
      have hl2 : (speedsOf ch plan).length = ((List.range' 0 l.length).map fun i => ch.getD (p i).toNat 0).length := by simp [speedsOf, hn]
      have hg1 : ∀ t, t < l.length → (speedsOf ch plan).getD t 0 = ch.getD (plan.getD t 0).toNat 0 := fun t ht => by
        unfold speedsOf
        rw [List.getD_eq_getElem?_getD, List.getElem?_map, getD_get (0 : Int) (l := plan) (i := t) (by omega)]; rfl
      have hg2 : ∀ t, t < l.length → ((List.range' 0 l.length).map fun i => ch.getD (p i).toNat 0).getD t 0 = ch.getD (p t).toNat 0 := fun t ht => by
        rw [List.getD_eq_getElem?_getD, List.getElem?_map, List.getElem?_range' ht]; simp
      have hsl : (speedsOf ch plan).length = l.length := by simp [speedsOf, hn]
      obtain ⟨a, b⟩ := sumL_le (speedsOf ch plan) ((List.range' 0 l.length).map fun i => ch.getD (p i).toNat 0) hl2 fun i hi => by
        rw [hsl] at hi
        rw [hg1 i hi, hg2 i hi]
        exact (hb i hi).2.1
      refine ⟨rfl, a, ?_⟩
      by_cases hlt : sumL (speedsOf ch plan) < sumL ((List.range' 0 l.length).map fun i => ch.getD (p i).toNat 0)
      · exact .inl hlt
      · refine .inr (earlierS_not _ _ (by rw [hlen, hn]) fun i hi => ?_)
        rw [hn] at hi
        rw [hget i hi]
        have := b (by omega) i (by rw [hsl]; exact hi)
        rw [hg1 i hi, hg2 i hi] at this
        exact (hb i hi).2.2 this
  · rw [if_neg hrun]
    refine ⟨h1, h2, h3, .inr rfl, fun plan hn hi hk => ?_⟩
    exfalso
    apply hrun
    rw [runPlan_true (ch := ch) l.length [] 0 (Nat.le_refl _) fun i _ b => (hbest plan hn hi hk i b).1]
end Go.Proofs.YtcmbmmpihiekhaaGreat
namespace Go.Proofs.YtcmbmmpihiekhaaGreat

end Go.Proofs.YtcmbmmpihiekhaaGreat
namespace Go.Proofs.YtcmbmmpihiekhaaGreat

/-- A point lies in a region. -/
def inR (p : Pnt) (r : Reg) : Prop := inB p.x r.x ∧ inB p.y r.y ∧ inB (p.x + p.y) r.s ∧ inB (p.x - p.y) r.d
/-- What a hull of points is. -/
structure Hull (l : List Pnt) (h : Reg) : Prop where
  has : ∀ p ∈ l, inR p h
  xlo : ∃ p ∈ l, p.x = h.x.lo
  xhi : ∃ p ∈ l, p.x = h.x.hi
  ylo : ∃ p ∈ l, p.y = h.y.lo
  yhi : ∃ p ∈ l, p.y = h.y.hi
  slo : ∃ p ∈ l, p.x + p.y = h.s.lo
  shi : ∃ p ∈ l, p.x + p.y = h.s.hi
  dlo : ∃ p ∈ l, p.x - p.y = h.d.lo
  dhi : ∃ p ∈ l, p.x - p.y = h.d.hi
theorem hull_one (p : Pnt) : Hull [p] (ofP p) := by
  have hh : ∀ q ∈ [p], inR q (ofP p) := by
    intro q hq
    simp at hq; subst hq
    exact ⟨⟨Int.le_refl _, Int.le_refl _⟩, ⟨Int.le_refl _, Int.le_refl _⟩, ⟨Int.le_refl _, Int.le_refl _⟩, ⟨Int.le_refl _, Int.le_refl _⟩⟩
  have hm : p ∈ [p] := List.mem_singleton.2 rfl
  exact ⟨hh, ⟨p, hm, rfl⟩, ⟨p, hm, rfl⟩, ⟨p, hm, rfl⟩, ⟨p, hm, rfl⟩, ⟨p, hm, rfl⟩, ⟨p, hm, rfl⟩, ⟨p, hm, rfl⟩, ⟨p, hm, rfl⟩⟩
theorem lo_add {l : List Pnt} {f : Pnt → Int} {a : Int} (p : Pnt) (h : ∃ q ∈ l, f q = a) : ∃ q ∈ l ++ [p], f q = min a (f p) := by
  obtain ⟨q, hq, e⟩ := h
  by_cases hlt : a ≤ f p
  · exact ⟨q, List.mem_append_left _ hq, by omega⟩
  · exact ⟨p, List.mem_append_right _ (List.mem_singleton.2 rfl), by omega⟩
theorem hi_add {l : List Pnt} {f : Pnt → Int} {a : Int} (p : Pnt) (h : ∃ q ∈ l, f q = a) : ∃ q ∈ l ++ [p], f q = max a (f p) := by
  obtain ⟨q, hq, e⟩ := h
  by_cases hlt : f p ≤ a
  · exact ⟨q, List.mem_append_left _ hq, by omega⟩
  · exact ⟨p, List.mem_append_right _ (List.mem_singleton.2 rfl), by omega⟩
theorem hull_add {l : List Pnt} {h : Reg} (p : Pnt) (H : Hull l h) : Hull (l ++ [p]) (zipR spanB h (ofP p)) := by
  have hh : ∀ q ∈ l ++ [p], inR q (zipR spanB h (ofP p)) := by
    intro q hq
    rcases List.mem_append.1 hq with hq | hq
    · have := H.has q hq
      unfold inR inB zipR spanB ofP still at *; dsimp only at *; omega
    · simp at hq; subst hq
      unfold inR inB zipR spanB ofP still; dsimp only; omega
  exact ⟨hh, lo_add (f := fun p => p.x) p H.xlo, hi_add (f := fun p => p.x) p H.xhi, lo_add (f := fun p => p.y) p H.ylo, hi_add (f := fun p => p.y) p H.yhi,
    lo_add (f := fun p => p.x + p.y) p H.slo, hi_add (f := fun p => p.x + p.y) p H.shi, lo_add (f := fun p => p.x - p.y) p H.dlo, hi_add (f := fun p => p.x - p.y) p H.dhi⟩
theorem hull_fold : ∀ (m l : List Pnt) (h : Reg), Hull l h → ∃ k, m.foldl addP (some h) = some k ∧ Hull (l ++ m) k
  | [], l, h, H => ⟨h, rfl, by rw [List.append_nil]; exact H⟩
  | p :: m, l, h, H => by
    obtain ⟨k, e, K⟩ := hull_fold m (l ++ [p]) _ (hull_add p H)
    exact ⟨k, e, by simpa using K⟩
theorem hull_of : ∀ (l : List Pnt), l ≠ [] → ∃ h, hullL l = some h ∧ Hull l h
  | [], h => absurd rfl h
  | p :: m, _ => by
    obtain ⟨k, e, K⟩ := hull_fold m [p] _ (hull_one p)
    refine ⟨k, ?_, K⟩
    unfold hullL
    rw [List.foldl_cons]
    show m.foldl addP (some (zipR spanB (ofP p) (ofP p))) = some k
    rw [zipR_self]; exact e
/-- What a tight region is: it has the places of the region, and each of its bounds is met by one. -/
theorem tight_hull {r t : Reg} (h : tightO r = some t) : Hull (ptsL r) t := by
  have hne : ptsL r ≠ [] := by
    intro e
    rw [tightO, e] at h
    cases h
  obtain ⟨k, e, K⟩ := hull_of _ hne
  rw [tightO, e] at h
  cases h
  exact K
theorem tight_ok {r t : Reg} (hr : okReg r = true) (h : tightO r = some t) : okReg t = true := by
  have T := tight_hull h
  have hp : ∀ p ∈ ptsL r, -32768 ≤ p.x ∧ p.x ≤ 32768 ∧ -32768 ≤ p.y ∧ p.y ≤ 32768 := fun p hp => ptsL_mid hr hp
  obtain ⟨p1, m1, e1⟩ := T.xlo
  obtain ⟨p2, m2, e2⟩ := T.xhi
  obtain ⟨p3, m3, e3⟩ := T.ylo
  obtain ⟨p4, m4, e4⟩ := T.yhi
  obtain ⟨p5, m5, e5⟩ := T.slo
  obtain ⟨p6, m6, e6⟩ := T.shi
  obtain ⟨p7, m7, e7⟩ := T.dlo
  obtain ⟨p8, m8, e8⟩ := T.dhi
  have a1 := hp _ m1
  have a2 := hp _ m2
  have a3 := hp _ m3
  have a4 := hp _ m4
  have a5 := hp _ m5
  have a6 := hp _ m6
  have a7 := hp _ m7
  have a8 := hp _ m8
  have b := T.has _ m1
  unfold okReg okBnd
  unfold inR inB at b
  simp only [Bool.and_eq_true, decide_eq_true_eq]
  omega
end Go.Proofs.YtcmbmmpihiekhaaGreat
namespace Go.Proofs.YtcmbmmpihiekhaaGreat
open Go.RowKit Go.Shelf

/-! Sum -/
theorem sumL_take {l : List Int} {k : Nat} {x : Int} (h : l[k]? = some x) : sumL (l.take (k + 1)) = sumL (l.take k) + x := by
  rw [List.take_add_one, h, sumL_append]; simp [sumL]
theorem Sum_any (l : List Int) (M : Int) (A : Option Addr) (n c B : Nat) (w : World) (hM : 0 ≤ M ∧ M ≤ 1000000) (hn : n ≤ 1000000) (hl2 : ∀ x ∈ l, 0 ≤ x ∧ x ≤ M) (hs : SlAt w B 1 ivs A n c l) :
    Calls Tryz.prog 8 #[.slice A n c] w fun e w' => e = .returned (.int .i64 (sumL l)) ∧ w = w' := by
  have hl := Lib.hid hs.len
  replace hl2 := Lib.hid hl2
  go_enter Tryz.func8, Tryz.ntmps8
  go_wp2_with fail
  go_loop [3, 4] (fun v i => ∃ k : Nat, i = .int .i64 k ∧ k ≤ n ∧ v = .int .i64 (sumL (l.take k)) ∧ 0 ≤ sumL (l.take k) ∧ sumL (l.take k) ≤ k * M) (fun v i => n - (intOf i).toNat)
  case atStart => exact ⟨0, rfl, Nat.zero_le _, rfl, by simp [sumL], by simp [sumL]⟩
  case round =>
    obtain ⟨k, rfl, hk, rfl, h0, h1⟩ := hrel
    by_cases hlt : k < n
    · obtain ⟨x, hx⟩ := some_of_lt hl.out hlt
      have hst := Lib.hid (sumL_take hx)
      obtain ⟨b1, b2⟩ := hl2.out x (List.mem_of_getElem? hx)
      obtain ⟨b, off, rfl, -, hbl, e0⟩ := hs.int hx
      replace hx := Lib.hid hx
      have hm : ((k : Int)) * M ≤ 1000000 * 1000000 := Int.mul_le_mul (by omega) hM.2 hM.1 (by omega)
      have hm2 : ((k + 1 : Nat) : Int) * M = (k : Int) * M + M := by rw [show ((k + 1 : Nat) : Int) = (k : Int) + 1 by omega, Int.add_mul, Int.one_mul]
      replace hm2 := Lib.hid hm2
      generalize sumL (l.take k) = S at *
      have hk0 : (0 : Int) ≤ (k : Int) := by omega
      have hk1 : (k : Int) < (n : Int) := by omega
      go_wp2
      go_round
      case rel => exact ⟨k + 1, by go_num, by omega, by rw [hst.out], by rw [hst.out]; omega, by rw [hst.out, hm2.out]; omega⟩
      case measure => simp [intOf]; omega
    · obtain rfl : k = n := by omega
      have ht : Hid (l.take k = l) := List.take_of_length_le (by rw [hl.out]; exact Nat.le_refl _)
      go_wp2
      go_ret
      exact ⟨ret_int (by rw [ht.out]), rfl⟩
/-! Earlier -/
end Go.Proofs.YtcmbmmpihiekhaaGreat
namespace Go.Proofs.YtcmbmmpihiekhaaGreat
open Go.RowKit Go.Shelf

end Go.Proofs.YtcmbmmpihiekhaaGreat
namespace Go.Proofs.YtcmbmmpihiekhaaGreat
open Go.RowKit Go.Shelf

end Go.Proofs.YtcmbmmpihiekhaaGreat
namespace Go.Proofs.YtcmbmmpihiekhaaGreat
open Go.RowKit Go.Shelf

end Go.Proofs.YtcmbmmpihiekhaaGreat
namespace Go.Proofs.YtcmbmmpihiekhaaGreat
open Go.RowKit Go.Shelf

theorem okReg_iff {r : Reg} : okReg r = true ↔ (-32768 ≤ r.x.lo ∧ r.x.lo ≤ r.x.hi ∧ r.x.hi ≤ 32768) ∧ (-32768 ≤ r.y.lo ∧ r.y.lo ≤ r.y.hi ∧ r.y.hi ≤ 32768) ∧ (-65536 ≤ r.s.lo ∧ r.s.lo ≤ r.s.hi ∧ r.s.hi ≤ 65536) ∧ (-65536 ≤ r.d.lo ∧ r.d.lo ≤ r.d.hi ∧ r.d.hi ≤ 65536) := by
  simp only [okReg, okBnd, Bool.and_eq_true, decide_eq_true_eq, and_assoc]
/-! What is written into the result's own cells at the end. -/
end Go.Proofs.YtcmbmmpihiekhaaGreat
namespace Go.Proofs.YtcmbmmpihiekhaaGreat
open Go.RowKit Go.Shelf

/-- Each bound of a tight region is met by one of its places. -/
structure TightR (r : Reg) : Prop where
  xlo : ∃ p, inR p r ∧ p.x = r.x.lo
  xhi : ∃ p, inR p r ∧ p.x = r.x.hi
  ylo : ∃ p, inR p r ∧ p.y = r.y.lo
  yhi : ∃ p, inR p r ∧ p.y = r.y.hi
  slo : ∃ p, inR p r ∧ p.x + p.y = r.s.lo
  shi : ∃ p, inR p r ∧ p.x + p.y = r.s.hi
  dlo : ∃ p, inR p r ∧ p.x - p.y = r.d.lo
  dhi : ∃ p, inR p r ∧ p.x - p.y = r.d.hi
/-! The least and the greatest p x + q y. -/
structure ExtS (r : Reg) (p q : Int) (b : Bnd) : Prop where
  lo : ∃ v, inR v r ∧ p * v.x + q * v.y = b.lo
  hi : ∃ v, inR v r ∧ p * v.x + q * v.y = b.hi
  has : ∀ v, inR v r → inB (p * v.x + q * v.y) b
/-! Where the nodes are in the plane. -/
/-! A quarter turn. -/
/-! Places within a distance. -/
def intoL (m n : Int) : Int := max (-m) (min n m)
end Go.Proofs.YtcmbmmpihiekhaaGreat
namespace Go.Proofs.YtcmbmmpihiekhaaGreat
open Go.RowKit Go.Shelf

theorem into_any (m n : Int) (w : World) (h0 : 0 ≤ m) (h1 : m ≤ 1000000) :
    Calls Tryz.prog 83 #[.int .i64 m, .int .i64 n] w fun e w' => e = .returned (.int .i64 (intoL m n)) ∧ w = w' := by
  have hmax := max2_int
  have hmin := min2_int
  have t := IntWalk.i64_in (-m) (by omega)
  go_enter Tryz.func83, Tryz.ntmps83
  go_wp2
  go_ret
  exact ⟨rfl, rfl⟩
theorem into_in {m n : Int} (h : -m ≤ n ∧ n ≤ m) : intoL m n = n := by unfold intoL; omega
theorem into_out {m n : Int} (h0 : 0 ≤ m) (h : ¬ (-m ≤ n ∧ n ≤ m)) : ¬ intoL m n = n := by unfold intoL; omega
def inPl (n : Int) : Prop := -32768 ≤ n ∧ n ≤ 32768
theorem CheckPoint_any (p : Pnt) (w : World) :
    Calls Tryz.prog 35 #[.agg #[.int .i64 p.x, .int .i64 p.y]] w fun e w' => e = .returned (.int .i64 (chkPnt p)) ∧ Below w.heap.size w w' := by
  have i0 : ∀ (a b : Value) w, (Instr.index 92 (.agg #[a, b]) (.int .i64 0)).run Tryz.prog w = .ok a w := fun _ _ _ => by kernel_rfl
  have i1 : ∀ (a b : Value) w, (Instr.index 92 (.agg #[a, b]) (.int .i64 1)).run Tryz.prog w = .ok b w := fun _ _ _ => by kernel_rfl
  have hI := fun n W => into_any 32768 n W (by omega) (by omega)
  have hv1 : Hid (¬ inPl p.x → chkPnt p = 10) := by show _ → _; intro h; unfold inPl at h; unfold chkPnt okPnt; rw [if_neg]; simp; omega
  have hv2 : Hid (¬ inPl p.y → chkPnt p = 10) := by show _ → _; intro h; unfold inPl at h; unfold chkPnt okPnt; rw [if_neg]; simp; omega
  have hv0 : Hid (inPl p.x → inPl p.y → chkPnt p = 0) := by show _ → _ → _; intro h h'; unfold inPl at h h'; unfold chkPnt okPnt; rw [if_pos]; simp; omega
  obtain ⟨er, her⟩ : ∃ er, er = chkPnt p := ⟨_, rfl⟩
  rw [← her] at hv1 hv2 hv0 ⊢
  clear her
  have hb0 := (Below.refl w.heap.size w).alloc (Nat.le_refl _) (.cells #[.int .i64 p.x, .int .i64 p.y] 48)
  go_enter Tryz.func35, Tryz.ntmps35
  go_wp2_with fail
  generalize w.alloc (.cells #[.int .i64 p.x, .int .i64 p.y] 48) = W at *
  go_loopw [10] (fun j wr => ∃ k : Nat, j = jv k ∧ k ≤ 2 ∧ (1 ≤ k → inPl p.x) ∧ (2 ≤ k → inPl p.y) ∧ wr = W) (fun j wr => 2 - (intOf j).toNat)
  case atStart => exact ⟨0, rfl, by omega, fun h => by omega, fun h => by omega, (by trivial)⟩
  case round =>
    obtain ⟨k, rfl, hk, hx, hy, rfl⟩ := hrel
    replace hx := Lib.hid hx
    replace hy := Lib.hid hy
    match k, hk with
    | 0, _ =>
      rw [show jv 0 = .int .i64 0 from rfl]
      by_cases hq : inPl p.x
      · have e1 := into_in (m := 32768) (n := p.x) hq
        have hI1 := hI p.x
        simp only [e1] at hI1
        clear e1
        go_wp2_with fail
        refine (hI1 _).mono ?_
        rintro e w' ⟨rfl, rfl⟩
        go_wp2_with fail
        go_roundw
        case rel => exact ⟨1, rfl, by omega, fun _ => hq, fun h => by omega, (by trivial)⟩
        case measure => simp [intOf]
      · have e1 := into_out (m := 32768) (n := p.x) (by omega) hq
        have hI1 := hI p.x
        generalize intoL 32768 p.x = z at *
        have e2 : (z != p.x) = true := by rw [bne_iff_ne]; exact e1
        have hz := hv1.out hq
        go_wp2_with fail
        refine (hI1 _).mono ?_
        rintro e w' ⟨rfl, rfl⟩
        clear hI1
        replace hz := Lib.hid hz
        go_wp2
        go_ret
        exact ⟨ret_int hz.out.symm, hb0⟩
    | 1, _ =>
      rw [show jv 1 = .int .i64 1 from rfl]
      by_cases hq : inPl p.y
      · have e1 := into_in (m := 32768) (n := p.y) hq
        have hI1 := hI p.y
        simp only [e1] at hI1
        clear e1
        go_wp2_with fail
        refine (hI1 _).mono ?_
        rintro e w' ⟨rfl, rfl⟩
        go_wp2_with fail
        go_roundw
        case rel => exact ⟨2, rfl, by omega, fun _ => hx.out (by omega), fun _ => hq, (by trivial)⟩
        case measure => simp [intOf]
      · have e1 := into_out (m := 32768) (n := p.y) (by omega) hq
        have hI1 := hI p.y
        generalize intoL 32768 p.y = z at *
        have e2 : (z != p.y) = true := by rw [bne_iff_ne]; exact e1
        have hz := hv2.out hq
        go_wp2_with fail
        refine (hI1 _).mono ?_
        rintro e w' ⟨rfl, rfl⟩
        clear hI1
        replace hz := Lib.hid hz
        go_wp2
        go_ret
        exact ⟨ret_int hz.out.symm, hb0⟩
    | 2, _ =>
      rw [show jv 2 = .int .i64 2 from rfl]
      have hz := Lib.hid (hv0.out (hx.out (by omega)) (hy.out (by omega)))
      go_wp2
      go_ret
      exact ⟨ret_int hz.out.symm, hb0⟩
/-! The first error of several. -/
def firstE : List Int → Int
  | [] => 0
  | e :: l => if e = 0 then firstE l else e
def allZ (l : List Int) (k : Nat) : Prop := ∀ i, i < k → l.getD i 0 = 0
theorem firstE_hit : ∀ {l : List Int} {k : Nat} {x : Int}, allZ l k → l[k]? = some x → x ≠ 0 → firstE l = x
  | [], k, x, _, h, _ => by simp at h
  | a :: l, 0, x, _, h, hx => by simp at h; subst h; rw [firstE, if_neg hx]
  | a :: l, k + 1, x, hz, h, hx => by
    have h0 : a = 0 := hz 0 (by omega)
    rw [firstE, if_pos h0]
    exact firstE_hit (l := l) (k := k) (fun i hi => hz (i + 1) (by omega)) (by simpa using h) hx
theorem firstE_none : ∀ {l : List Int}, allZ l l.length → firstE l = 0
  | [], _ => rfl
  | a :: l, hz => by
    have h0 : a = 0 := hz 0 (by simp)
    rw [firstE, if_pos h0]
    exact firstE_none fun i hi => hz (i + 1) (by simpa using hi)
theorem firstE_any (A : Option Addr) (n c B : Nat) (l : List Int) (w : World) (hs : SlAt w B 1 ivs A n c l) :
    Calls Tryz.prog 70 #[.slice A n c] w fun e w' => e = .returned (.int .i64 (firstE l)) ∧ w = w' := by
  have hl := Lib.hid hs.len
  have hn := hs.le
  go_enter Tryz.func70, Tryz.ntmps70
  go_wp2_with fail
  go_loopw [7] (fun j wr => ∃ k : Nat, j = .int .i64 k ∧ k ≤ n ∧ allZ l k ∧ wr = w) (fun j wr => n - (intOf j).toNat)
  case atStart => exact ⟨0, rfl, Nat.zero_le _, fun i hi => by omega, (by trivial)⟩
  case round =>
    obtain ⟨k, rfl, hk, hz, rfl⟩ := hrel
    by_cases hlt : k < n
    · obtain ⟨x, hx⟩ := some_of_lt hl.out hlt
      obtain ⟨b, off, rfl, -, hbl, e0⟩ := hs.int hx
      have hk0 : (0 : Int) ≤ (k : Int) := by omega
      have hk1 : (k : Int) < (n : Int) := by omega
      by_cases hx0 : x = 0
      · subst hx0
        have hz2 : allZ l (k + 1) := fun i hi => by
          by_cases h : i < k
          · exact hz i h
          · obtain rfl : i = k := by omega
            rw [List.getD_eq_getElem?_getD, hx]; rfl
        replace hx := Lib.hid hx
        replace hz := Lib.hid hz
        go_wp2_with fail
        go_roundw
        case rel => exact ⟨k + 1, by go_num, by omega, hz2, (by trivial)⟩
        case measure => simp [intOf]; omega
      · have hv := Lib.hid (firstE_hit hz hx hx0)
        have hx1 : (x != 0) = true := by rw [bne_iff_ne]; exact hx0
        replace hx := Lib.hid hx
        replace hz := Lib.hid hz
        go_wp2
        go_ret
        exact ⟨ret_int hv.out.symm, rfl⟩
    · obtain rfl : k = n := by omega
      have hv : Hid (firstE l = 0) := firstE_none (by rw [hl.out]; exact hz)
      replace hz := Lib.hid hz
      go_wp2
      go_ret
      exact ⟨ret_int hv.out.symm, rfl⟩
/-! What lies in the plane. -/
theorem rinside_any (f : Reg) (w : World) :
    Calls Tryz.prog 207 #[.agg (regA f)] w fun e w' => e = .returned (.tuple #[.agg (regA (insideR f).1), .int .i64 (insideR f).2]) ∧ Below w.heap.size w w' := by
  have hfx := fun W => fits_any 32768 f.x W (by omega) (by omega)
  have hfy := fun W => fits_any 32768 f.y W (by omega) (by omega)
  have hrg := fun W => region_any f W
  obtain ⟨w1, hw1⟩ : ∃ w1, w1 = (w.alloc (.cells #[.int .i64 f.x.lo, .int .i64 f.x.hi, .int .i64 f.y.lo, .int .i64 f.y.hi, .int .i64 f.s.lo, .int .i64 f.s.hi, .int .i64 f.d.lo, .int .i64 f.d.hi] 173)).alloc (.cells #[.int .i64 0, .int .i64 0, .int .i64 0, .int .i64 0, .int .i64 0, .int .i64 0, .int .i64 0, .int .i64 0] 68) := ⟨_, rfl⟩
  have k1 : Blk w1 w.heap.size 173 #[.int .i64 f.x.lo, .int .i64 f.x.hi, .int .i64 f.y.lo, .int .i64 f.y.hi, .int .i64 f.s.lo, .int .i64 f.s.hi, .int .i64 f.d.lo, .int .i64 f.d.hi] := by rw [hw1]; exact (Blk.new _ _ _).alloc _
  have k2 : Blk w1 (w.heap.size + 1) 68 #[.int .i64 0, .int .i64 0, .int .i64 0, .int .i64 0, .int .i64 0, .int .i64 0, .int .i64 0, .int .i64 0] := by rw [hw1]; exact Blk.newAt (by simp)
  have hb : Below w.heap.size w w1 := by rw [hw1]; exact ((Below.refl _ _).alloc (Nat.le_refl _) _).alloc (by simp) _
  cases hx : okBnd 32768 f.x
  · have hv : insideR f = (noReg, 7) := by simp [insideR, hx]
    rw [hv]
    simp only [hx] at hfx
    simp only [regA, noReg]
    clear hv hx hfy hrg
    go_enter Tryz.func207, Tryz.ntmps207
    go_wp2_with fail
    rw [← hw1]
    clear hw1
    refine (hfx _).mono ?_
    rintro e w2 ⟨rfl, hb1⟩
    replace k1 := k1.below hb1
    replace k2 := k2.below hb1
    replace hb := hb.trans (hb1.mono hb.size)
    clear hb1
    have kz := k2.set8 (.int .i64 0) (.int .i64 0) (.int .i64 0) (.int .i64 0) (.int .i64 0) (.int .i64 0) (.int .i64 0) (.int .i64 0)
    have bz := below_set8 (g := w.heap.size + 1) hb (by omega) (.int .i64 0) (.int .i64 0) (.int .i64 0) (.int .i64 0) (.int .i64 0) (.int .i64 0) (.int .i64 0) (.int .i64 0)
    obtain ⟨wz, hwz⟩ : ∃ x, x = set8 w2 (w.heap.size + 1) (.int .i64 0) (.int .i64 0) (.int .i64 0) (.int .i64 0) (.int .i64 0) (.int .i64 0) (.int .i64 0) (.int .i64 0) := ⟨_, rfl⟩
    rw [← hwz] at kz bz
    simp only [set8] at hwz
    obtain ⟨c2, f2, l2⟩ := k2.rules
    clear k2 hb
    go_wp2
    rw [← hwz]
    clear hwz c2 f2 l2
    obtain ⟨c2, f2, l2⟩ := kz.rules
    exact bodyPost_ret (v := .tuple #[.agg #[.int .i64 0, .int .i64 0, .int .i64 0, .int .i64 0, .int .i64 0, .int .i64 0, .int .i64 0, .int .i64 0], .int .i64 7]) (by simp [results, Tryz.results207, go_sem, c2]) rfl ⟨rfl, bz⟩
  · cases hy : okBnd 32768 f.y
    · have hv : insideR f = (noReg, 7) := by simp [insideR, hx, hy]
      rw [hv]
      simp only [hx] at hfx
      simp only [hy] at hfy
      simp only [regA, noReg]
      clear hv hx hy hrg
      go_enter Tryz.func207, Tryz.ntmps207
      go_wp2_with fail
      rw [← hw1]
      clear hw1
      refine (hfx _).mono ?_
      rintro e w2 ⟨rfl, hb1⟩
      replace k1 := k1.below hb1
      replace k2 := k2.below hb1
      replace hb := hb.trans (hb1.mono hb.size)
      clear hb1
      obtain ⟨c1, f1, l1⟩ := k1.rules
      go_wp2_with fail
      clear c1 f1 l1
      refine (hfy _).mono ?_
      rintro e w3 ⟨rfl, hb1⟩
      replace k1 := k1.below hb1
      replace k2 := k2.below hb1
      replace hb := hb.trans (hb1.mono hb.size)
      clear hb1
      have kz := k2.set8 (.int .i64 0) (.int .i64 0) (.int .i64 0) (.int .i64 0) (.int .i64 0) (.int .i64 0) (.int .i64 0) (.int .i64 0)
      have bz := below_set8 (g := w.heap.size + 1) hb (by omega) (.int .i64 0) (.int .i64 0) (.int .i64 0) (.int .i64 0) (.int .i64 0) (.int .i64 0) (.int .i64 0) (.int .i64 0)
      obtain ⟨wz, hwz⟩ : ∃ x, x = set8 w3 (w.heap.size + 1) (.int .i64 0) (.int .i64 0) (.int .i64 0) (.int .i64 0) (.int .i64 0) (.int .i64 0) (.int .i64 0) (.int .i64 0) := ⟨_, rfl⟩
      rw [← hwz] at kz bz
      simp only [set8] at hwz
      obtain ⟨c2, f2, l2⟩ := k2.rules
      clear k2 hb
      go_wp2
      rw [← hwz]
      clear hwz c2 f2 l2
      obtain ⟨c2, f2, l2⟩ := kz.rules
      exact bodyPost_ret (v := .tuple #[.agg #[.int .i64 0, .int .i64 0, .int .i64 0, .int .i64 0, .int .i64 0, .int .i64 0, .int .i64 0, .int .i64 0], .int .i64 7]) (by simp [results, Tryz.results207, go_sem, c2]) rfl ⟨rfl, bz⟩
    · have hv : insideR f = (f, 0) := by simp [insideR, hx, hy]
      rw [hv]
      simp only [hx] at hfx
      simp only [hy] at hfy
      simp only [regA]
      clear hv hx hy
      go_enter Tryz.func207, Tryz.ntmps207
      go_wp2_with fail
      rw [← hw1]
      clear hw1
      refine (hfx _).mono ?_
      rintro e w2 ⟨rfl, hb1⟩
      replace k1 := k1.below hb1
      replace k2 := k2.below hb1
      replace hb := hb.trans (hb1.mono hb.size)
      clear hb1
      obtain ⟨c1, f1, l1⟩ := k1.rules
      go_wp2_with fail
      clear c1 f1 l1
      refine (hfy _).mono ?_
      rintro e w3 ⟨rfl, hb1⟩
      replace k1 := k1.below hb1
      replace k2 := k2.below hb1
      replace hb := hb.trans (hb1.mono hb.size)
      clear hb1
      obtain ⟨c1, f1, l1⟩ := k1.rules
      go_wp2_with fail
      clear c1 f1 l1
      refine (hrg _).mono ?_
      rintro e w4 ⟨rfl, hb1⟩
      replace k1 := k1.below hb1
      replace k2 := k2.below hb1
      replace hb := hb.trans (hb1.mono hb.size)
      clear hb1
      have kz := k2.set8 (.int .i64 f.x.lo) (.int .i64 f.x.hi) (.int .i64 f.y.lo) (.int .i64 f.y.hi) (.int .i64 f.s.lo) (.int .i64 f.s.hi) (.int .i64 f.d.lo) (.int .i64 f.d.hi)
      have bz := below_set8 (g := w.heap.size + 1) hb (by omega) (.int .i64 f.x.lo) (.int .i64 f.x.hi) (.int .i64 f.y.lo) (.int .i64 f.y.hi) (.int .i64 f.s.lo) (.int .i64 f.s.hi) (.int .i64 f.d.lo) (.int .i64 f.d.hi)
      obtain ⟨wz, hwz⟩ : ∃ x, x = set8 w4 (w.heap.size + 1) (.int .i64 f.x.lo) (.int .i64 f.x.hi) (.int .i64 f.y.lo) (.int .i64 f.y.hi) (.int .i64 f.s.lo) (.int .i64 f.s.hi) (.int .i64 f.d.lo) (.int .i64 f.d.hi) := ⟨_, rfl⟩
      rw [← hwz] at kz bz
      simp only [set8] at hwz
      obtain ⟨c2, f2, l2⟩ := k2.rules
      clear k2 hb
      go_wp2
      rw [← hwz]
      clear hwz c2 f2 l2
      obtain ⟨c2, f2, l2⟩ := kz.rules
      exact bodyPost_ret (v := .tuple #[.agg #[.int .i64 f.x.lo, .int .i64 f.x.hi, .int .i64 f.y.lo, .int .i64 f.y.hi, .int .i64 f.s.lo, .int .i64 f.s.hi, .int .i64 f.d.lo, .int .i64 f.d.hi], .int .i64 0]) (by simp [results, Tryz.results207, go_sem, c2]) rfl ⟨rfl, bz⟩
theorem okPnt_mid {p : Pnt} (h : okPnt p = true) : -1000000 ≤ p.x ∧ p.x ≤ 1000000 ∧ -1000000 ≤ p.y ∧ p.y ≤ 1000000 := by
  have := of_decide_eq_true h; omega
theorem ofP_mid {p : Pnt} (h : okPnt p = true) : midR (ofP p) := by
  have := of_decide_eq_true h
  unfold midR midB ofP still
  dsimp only
  omega
theorem Move_any (r t : Reg) (p : Pnt) (w : World) (hr : okReg r = true) (hp : okPnt p = true) (ht : tightO r = some t) :
    Calls Tryz.prog 194 #[.agg (regA r), .agg #[.int .i64 p.x, .int .i64 p.y]] w fun e w' => e = .returned (.tuple #[.agg (regA (insideR (zipR plusB t (ofP p))).1), .int .i64 (insideR (zipR plusB t (ofP p))).2]) ∧ Below w.heap.size w w' := by
  have hchk := fun W => rCheck_any r W
  have hk : chkReg r = 0 := by simp [chkReg, hr]
  simp only [hk] at hchk
  have hbo := fun W => rbounds_any r W
  have hti := fun W => tight_any r W hr
  simp only [ht, doneR] at hti
  have hof := fun W => of_any p W (okPnt_mid hp)
  have hmt := okReg_mid (tight_ok hr ht)
  have hco := fun W => combined_any t (ofP p) plusB 208 W eg_plusB hmt (ofP_mid hp) op_plusB
  obtain ⟨f, hf⟩ : ∃ f, zipR plusB t (ofP p) = f := ⟨_, rfl⟩
  simp only [hf] at hco ⊢
  have hins := fun W => rinside_any f W
  obtain ⟨⟨R, er⟩, hR⟩ : ∃ R, insideR f = R := ⟨_, rfl⟩
  simp only [hR] at hins ⊢
  have hpx := of_decide_eq_true hp
  have hix := fun W => into_any 65536 p.x W (by omega) (by omega)
  have hiy := fun W => into_any 65536 p.y W (by omega) (by omega)
  simp only [into_in (m := 65536) (n := p.x) (by omega)] at hix
  simp only [into_in (m := 65536) (n := p.y) (by omega)] at hiy
  simp only [regA] at hchk hbo hti hco hins ⊢
  clear hk hf hR hmt hpx
  replace hr := Lib.hid hr
  replace hp := Lib.hid hp
  replace ht := Lib.hid ht
  obtain ⟨w1, hw1⟩ : ∃ w1, w1 = ((w.alloc (.cells #[.int .i64 r.x.lo, .int .i64 r.x.hi, .int .i64 r.y.lo, .int .i64 r.y.hi, .int .i64 r.s.lo, .int .i64 r.s.hi, .int .i64 r.d.lo, .int .i64 r.d.hi] 68)).alloc (.cells #[.int .i64 p.x, .int .i64 p.y] 48)).alloc (.cells #[.int .i64 0, .int .i64 0, .int .i64 0, .int .i64 0, .int .i64 0, .int .i64 0, .int .i64 0, .int .i64 0] 68) := ⟨_, rfl⟩
  have k1 : Blk w1 w.heap.size 68 #[.int .i64 r.x.lo, .int .i64 r.x.hi, .int .i64 r.y.lo, .int .i64 r.y.hi, .int .i64 r.s.lo, .int .i64 r.s.hi, .int .i64 r.d.lo, .int .i64 r.d.hi] := by rw [hw1]; exact ((Blk.new _ _ _).alloc _).alloc _
  have k2 : Blk w1 (w.heap.size + 1) 48 #[.int .i64 p.x, .int .i64 p.y] := by rw [hw1]; exact (Blk.newAt (by simp)).alloc _
  have k4 : Blk w1 (w.heap.size + 1 + 1) 68 #[.int .i64 0, .int .i64 0, .int .i64 0, .int .i64 0, .int .i64 0, .int .i64 0, .int .i64 0, .int .i64 0] := by rw [hw1]; exact Blk.newAt (by simp)
  have hb : Below w.heap.size w w1 := by rw [hw1]; exact (((Below.refl _ _).alloc (Nat.le_refl _) _).alloc (by simp) _).alloc (by simp; omega) _
  go_enter Tryz.func194, Tryz.ntmps194
  go_wp2_with fail
  rw [← hw1]
  clear hw1
  refine (hchk _).mono ?_
  rintro e W ⟨rfl, hbel⟩
  replace k1 := k1.below hbel
  replace k2 := k2.below hbel
  replace hb := hb.trans (hbel.mono hb.size)
  replace k4 := k4.below hbel
  clear hbel
  obtain ⟨c2, f2, l2⟩ := k2.rules
  go_wp2_with fail
  go_quiet ((first | (go_at_call 83; with_reducible exact Calls.quiet_of_same (flip_w (hix _))) | (go_at_call 83; with_reducible exact Calls.quiet_of_same (flip_w (hiy _)))))
  clear c2 f2 l2
  replace k1 := k1.drewN nq
  replace k2 := k2.drewN nq
  replace k4 := k4.drewN nq
  replace hb := below_drewN hb nq
  generalize W.drewN nq = W at *
  obtain ⟨c1, f1, l1⟩ := k1.rules
  go_wp2_with fail
  clear c1 f1 l1
  refine (hbo _).mono ?_
  rintro e W3 ⟨rfl, hbel⟩
  replace k1 := k1.below hbel
  replace k2 := k2.below hbel
  replace hb := hb.trans (hbel.mono hb.size)
  replace k4 := k4.below hbel
  clear hbel
  go_wp2_with fail
  refine (hti _).mono ?_
  rintro e W3 ⟨rfl, hbel⟩
  replace k1 := k1.below hbel
  replace k2 := k2.below hbel
  replace hb := hb.trans (hbel.mono hb.size)
  replace k4 := k4.below hbel
  clear hbel
  go_wp2_with fail
  have k7 := Blk.new W3 173 #[.int .i64 t.x.lo, .int .i64 t.x.hi, .int .i64 t.y.lo, .int .i64 t.y.hi, .int .i64 t.s.lo, .int .i64 t.s.hi, .int .i64 t.d.lo, .int .i64 t.d.hi]
  have hbel := (Below.refl W3.heap.size W3).alloc (Nat.le_refl _) (.cells #[.int .i64 t.x.lo, .int .i64 t.x.hi, .int .i64 t.y.lo, .int .i64 t.y.hi, .int .i64 t.s.lo, .int .i64 t.s.hi, .int .i64 t.d.lo, .int .i64 t.d.hi] 173)
  have hg7 : w.heap.size + 1 + 1 < W3.heap.size := k4.lt
  replace k1 := k1.below hbel
  replace k2 := k2.below hbel
  replace hb := hb.trans (hbel.mono hb.size)
  replace k4 := k4.below hbel
  clear hbel
  generalize W3.alloc (.cells #[.int .i64 t.x.lo, .int .i64 t.x.hi, .int .i64 t.y.lo, .int .i64 t.y.hi, .int .i64 t.s.lo, .int .i64 t.s.hi, .int .i64 t.d.lo, .int .i64 t.d.hi] 173) = W4 at *
  generalize W3.heap.size = g7 at *
  refine wp_held_np (fun w' : World => (∀ j, w'.cell? ⟨g7, j, none⟩ = #[Value.int .i64 t.x.lo, .int .i64 t.x.hi, .int .i64 t.y.lo, .int .i64 t.y.hi, .int .i64 t.s.lo, .int .i64 t.s.hi, .int .i64 t.d.lo, .int .i64 t.d.hi][j]?) ∧ (∀ j, w'.cell? ⟨w.heap.size + 1, j, none⟩ = #[Value.int .i64 p.x, .int .i64 p.y][j]?)) (by kernel_rfl) ?_
  replace k1 := k1.drew
  replace k2 := k2.drew
  replace k4 := k4.drew
  replace k7 := k7.drew
  replace hb := hb.drew
  generalize W4.drew = W at *
  have hS : (fun w' : World => (∀ j, w'.cell? ⟨g7, j, none⟩ = #[Value.int .i64 t.x.lo, .int .i64 t.x.hi, .int .i64 t.y.lo, .int .i64 t.y.hi, .int .i64 t.s.lo, .int .i64 t.s.hi, .int .i64 t.d.lo, .int .i64 t.d.hi][j]?) ∧ (∀ j, w'.cell? ⟨w.heap.size + 1, j, none⟩ = #[Value.int .i64 p.x, .int .i64 p.y][j]?)) W := ⟨k7.cell, k2.cell⟩
  refine hTk 0 40 ?_
  refine hTk 1 41 ?_
  refine hOne 2 fun K hK => ?_
  go_simp
  refine (hof _).mono ?_
  rintro e W1 ⟨rfl, hbel⟩
  clear hS
  replace k1 := k1.below hbel
  replace k2 := k2.below hbel
  replace hb := hb.trans (hbel.mono hb.size)
  replace k7 := k7.below hbel
  replace k4 := k4.below hbel
  clear hbel
  have hS : (fun w' : World => (∀ j, w'.cell? ⟨g7, j, none⟩ = #[Value.int .i64 t.x.lo, .int .i64 t.x.hi, .int .i64 t.y.lo, .int .i64 t.y.hi, .int .i64 t.s.lo, .int .i64 t.s.hi, .int .i64 t.d.lo, .int .i64 t.d.hi][j]?) ∧ (∀ j, w'.cell? ⟨w.heap.size + 1, j, none⟩ = #[Value.int .i64 p.x, .int .i64 p.y][j]?)) W1 := ⟨k7.cell, k2.cell⟩
  refine hK _ _ hS ?_
  clear hK K
  try simp only [Act.put, sA, sZ, sS]
  refine hOne 3 fun K hK => ?_
  go_simp
  refine (hco _).mono ?_
  rintro e W1 ⟨rfl, hbel⟩
  clear hS
  replace k1 := k1.below hbel
  replace k2 := k2.below hbel
  replace hb := hb.trans (hbel.mono hb.size)
  replace k7 := k7.below hbel
  replace k4 := k4.below hbel
  clear hbel
  have hS : (fun w' : World => (∀ j, w'.cell? ⟨g7, j, none⟩ = #[Value.int .i64 t.x.lo, .int .i64 t.x.hi, .int .i64 t.y.lo, .int .i64 t.y.hi, .int .i64 t.s.lo, .int .i64 t.s.hi, .int .i64 t.d.lo, .int .i64 t.d.hi][j]?) ∧ (∀ j, w'.cell? ⟨w.heap.size + 1, j, none⟩ = #[Value.int .i64 p.x, .int .i64 p.y][j]?)) W1 := ⟨k7.cell, k2.cell⟩
  refine hK _ _ hS ?_
  clear hK K
  try simp only [Act.put, sA, sZ, sS]
  refine hOne 4 fun K hK => ?_
  go_simp
  refine (hins _).mono ?_
  rintro e W1 ⟨rfl, hbel⟩
  clear hS
  replace k1 := k1.below hbel
  replace k2 := k2.below hbel
  replace hb := hb.trans (hbel.mono hb.size)
  replace k7 := k7.below hbel
  replace k4 := k4.below hbel
  clear hbel
  have hS : (fun w' : World => (∀ j, w'.cell? ⟨g7, j, none⟩ = #[Value.int .i64 t.x.lo, .int .i64 t.x.hi, .int .i64 t.y.lo, .int .i64 t.y.hi, .int .i64 t.s.lo, .int .i64 t.s.hi, .int .i64 t.d.lo, .int .i64 t.d.hi][j]?) ∧ (∀ j, w'.cell? ⟨w.heap.size + 1, j, none⟩ = #[Value.int .i64 p.x, .int .i64 p.y][j]?)) W1 := ⟨k7.cell, k2.cell⟩
  refine hK _ _ hS ?_
  clear hK K
  try simp only [Act.put, sA, sZ, sS]
  refine hTk 5 45 ?_
  refine hTk 6 46 ?_
  have kz := k4.set8 (.int .i64 R.x.lo) (.int .i64 R.x.hi) (.int .i64 R.y.lo) (.int .i64 R.y.hi) (.int .i64 R.s.lo) (.int .i64 R.s.hi) (.int .i64 R.d.lo) (.int .i64 R.d.hi)
  have bz := below_set8 (g := w.heap.size + 1 + 1) hb (by omega) (.int .i64 R.x.lo) (.int .i64 R.x.hi) (.int .i64 R.y.lo) (.int .i64 R.y.hi) (.int .i64 R.s.lo) (.int .i64 R.s.hi) (.int .i64 R.d.lo) (.int .i64 R.d.hi)
  have k7z := far_set8 k7 (show g7 ≠ w.heap.size + 1 + 1 by omega) (.int .i64 R.x.lo) (.int .i64 R.x.hi) (.int .i64 R.y.lo) (.int .i64 R.y.hi) (.int .i64 R.s.lo) (.int .i64 R.s.hi) (.int .i64 R.d.lo) (.int .i64 R.d.hi)
  have k2z := far_set8 k2 (show w.heap.size + 1 ≠ w.heap.size + 1 + 1 by omega) (.int .i64 R.x.lo) (.int .i64 R.x.hi) (.int .i64 R.y.lo) (.int .i64 R.y.hi) (.int .i64 R.s.lo) (.int .i64 R.s.hi) (.int .i64 R.d.lo) (.int .i64 R.d.hi)
  obtain ⟨wz, hwz⟩ : ∃ x, x = set8 W1 (w.heap.size + 1 + 1) (.int .i64 R.x.lo) (.int .i64 R.x.hi) (.int .i64 R.y.lo) (.int .i64 R.y.hi) (.int .i64 R.s.lo) (.int .i64 R.s.hi) (.int .i64 R.d.lo) (.int .i64 R.d.hi) := ⟨_, rfl⟩
  rw [← hwz] at kz bz k7z k2z
  simp only [set8] at hwz
  obtain ⟨c4, f4, l4⟩ := k4.rules
  refine hOne 7 fun K hK => ?_
  go_simp
  rw [← hwz]
  clear hwz c4 f4 l4 hS k4 hb
  have hS : (fun w' : World => (∀ j, w'.cell? ⟨g7, j, none⟩ = #[Value.int .i64 t.x.lo, .int .i64 t.x.hi, .int .i64 t.y.lo, .int .i64 t.y.hi, .int .i64 t.s.lo, .int .i64 t.s.hi, .int .i64 t.d.lo, .int .i64 t.d.hi][j]?) ∧ (∀ j, w'.cell? ⟨w.heap.size + 1, j, none⟩ = #[Value.int .i64 p.x, .int .i64 p.y][j]?)) wz := ⟨k7z.cell, k2z.cell⟩
  refine hK _ _ hS ?_
  clear hK K
  try simp only [Act.put, sA, sZ, sS]
  refine hTk 8 5 ?_
  refine wpAnyH_done (by kernel_rfl) (noPanic_normal ?_) _
  clear hS
  go_wp2
  obtain ⟨c4, f4, l4⟩ := kz.rules
  exact bodyPost_ret (v := .tuple #[.agg #[.int .i64 R.x.lo, .int .i64 R.x.hi, .int .i64 R.y.lo, .int .i64 R.y.hi, .int .i64 R.s.lo, .int .i64 R.s.hi, .int .i64 R.d.lo, .int .i64 R.d.hi], .int .i64 er]) (by simp [results, Tryz.results194, go_sem, c4]) rfl ⟨rfl, bz⟩
end Go.Proofs.YtcmbmmpihiekhaaGreat
