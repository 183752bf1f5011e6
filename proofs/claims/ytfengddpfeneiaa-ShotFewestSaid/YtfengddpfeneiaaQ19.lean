/-
  What a proof proves: no list of what is to be repeated is shorter than the bound of any proof; the claims along the edges by which the fewest came have that bound. Nothing of the program stands here.
  Lists of what is to be repeated: what becomes of the results, and how many there are. Nothing of the program stands here.
  Lists of what is to be repeated that are offered: which are such, what becomes of the results, and that none is shorter than the fewest. Nothing of the program stands here.
-/
import Derived.Test.YtfengddpfeneiaaQ9
namespace Go.Proofs.Ytfengddpfeneiaa
open Go.RowKit
set_option linter.unusedSimpArgs false
set_option linter.unusedVariables false

def sumTo (f : Nat → Int) : Nat → Int
  | 0 => 0
  | k + 1 => sumTo f k + f k
theorem sumTo_le {f g : Nat → Int} : ∀ n, (∀ i < n, f i ≤ g i) → sumTo f n ≤ sumTo g n
  | 0, _ => Int.le_refl _
  | n + 1, h => by
    have h1 := sumTo_le (f := f) (g := g) n (fun i hi => h i (by omega))
    have h2 := h n (by omega)
    rw [sumTo, sumTo]; omega
theorem sumTo_add (f g : Nat → Int) : ∀ n, sumTo (fun i => f i + g i) n = sumTo f n + sumTo g n
  | 0 => rfl
  | n + 1 => by rw [sumTo, sumTo, sumTo, sumTo_add f g n]; omega
theorem sumTo_one (i : Nat) : ∀ n, sumTo (fun j => if j = i then 1 else 0) n = if i < n then 1 else 0
  | 0 => rfl
  | n + 1 => by
    rw [sumTo, sumTo_one i n]
    by_cases h : n = i
    · subst h; rw [if_neg (by omega), if_pos rfl, if_pos (by omega)]; rfl
    · rw [if_neg h]
      by_cases h2 : i < n
      · rw [if_pos h2, if_pos (by omega)]; rfl
      · rw [if_neg h2, if_neg (by omega)]; rfl

/-! no list is shorter than the bound of a proof -/
/-- Results of which some bad ones have been made good. -/
structure KeptOf (l m : List Int) : Prop where
  len : m.length = l.length
  ok : ∀ i < l.length, m.getD i 0 = l.getD i 0 ∨ (l.getD i 0 = 1 ∧ m.getD i 0 = 0)
def xI (l m : List Int) (i : Nat) : Int := (if l.getD i 0 = 1 then 1 else 0) - (if m.getD i 0 = 1 then 1 else 0)
theorem xI_01 {l m : List Int} (h : KeptOf l m) {i : Nat} (hi : i < l.length) : (xI l m i = 0) ∨ (xI l m i = 1 ∧ l.getD i 0 = 1) := by
  unfold xI
  rcases h.ok i hi with h1 | ⟨h1, h2⟩
  · rw [h1]; exact .inl (Int.sub_self _)
  · rw [h1, h2]; exact .inr ⟨rfl, rfl⟩
theorem xI_sum {l m : List Int} (h : KeptOf l m) {f : Nat} : ∀ t, f ≤ t → t ≤ l.length → sumTo (fun i => xI l m i * (if f ≤ i ∧ i < t then 1 else 0)) t = ((pN l t : Int) - pN l f) - ((pN m t : Int) - pN m f) := by
  have key : ∀ t n, n ≤ t → t ≤ l.length → f ≤ t → sumTo (fun i => xI l m i * (if f ≤ i ∧ i < t then 1 else 0)) n = if f ≤ n then ((pN l n : Int) - pN l f) - ((pN m n : Int) - pN m f) else 0 := by
    intro t n
    induction n with
    | zero =>
      intro _ _ _
      by_cases h0 : f ≤ 0
      · obtain rfl : f = 0 := by omega
        rw [if_pos h0, pN_zero, pN_zero]; rfl
      · rw [if_neg h0]; rfl
    | succ n ih =>
      intro hn ht hf
      rw [sumTo, ih (by omega) ht hf]
      have e1 := pN_succ (l := l) (i := n) (by omega)
      have e2 := pN_succ (l := m) (i := n) (by have := h.len; omega)
      have hx : xI l m n = (if l.getD n 0 = 1 then 1 else 0) - (if m.getD n 0 = 1 then 1 else 0) := rfl
      by_cases h1 : f ≤ n
      · rw [if_pos h1, if_pos ⟨h1, by omega⟩, if_pos (by omega), Int.mul_one, hx, e1, e2]
        split <;> split <;> simp <;> omega
      · rw [if_neg h1, if_neg (by omega), Int.mul_zero]
        by_cases h2 : f = n + 1
        · rw [if_pos (by omega), h2]; omega
        · rw [if_neg (by omega)]; rfl
  intro t h1 h2
  rw [key t t (Nat.le_refl _) h2 h1, if_pos h1]
theorem sumTo_far {g : Nat → Int} {t : Nat} : ∀ n, t ≤ n → (∀ i, t ≤ i → i < n → g i = 0) → sumTo g n = sumTo g t
  | n, h, h0 => by
    induction n with
    | zero => obtain rfl : t = 0 := by omega
              rfl
    | succ n ih =>
      by_cases e : t = n + 1
      · rw [e]
      · rw [sumTo, ih (by omega) (fun i h1 h2 => h0 i h1 (by omega)), h0 n (by omega) (by omega)]; omega
/-- What breaks no rule has in no span more bad ones than it may. -/
theorem span_keeps {r : Rul} (hr : okRul r = true) {m l : List Int} (hm : ∀ i < m.length, brkS r m i = 0) (hl : m.length = l.length) {c : Clm} {s : Spn} (hs : spanS r l c = some s) : badS m s.fr s.to ≤ s.most := by
  have hb := span_bd hr hs
  have e := badS_p m (f := s.fr.toNat) (t := s.to.toNat) rfl rfl (by omega)
  rw [e]
  have hr' := hr
  unfold okRul at hr'
  have hr' := of_decide_eq_true hr'
  have hok : ∀ t, t < l.length → ((pN m (t + 1) : Int) - pN m (t + 1 - r.row.toNat) ≠ r.row ∧ (pN m (t + 1) : Int) - pN m (t + 1 - r.win.toNat) < r.many ∧ (pN m (t + 1) : Int) < r.total) :=
    fun t ht => (brkS_zero hr _ t).1 (hm t (by omega))
  have z := pN_zero m
  unfold spanS at hs
  split at hs
  · split at hs
    · rename_i h1 h2
      cases hs
      dsimp only at *
      have e : (c.fr + r.row).toNat = c.fr.toNat + r.row.toNat := by omega
      rw [e]
      have h3 := (hok (c.fr.toNat + r.row.toNat - 1) (by omega)).1
      rw [show c.fr.toNat + r.row.toNat - 1 + 1 = c.fr.toNat + r.row.toNat from by omega, show c.fr.toNat + r.row.toNat - r.row.toNat = c.fr.toNat from by omega] at h3
      have h4 := (pN_mono m (i := c.fr.toNat) (j := c.fr.toNat + r.row.toNat) (by omega)).2
      omega
    · cases hs
  · split at hs
    · split at hs
      · rename_i h1 h2 h3
        cases hs
        dsimp only at *
        by_cases hz : l.length = 0
        · have e1 : c.fr.toNat = 0 := by omega
          have e2 : (c.fr + min r.win (l.length : Int)).toNat = 0 := by omega
          rw [e1, e2]; omega
        · have e : (c.fr + min r.win (l.length : Int)).toNat = c.fr.toNat + min r.win.toNat l.length := by omega
          rw [e]
          have h4 := (hok (c.fr.toNat + min r.win.toNat l.length - 1) (by omega)).2.1
          rw [show c.fr.toNat + min r.win.toNat l.length - 1 + 1 = c.fr.toNat + min r.win.toNat l.length from by omega] at h4
          by_cases h5 : r.win.toNat ≤ l.length
          · rw [show c.fr.toNat + min r.win.toNat l.length - r.win.toNat = c.fr.toNat from by omega] at h4
            omega
          · rw [show c.fr.toNat + min r.win.toNat l.length - r.win.toNat = 0 from by omega] at h4
            rw [show c.fr.toNat = 0 from by omega] at *
            omega
      · cases hs
    · split at hs
      · split at hs
        · rename_i h1 h2 h3 h4
          cases hs
          simp only [Int.toNat_natCast, show (0 : Int).toNat = 0 from rfl]
          by_cases hz : l.length = 0
          · rw [hz]; omega
          · have h5 := (hok (l.length - 1) (by omega)).2.2
            rw [show l.length - 1 + 1 = l.length from by omega] at h5
            omega
        · cases hs
      · cases hs
theorem claims_le {r : Rul} (hr : okRul r = true) {l m : List Int} (hk : KeptOf l m) (hm : ∀ i < m.length, brkS r m i = 0) : ∀ (p : List Clm) (S : Int), claimTo r l p = some S → S ≤ sumTo (fun i => xI l m i * coverS r l i p) l.length
  | [], S, h => by
    simp only [claimTo, Option.some.injEq] at h
    subst h
    have : ∀ n, sumTo (fun i => xI l m i * coverS r l i []) n = 0 := by
      intro n
      induction n with
      | zero => rfl
      | succ n ih => rw [sumTo, ih]; simp [coverS]
    rw [this]; exact Int.le_refl _
  | c :: p, S, h => by
    rw [claimTo] at h
    cases hs : spanS r l c with
    | none => rw [hs] at h; cases h
    | some s =>
      cases hc : claimTo r l p with
      | none => rw [hs, hc] at h; cases h
      | some S' =>
        rw [hs, hc] at h
        simp only [Option.some.injEq] at h
        have ih := claims_le hr hk hm p S' hc
        have hb := span_bd hr hs
        have hkeep := span_keeps hr hm hk.len hs
        have e1 := badS_p l (f := s.fr.toNat) (t := s.to.toNat) rfl rfl (by omega)
        have e2 := badS_p m (f := s.fr.toNat) (t := s.to.toNat) rfl rfl (by omega)
        have hx := xI_sum hk (f := s.fr.toNat) s.to.toNat (by omega) (by omega)
        have hfar : sumTo (fun i => xI l m i * (if s.fr.toNat ≤ i ∧ i < s.to.toNat then 1 else 0)) l.length = sumTo (fun i => xI l m i * (if s.fr.toNat ≤ i ∧ i < s.to.toNat then 1 else 0)) s.to.toNat :=
          sumTo_far _ (by omega) (fun i h1 _ => by rw [if_neg (by omega), Int.mul_zero])
        have hsum : sumTo (fun i => xI l m i * coverS r l i (c :: p)) l.length = sumTo (fun i => xI l m i * coverS r l i p) l.length + sumTo (fun i => xI l m i * (if s.fr.toNat ≤ i ∧ i < s.to.toNat then 1 else 0)) l.length := by
          rw [← sumTo_add]
          congr 1
          funext i
          rw [coverS, hs, Int.mul_add]
          dsimp only
          congr 2
          by_cases h1 : s.fr ≤ (i : Int) ∧ (i : Int) < s.to
          · rw [if_pos h1, if_pos (by omega)]
          · rw [if_neg h1, if_neg (by omega)]
        rw [hsum, hfar, hx]
        omega
theorem over_sum (r : Rul) (l : List Int) (p : List Clm) : ∀ k, overTo r l p k = sumTo (fun i => if l.getD i 0 = 1 then max 0 (coverS r l i p - 1) else 0) k
  | 0 => rfl
  | k + 1 => by rw [overTo, sumTo, over_sum r l p k]
theorem xI_tot {l m : List Int} (h : KeptOf l m) : ∀ n, n ≤ l.length → sumTo (xI l m) n = (pN l n : Int) - pN m n
  | 0, _ => by rw [pN_zero, pN_zero]; rfl
  | n + 1, hn => by
    rw [sumTo, xI_tot h n (by omega), pN_succ (l := l) (i := n) (by omega), pN_succ (l := m) (i := n) (by have := h.len; omega)]
    unfold xI
    split <;> split <;> simp <;> omega
/-- No list of what is to be repeated is shorter than what a proof sums up to. -/
theorem dual_weak {r : Rul} (hr : okRul r = true) {l m : List Int} (hk : KeptOf l m) (hm : ∀ i < m.length, brkS r m i = 0) {p : List Clm} {S : Int} (h : claimTo r l p = some S) : S - overTo r l p l.length ≤ (cnt l : Int) - cnt m := by
  have h1 := claims_le hr hk hm p S h
  have h2 : sumTo (fun i => xI l m i * coverS r l i p) l.length ≤ sumTo (fun i => xI l m i + (if l.getD i 0 = 1 then max 0 (coverS r l i p - 1) else 0)) l.length := by
    refine sumTo_le _ fun i hi => ?_
    have hc := coverS_bd r l i p
    rcases xI_01 hk hi with h3 | ⟨h3, h4⟩
    · rw [h3, Int.zero_mul]; split <;> omega
    · rw [h3, Int.one_mul, if_pos h4]; omega
  rw [sumTo_add, ← over_sum, xI_tot hk _ (Nat.le_refl _), pN_len l (Nat.le_refl _), pN_len m (by have := hk.len; omega)] at h2
  omega
theorem keep_kept {r : Rul} (l : List Int) (hl : ∀ x ∈ l, x = 0 ∨ x = 1) : KeptOf l (keepS r l) := by
  refine ⟨by unfold keepS; rw [keepTo_len], fun i hi => ?_⟩
  rw [keepS_get r l hi]
  split
  · exact .inl rfl
  · have hx : l.getD i 0 = 0 ∨ l.getD i 0 = 1 := hl _ (by rw [List.getD_eq_getElem?_getD, List.getElem?_eq_getElem hi]; exact List.getElem_mem hi)
    rcases hx with h | h
    · exact .inl h.symm
    · exact .inr ⟨h, rfl⟩
theorem keepS_brk {r : Rul} (hr : okRul r = true) (l : List Int) : ∀ i < (keepS r l).length, brkS r (keepS r l) i = 0 := by
  intro i hi
  unfold keepS at *
  rw [keepTo_len] at hi
  exact keep_ok hr l l.length i hi
theorem gS_cnt (r : Rul) (l : List Int) : gS r l (cnt l) = (cnt l : Int) - cnt (keepS r l) := by
  have := gS_at r l (i := l.length) (Nat.le_refl _)
  rw [pN_len l (Nat.le_refl _)] at this
  rw [this]
  unfold hS
  rw [pN_len l (Nat.le_refl _), pN_len (keepS r l) (by unfold keepS; rw [keepTo_len]; exact Nat.le_refl _)]

/-! the claims along the edges by which the fewest came -/
def clmOf (x : Edg) : List Clm := if x.clm = ⟨0, 0⟩ then [] else [x.clm]
/-- The numbers that are met, from one on back to 0, in so many steps. -/
def visits (d : List Edg) : Nat → Nat → List Nat
  | 0, _ => []
  | _ + 1, 0 => []
  | n + 1, k + 1 => (k + 1) :: visits d n (d.getD (k + 1) edg0).fr
def pathTo (d : List Edg) (n k : Nat) : List Clm := (visits d n k).flatMap fun v => clmOf (d.getD v edg0)
theorem pathTo_zero (d : List Edg) (n : Nat) : pathTo d n 0 = [] := by cases n <;> rfl
theorem pathTo_succ (d : List Edg) (n k : Nat) (h : 0 < k) : pathTo d (n + 1) k = clmOf (d.getD k edg0) ++ pathTo d n (d.getD k edg0).fr := by
  cases k with
  | zero => omega
  | succ k => rfl
def RankOk (l : List Int) (d : List Edg) (rk : Nat → Nat) : Prop := ∀ k ≤ cnt l, 0 < k → rk (d.getD k edg0).fr < rk k
/-- The proof that is returned. -/
def IsProof (r : Rul) (l : List Int) (p : List Clm) : Prop := ∃ d rk, ChainOk r l d ∧ RankOk l d rk ∧ p = pathTo d (rk (cnt l) + 1) (cnt l)
inductive EdgIs (r : Rul) (l : List Int) (x : Edg) : Prop
  | fwd : x.tt = x.fr + 1 → x.least = 0 → x.clm = ⟨0, 0⟩ → EdgIs r l x
  | back : x.fr = x.tt + 1 → x.least = -1 → x.clm = ⟨0, 0⟩ → EdgIs r l x
  | clm (s : Spn) : x.clm ≠ ⟨0, 0⟩ → spanS r l x.clm = some s → x.fr = pN l s.fr.toNat → x.tt = pN l s.to.toNat → x.least = badS l s.fr s.to - s.most → EdgIs r l x
theorem edgIs_rule {r : Rul} (hr : okRul r = true) {l : List Int} {rule : Int} (h0 : rule ≠ 0) {x : Edg} (h : x ∈ ruleE r l rule (l.length + 1)) : EdgIs r l x := by
  obtain ⟨fr, -, s, hs, hm, rfl⟩ := mem_ruleE h
  have hb := span_bd hr hs
  refine .clm s (by intro e; cases e; exact h0 rfl) hs rfl rfl ?_
  rw [badS_p l (f := s.fr.toNat) (t := s.to.toNat) rfl rfl (by omega)]
theorem edgIs_mem {r : Rul} (hr : okRul r = true) {l : List Int} {x : Edg} (h : x ∈ edgesS r l) : EdgIs r l x := by
  unfold edgesS at h
  simp only [edgesTo, List.mem_append] at h
  rcases h with ((h | h) | h) | h
  · obtain ⟨i, hi, h⟩ := mem_stepsE h
    rcases h with rfl | rfl
    · exact .fwd rfl rfl rfl
    · exact .back rfl rfl rfl
  · exact edgIs_rule hr (by decide) h
  · exact edgIs_rule hr (by decide) h
  · exact edgIs_rule hr (by decide) h
theorem path_sums {r : Rul} (hr : okRul r = true) {l : List Int} {d : List Edg} {rk : Nat → Nat} (hc : ChainOk r l d) (hk : RankOk l d rk) : ∀ n k, k ≤ cnt l → rk k < n →
    ∃ (S : Int) (B : Nat → Int), claimTo r l (pathTo d n k) = some S ∧ (∀ j, 0 ≤ B j) ∧ S - sumTo B (cnt l) = gS r l k ∧ (∀ i < l.length, l.getD i 0 = 1 → coverS r l i (pathTo d n k) ≤ B (pN l i) + (if pN l i < k then 1 else 0))
  | 0, k, _, h => absurd h (by omega)
  | n + 1, 0, _, _ => by
    rw [pathTo_zero]
    have hz : ∀ n, sumTo (fun _ => 0) n = 0 := by
      intro n
      induction n with
      | zero => rfl
      | succ n ih => rw [sumTo, ih]; rfl
    exact ⟨0, fun _ => 0, rfl, fun _ => Int.le_refl _, by rw [hz, (gS_feas hr l).zero]; rfl, fun i _ _ => by simp [coverS]⟩
  | n + 1, k + 1, h1, h2 => by
    obtain ⟨hmem, htt, hg⟩ := hc.by_ (k + 1) h1 (by omega)
    have hrk := hk (k + 1) h1 (by omega)
    have hok := edgOk_mem hr hmem
    rw [pathTo_succ d n (k + 1) (by omega)]
    generalize d.getD (k + 1) edg0 = x at *
    obtain ⟨S, B, e1, e2, e3, e4⟩ := path_sums hr hc hk n x.fr hok.fr (by omega)
    rcases edgIs_mem hr hmem with ⟨f1, f2, f3⟩ | ⟨f1, f2, f3⟩ | ⟨s, f1, f2, f3, f4, f5⟩
    · refine ⟨S, B, by unfold clmOf; rw [if_pos f3]; exact e1, e2, by omega, fun i hi hx => ?_⟩
      have h5 := e4 i hi hx
      unfold clmOf
      rw [if_pos f3, List.nil_append]
      by_cases h6 : pN l i < x.fr
      · rw [if_pos h6] at h5; rw [if_pos (by omega)]; exact h5
      · rw [if_neg h6] at h5; split <;> omega
    · refine ⟨S, fun j => B j + (if j = k + 1 then 1 else 0), by unfold clmOf; rw [if_pos f3]; exact e1, fun j => by have := e2 j; dsimp only; split <;> omega, ?_, fun i hi hx => ?_⟩
      · rw [sumTo_add, sumTo_one, if_pos (by have := hok.fr; omega)]; omega
      · have h5 := e4 i hi hx
        unfold clmOf
        rw [if_pos f3, List.nil_append]
        dsimp only
        by_cases h6 : pN l i < k + 1
        · rw [if_pos h6, if_neg (by omega)]; rw [if_pos (by omega)] at h5; omega
        · rw [if_neg h6]
          by_cases h7 : pN l i = k + 1
          · rw [if_pos h7]; rw [if_pos (by omega)] at h5; omega
          · rw [if_neg h7]; rw [if_neg (by omega)] at h5; omega
    · have hb := span_bd hr f2
      have hm := (pN_mono l (i := s.fr.toNat) (j := s.to.toNat) (by omega)).1
      refine ⟨S + (badS l s.fr s.to - s.most), B, ?_, e2, by omega, fun i hi hx => ?_⟩
      · unfold clmOf
        rw [if_neg f1, List.singleton_append, claimTo, f2, e1]
      · have h5 := e4 i hi hx
        unfold clmOf
        rw [if_neg f1, List.singleton_append, coverS, f2]
        dsimp only
        by_cases h6 : s.fr ≤ (i : Int) ∧ (i : Int) < s.to
        · rw [if_pos h6]
          have g1 := (pN_mono l (i := s.fr.toNat) (j := i) (by omega)).1
          have g2 := (pN_mono l (i := i + 1) (j := s.to.toNat) (by omega)).1
          have g3 := pN_succ hi
          rw [if_pos hx] at g3
          rw [if_neg (by omega)] at h5
          rw [if_pos (by omega)]
          omega
        · rw [if_neg h6]
          by_cases h7 : pN l i < x.fr
          · rw [if_pos h7] at h5; rw [if_pos (by omega)]; omega
          · rw [if_neg h7] at h5; split <;> omega
theorem visits_in {r : Rul} (hr : okRul r = true) {l : List Int} {d : List Edg} {rk : Nat → Nat} (hc : ChainOk r l d) (hk : RankOk l d rk) : ∀ n k, k ≤ cnt l → ∀ v ∈ visits d n k, v ≤ cnt l ∧ rk v ≤ rk k
  | 0, _, _, v, h => by simp [visits] at h
  | n + 1, 0, _, v, h => by simp [visits] at h
  | n + 1, k + 1, h1, v, h => by
    rw [visits] at h
    rcases List.mem_cons.1 h with rfl | h
    · exact ⟨h1, Nat.le_refl _⟩
    · have hrk := hk (k + 1) h1 (by omega)
      have hfr := (edgOk_mem hr (hc.by_ (k + 1) h1 (by omega)).1).fr
      have := visits_in hr hc hk n _ hfr v h
      omega
theorem visits_nodup {r : Rul} (hr : okRul r = true) {l : List Int} {d : List Edg} {rk : Nat → Nat} (hc : ChainOk r l d) (hk : RankOk l d rk) : ∀ n k, k ≤ cnt l → (visits d n k).Nodup
  | 0, _, _ => List.nodup_nil
  | n + 1, 0, _ => List.nodup_nil
  | n + 1, k + 1, h1 => by
    rw [visits, List.nodup_cons]
    have hrk := hk (k + 1) h1 (by omega)
    have hfr := (edgOk_mem hr (hc.by_ (k + 1) h1 (by omega)).1).fr
    refine ⟨fun h => ?_, visits_nodup hr hc hk n _ hfr⟩
    have := visits_in hr hc hk n _ hfr _ h
    omega
theorem nodup_len : ∀ (c : Nat) (L : List Nat), L.Nodup → (∀ v ∈ L, v < c) → L.length ≤ c
  | 0, L, _, h => by
    cases L with
    | nil => exact Nat.le_refl _
    | cons x L => have := h x List.mem_cons_self; omega
  | c + 1, L, h1, h2 => by
    have h3 := nodup_len c (L.erase c) (h1.erase c) (fun v hv => by
      have h4 := (h1.mem_erase_iff).1 hv
      have := h2 v h4.2
      have := h4.1
      omega)
    have h5 := List.length_erase (a := c) (l := L)
    split at h5 <;> omega
theorem flat_one_le {α β : Type} (f : α → List β) (hf : ∀ a, (f a).length ≤ 1) : ∀ L : List α, (L.flatMap f).length ≤ L.length
  | [] => by simp
  | a :: L => by rw [List.flatMap_cons, List.length_append, List.length_cons]; have := hf a; have := flat_one_le f hf L; omega
theorem IsProof.len {r : Rul} (hr : okRul r = true) {l : List Int} {p : List Clm} (h : IsProof r l p) : p.length ≤ l.length + 1 := by
  obtain ⟨d, rk, hc, hk, rfl⟩ := h
  have h1 := nodup_len (cnt l + 1) _ (visits_nodup hr hc hk (rk (cnt l) + 1) _ (Nat.le_refl _)) (fun v hv => by have := (visits_in hr hc hk _ _ (Nat.le_refl _) v hv).1; omega)
  have h2 := flat_one_le (fun v => clmOf (d.getD v edg0)) (fun v => by unfold clmOf; split <;> simp) (visits d (rk (cnt l) + 1) (cnt l))
  have h3 := cnt_le l
  unfold pathTo
  omega
/-- The bound of the proof is the number of the fewest. -/
theorem IsProof.bound {r : Rul} (hr : okRul r = true) {l : List Int} (hl : ∀ x ∈ l, x = 0 ∨ x = 1) {p : List Clm} (h : IsProof r l p) : ∃ S, claimTo r l p = some S ∧ S - overTo r l p l.length = (cnt l : Int) - cnt (keepS r l) := by
  obtain ⟨d, rk, hc, hk, rfl⟩ := h
  obtain ⟨S, B, e1, e2, e3, e4⟩ := path_sums hr hc hk (rk (cnt l) + 1) (cnt l) (Nat.le_refl _) (Nat.lt_succ_self _)
  refine ⟨S, e1, ?_⟩
  have h1 := dual_weak hr (keep_kept (r := r) l hl) (keepS_brk hr l) e1
  have h2 : ∀ n, n ≤ l.length → overTo r l (pathTo d (rk (cnt l) + 1) (cnt l)) n ≤ sumTo B (pN l n) := by
    intro n
    induction n with
    | zero => intro _; rw [pN_zero]; exact Int.le_refl _
    | succ n ih =>
      intro hn
      rw [overTo]
      have h3 := ih (by omega)
      by_cases hx : l.getD n 0 = 1
      · have h4 := e4 n (by omega) hx
        have h5 := e2 (pN l n)
        rw [if_pos hx, pN_succ (by omega), if_pos hx, sumTo]
        split at h4 <;> omega
      · rw [if_neg hx, pN_succ (by omega), if_neg hx]
        simp only [Nat.add_zero]
        omega
  have h3 := h2 l.length (Nat.le_refl _)
  rw [pN_len l (Nat.le_refl _)] at h3
  rw [gS_cnt] at e3
  omega
end Go.Proofs.Ytfengddpfeneiaa
namespace Go.Proofs.Ytfengddpfeneiaa
open Go.RowKit
set_option linter.unusedSimpArgs false
set_option linter.unusedVariables false

def zeroAt (l x : List Int) : List Int := x.foldl (fun g i => g.set i.toNat 0) l
theorem zeroAt_len (x : List Int) : ∀ l, (zeroAt l x).length = l.length := by
  induction x with
  | nil => intro l; rfl
  | cons v x ih => intro l; show (zeroAt (l.set v.toNat 0) x).length = _; rw [ih, List.length_set]
theorem zeroAt_snoc (l x : List Int) (v : Int) : zeroAt l (x ++ [v]) = (zeroAt l x).set v.toNat 0 := by unfold zeroAt; rw [List.foldl_append]; rfl
theorem zeroAt_get (x : List Int) : ∀ l : List Int, (∀ v ∈ x, 0 ≤ v) → ∀ i : Nat, (zeroAt l x).getD i 0 = if (i : Int) ∈ x then 0 else l.getD i 0 := by
  induction x with
  | nil => intro l _ i; simp [zeroAt]
  | cons v x ih =>
    intro l h i
    show (zeroAt (l.set v.toNat 0) x).getD i 0 = _
    rw [ih _ (fun u hu => h u (List.mem_cons_of_mem _ hu)) i]
    have hv := h v List.mem_cons_self
    by_cases hx : (i : Int) ∈ x
    · rw [if_pos hx, if_pos (List.mem_cons_of_mem _ hx)]
    · rw [if_neg hx]
      by_cases e : (i : Int) = v
      · rw [if_pos (by rw [e]; exact List.mem_cons_self)]
        rw [show v.toNat = i from by omega, List.getD_eq_getElem?_getD, List.getElem?_set]
        rw [if_pos rfl]
        split <;> rfl
      · rw [if_neg (fun h2 => (List.mem_cons.1 h2).elim e hx), getD_set_other (by omega)]
def OkRep (l x : List Int) : Prop := x.Pairwise (· < ·) ∧ ∀ v ∈ x, 0 ≤ v ∧ v < (l.length : Int) ∧ l.getD v.toNat 0 = 1
theorem OkRep.lt {l x : List Int} (h : OkRep l x) {j : Nat} {u v : Int} (h1 : x[j]? = some u) (h2 : x[j + 1]? = some v) : u < v := by
  have hp := List.pairwise_iff_getElem.1 h.1
  obtain ⟨hj, rfl⟩ := List.getElem?_eq_some_iff.1 h1
  obtain ⟨hj2, rfl⟩ := List.getElem?_eq_some_iff.1 h2
  exact hp j (j + 1) hj hj2 (by omega)
theorem OkRep.kept {l x : List Int} (h : OkRep l x) : KeptOf l (zeroAt l x) := by
  refine ⟨zeroAt_len x l, fun i hi => ?_⟩
  rw [zeroAt_get x l (fun v hv => (h.2 v hv).1)]
  split
  · rename_i hx
    have := (h.2 _ hx).2.2
    rw [show ((i : Int)).toNat = i from by omega] at this
    exact .inr ⟨this, rfl⟩
  · exact .inl rfl
theorem cnt_set {l : List Int} {v : Nat} (h : v < l.length) (h1 : l.getD v 0 = 1) : cnt (l.set v 0) + 1 = cnt l := by
  induction l generalizing v with
  | nil => simp at h
  | cons y l ih =>
    cases v with
    | zero =>
      simp at h1
      subst h1
      simp [cnt]
    | succ v =>
      have := ih (v := v) (by simpa using h) (by simpa using h1)
      unfold cnt at *
      rw [List.set_cons_succ, List.countP_cons, List.countP_cons]
      omega
theorem OkRep.cnt (x : List Int) : ∀ {l : List Int}, OkRep l x → Go.Proofs.Ytfengddpfeneiaa.cnt (zeroAt l x) + x.length = Go.Proofs.Ytfengddpfeneiaa.cnt l := by
  induction x with
  | nil => intro l _; rfl
  | cons v x ih =>
    intro l h
    have hv := h.2 v List.mem_cons_self
    have hp := List.pairwise_cons.1 h.1
    have h2 : OkRep (l.set v.toNat 0) x := ⟨hp.2, fun u hu => by
      have h3 := h.2 u (List.mem_cons_of_mem _ hu)
      have h4 := hp.1 u hu
      rw [List.length_set, getD_set_other (by omega)]
      exact h3⟩
    have h5 := ih h2
    have h6 := cnt_set (l := l) (v := v.toNat) (by omega) hv.2.2
    show Go.Proofs.Ytfengddpfeneiaa.cnt (zeroAt (l.set v.toNat 0) x) + _ = _
    rw [List.length_cons]
    omega
theorem mem_repL {r : Rul} {l : List Int} {v : Int} : v ∈ repL r l ↔ ∃ i : Nat, v = (i : Int) ∧ i < l.length ∧ l.getD i 0 ≠ (keepS r l).getD i 0 := by
  unfold repL keepS
  simp only [List.mem_map, List.mem_filter, List.mem_range, bne_iff_ne]
  constructor
  · rintro ⟨i, ⟨h1, h2⟩, rfl⟩; exact ⟨i, rfl, h1, h2⟩
  · rintro ⟨i, rfl, h1, h2⟩; exact ⟨i, ⟨h1, h2⟩, rfl⟩
theorem repL_ok (r : Rul) {l : List Int} (hl : ∀ x ∈ l, x = 0 ∨ x = 1) : OkRep l (repL r l) := by
  constructor
  · unfold repL
    rw [List.pairwise_map]
    refine List.Pairwise.imp ?_ (List.pairwise_lt_range.filter _)
    intro a b h
    omega
  · intro v hv
    obtain ⟨i, rfl, h1, h2⟩ := mem_repL.1 hv
    refine ⟨by omega, by omega, ?_⟩
    rw [show ((i : Int)).toNat = i from by omega]
    rcases (keep_kept (r := r) l hl).ok i h1 with h3 | h3
    · exact absurd h3.symm h2
    · exact h3.1
theorem zeroAt_repL (r : Rul) {l : List Int} (hl : ∀ x ∈ l, x = 0 ∨ x = 1) : zeroAt l (repL r l) = keepS r l := by
  have hk := keep_kept (r := r) l hl
  have hlen : (zeroAt l (repL r l)).length = (keepS r l).length := by rw [zeroAt_len, hk.len]
  refine List.ext_getElem? fun i => ?_
  by_cases hi : i < l.length
  · rw [getD_of_lt (l := zeroAt l (repL r l)) (by rw [zeroAt_len]; exact hi), getD_of_lt (l := keepS r l) (by rw [hk.len]; exact hi)]
    rw [zeroAt_get _ _ (fun v hv => ((repL_ok r hl).2 v hv).1)]
    congr 1
    by_cases h : (i : Int) ∈ repL r l
    · rw [if_pos h]
      obtain ⟨j, e, h1, h2⟩ := mem_repL.1 h
      obtain rfl : i = j := by omega
      rcases hk.ok i h1 with h3 | h3
      · exact absurd h3.symm h2
      · exact h3.2.symm
    · rw [if_neg h]
      by_cases h2 : l.getD i 0 = (keepS r l).getD i 0
      · exact h2
      · exact absurd (mem_repL.2 ⟨i, rfl, hi, h2⟩) h
  · rw [List.getElem?_eq_none (by rw [zeroAt_len]; omega), List.getElem?_eq_none (by rw [hk.len]; omega)]
theorem repL_len (r : Rul) {l : List Int} (hl : ∀ x ∈ l, x = 0 ∨ x = 1) : ((repL r l).length : Int) = (cnt l : Int) - cnt (keepS r l) := by
  have := OkRep.cnt _ (repL_ok r hl)
  rw [zeroAt_repL r hl] at this
  omega
theorem judge_keep {r : Rul} (hr : okRul r = true) (l : List Int) : (judgeS r (keepS r l)).2 = 0 := (judgeS_zero hr).2 (keepS_brk hr l)
/-- How few are to be repeated, among the first so many. -/
def fewTo (r : Rul) (l : List Int) : Nat → Int
  | 0 => 0
  | k + 1 => fewTo r l k + (if brkS r (keepTo r l k ++ [l.getD k 0]) k = 0 then 0 else 1)
theorem fewTo_hS {r : Rul} (hr : okRul r = true) {l : List Int} (hl : ∀ x ∈ l, x = 0 ∨ x = 1) : ∀ k, k ≤ l.length → fewTo r l k = hS r l k
  | 0, _ => rfl
  | k + 1, h => by
    rw [fewTo, fewTo_hS hr hl k (by omega)]
    have hx : l.getD k 0 = 0 ∨ l.getD k 0 = 1 := hl _ (by rw [List.getD_eq_getElem?_getD, List.getElem?_eq_getElem (show k < l.length by omega)]; exact List.getElem_mem _)
    rcases hx with hx | hx
    · have h1 := keep_step hr l k (keep_ok hr l k)
      rw [hx, if_pos h1, hS_good (by omega) (by rw [hx]; decide)]; omega
    · rw [hS_bad (by omega) hx, hx]
theorem fewTo_rep {r : Rul} (hr : okRul r = true) {l : List Int} (hl : ∀ x ∈ l, x = 0 ∨ x = 1) : fewTo r l l.length = ((repL r l).length : Int) := by
  rw [fewTo_hS hr hl _ (Nat.le_refl _), repL_len r hl]
  unfold hS
  rw [pN_len l (Nat.le_refl _), pN_len (keepS r l) (by unfold keepS; rw [keepTo_len]; exact Nat.le_refl _)]
theorem fewTo_bd (r : Rul) (l : List Int) : ∀ k, 0 ≤ fewTo r l k ∧ fewTo r l k ≤ k
  | 0 => ⟨Int.le_refl _, Int.le_refl _⟩
  | k + 1 => by have := fewTo_bd r l k; rw [fewTo]; split <;> omega
/-- What Bound says of the proof that is returned. -/
theorem boundR_proof {r : Rul} {l : List Int} (he : errJ r l 1 = 0) (hr : okRul r = true) (hl : ∀ x ∈ l, x = 0 ∨ x = 1) (h256 : l.length ≤ 256) {p : List Clm} (h : IsProof r l p) : boundR r l p = (((repL r l).length : Int), 0) := by
  obtain ⟨S, e1, e2⟩ := h.bound hr hl
  have e3 := h.len hr
  unfold boundR
  rw [if_pos he, if_pos (by omega), e1]
  dsimp only
  rw [e2, repL_len r hl]
/-- No list that is to be repeated is shorter than the bound of a proof, or than the fewest. -/
theorem boundR_le {r : Rul} (hr : okRul r = true) {l x : List Int} (hx : OkRep l x) (hj : (judgeS r (zeroAt l x)).2 = 0) {p : List Clm} (h : (boundR r l p).2 = 0) : (boundR r l p).1 ≤ (x.length : Int) := by
  unfold boundR at *
  split at h
  · rename_i he
    rw [if_pos he]
    split at h
    · rename_i hp
      rw [if_pos hp]
      cases hc : claimTo r l p with
      | none => rw [hc] at h; cases h
      | some S =>
        dsimp only
        have h1 := dual_weak hr hx.kept ((judgeS_zero hr).1 hj) hc
        have h2 := OkRep.cnt _ hx
        omega
    · cases h
  · rename_i he; exact absurd h he
end Go.Proofs.Ytfengddpfeneiaa
namespace Go.Proofs.Ytfengddpfeneiaa
open Go.RowKit
set_option linter.unusedSimpArgs false
set_option linter.unusedVariables false

def stepOk (l z : List Int) (j : Nat) : Bool := decide (0 ≤ z.getD j 0 ∧ z.getD j 0 ≤ (l.length : Int) - 1) && (decide (j = 0) || decide (z.getD (j - 1) 0 < z.getD j 0))
/-- Are the first so many such? -/
def okB (l z : List Int) : Nat → Bool
  | 0 => true
  | j + 1 => okB l z j && stepOk l z j && decide (l.getD (z.getD j 0).toNat 0 = 1)
/-- What becomes of the results. -/
def gdL (l z : List Int) : Nat → List Int
  | 0 => l
  | j + 1 => if okB l z j && stepOk l z j then (gdL l z j).set (z.getD j 0).toNat 0 else gdL l z j
theorem okB_no {l z : List Int} {j : Nat} (h : (okB l z j && stepOk l z j) = false) : okB l z (j + 1) = false ∧ gdL l z (j + 1) = gdL l z j := by
  rw [okB, gdL, h]; exact ⟨rfl, rfl⟩
theorem okB_yes {l z : List Int} {j : Nat} (h : (okB l z j && stepOk l z j) = true) : okB l z (j + 1) = decide (l.getD (z.getD j 0).toNat 0 = 1) ∧ gdL l z (j + 1) = (gdL l z j).set (z.getD j 0).toNat 0 := by
  rw [okB, gdL, h]; exact ⟨Bool.true_and _, rfl⟩
theorem gdL_len (l z : List Int) : ∀ j, (gdL l z j).length = l.length
  | 0 => rfl
  | j + 1 => by
    rw [gdL]
    split
    · rw [List.length_set, gdL_len l z j]
    · exact gdL_len l z j
theorem gdL_res {l : List Int} (hl : ∀ x ∈ l, x = 0 ∨ x = 1) (z : List Int) : ∀ j, ∀ x ∈ gdL l z j, x = 0 ∨ x = 1
  | 0 => hl
  | j + 1 => by
    intro x hx
    rw [gdL] at hx
    split at hx
    · rcases List.mem_or_eq_of_mem_set hx with h | h
      · exact gdL_res hl z j x h
      · exact .inl h
    · exact gdL_res hl z j x hx
theorem gdL_okRes {l : List Int} (hl : ∀ x ∈ l, x = 0 ∨ x = 1) (h256 : l.length ≤ 256) (z : List Int) (j : Nat) : okRes (gdL l z j) 1 = true := by
  unfold okRes
  rw [Bool.and_eq_true, decide_eq_true_eq, List.all_eq_true]
  refine ⟨by rw [gdL_len]; exact h256, fun x hx => decide_eq_true ?_⟩
  rcases gdL_res hl z j x hx with h | h <;> omega
theorem okB_take {l z : List Int} : ∀ j, j ≤ z.length → okB l z j = true → OkRep l (z.take j) ∧ gdL l z j = zeroAt l (z.take j)
  | 0, _, _ => ⟨⟨by simp, fun v hv => by simp at hv⟩, rfl⟩
  | j + 1, hj, h => by
    have h' := h
    rw [okB, Bool.and_eq_true, Bool.and_eq_true, decide_eq_true_eq] at h
    obtain ⟨⟨h1, h2⟩, h3⟩ := h
    obtain ⟨⟨p1, p2⟩, p3⟩ := okB_take j (by omega) h1
    have hz := getD_of_lt (l := z) (i := j) (by omega)
    generalize hv : z.getD j 0 = v at *
    have h4 := h2
    unfold stepOk at h4
    rw [hv, Bool.and_eq_true, decide_eq_true_eq, Bool.or_eq_true, decide_eq_true_eq, decide_eq_true_eq] at h4
    obtain ⟨h5, h6⟩ := h4
    have htk : z.take (j + 1) = z.take j ++ [v] := by rw [List.take_add_one, hz]; rfl
    refine ⟨⟨?_, ?_⟩, ?_⟩
    · rw [htk, List.pairwise_append]
      refine ⟨p1, List.pairwise_singleton _ _, fun a ha b hb => ?_⟩
      rw [List.mem_singleton] at hb
      subst hb
      obtain ⟨i, hi⟩ := List.mem_iff_getElem?.1 ha
      have hil := (List.getElem?_eq_some_iff.1 hi).1
      rw [List.length_take] at hil
      have hj1 := getD_of_lt (l := z) (i := j - 1) (by omega)
      have hlast : (z.take j)[j - 1]? = some (z.getD (j - 1) 0) := by rw [List.getElem?_take_of_lt (by omega)]; exact hj1
      have hlt : z.getD (j - 1) 0 < b := h6.resolve_left (by omega)
      by_cases e : i = j - 1
      · subst e
        rw [hlast] at hi
        cases hi
        exact hlt
      · have hp := List.pairwise_iff_getElem.1 p1
        obtain ⟨g1, rfl⟩ := List.getElem?_eq_some_iff.1 hi
        obtain ⟨g2, g3⟩ := List.getElem?_eq_some_iff.1 hlast
        have := hp i (j - 1) g1 g2 (by omega)
        omega
    · intro u hu
      rw [htk] at hu
      rcases List.mem_append.1 hu with hu | hu
      · exact p2 u hu
      · rw [List.mem_singleton] at hu
        subst hu
        exact ⟨h5.1, by omega, h3⟩
    · rw [(okB_yes (by rw [h1, h2]; rfl)).2, hv, htk, zeroAt_snoc, p3]
theorem okB_all {l z : List Int} (h : okB l z z.length = true) : OkRep l z ∧ gdL l z z.length = zeroAt l z := by
  have := okB_take _ (Nat.le_refl _) h
  rwa [List.take_length] at this
theorem okB_of {l z : List Int} (h : OkRep l z) : ∀ j, j ≤ z.length → okB l z j = true
  | 0, _ => rfl
  | j + 1, hj => by
    have hz := getD_of_lt (l := z) (i := j) (by omega)
    have hv := h.2 _ (List.mem_of_getElem? hz)
    rw [okB, okB_of h j (by omega)]
    have hs : stepOk l z j = true := by
      unfold stepOk
      rw [Bool.and_eq_true, decide_eq_true_eq, Bool.or_eq_true, decide_eq_true_eq, decide_eq_true_eq]
      refine ⟨by omega, ?_⟩
      by_cases e : j = 0
      · exact .inl e
      · right
        exact h.lt (j := j - 1) (getD_of_lt (by omega)) (by rw [show j - 1 + 1 = j from by omega]; exact hz)
    rw [hs, decide_eq_true hv.2.2]; rfl
/-- What is repeated, among so many bad ones, if these are left. -/
def xM (l m : List Int) (k : Nat) : Int := (k : Int) - pN m (posN l k)
theorem kept_mono {l m : List Int} (h : KeptOf l m) {i j : Nat} (hij : i ≤ j) (hj : j ≤ l.length) : (pN m j : Int) - pN m i ≤ (pN l j : Int) - pN l i := by
  induction j with
  | zero => obtain rfl : i = 0 := by omega
            omega
  | succ j ih =>
    by_cases e : i = j + 1
    · subst e; omega
    · have h1 := ih (by omega) (by omega)
      rw [pN_succ (l := l) (i := j) (by omega), pN_succ (l := m) (i := j) (by have := h.len; omega)]
      rcases h.ok j (by omega) with h2 | ⟨h2, h3⟩
      · rw [h2]; split <;> omega
      · rw [h2, h3]; simp; omega
theorem xM_at {l m : List Int} (h : KeptOf l m) {i : Nat} (hi : i ≤ l.length) : xM l m (pN l i) = (pN l i : Int) - pN m i := by
  obtain ⟨h1, h2⟩ := posN_spec l (pN l i) (pN_le_cnt l i)
  unfold xM
  rcases Nat.le_total i (posN l (pN l i)) with h3 | h3
  · have := kept_mono h h3 h1
    have := (pN_mono m h3).1
    omega
  · have := kept_mono h h3 hi
    have := (pN_mono m h3).1
    omega
theorem xM_feas {r : Rul} (hr : okRul r = true) {l m : List Int} (h : KeptOf l m) (hm : ∀ i < m.length, brkS r m i = 0) : Feas r l (xM l m) where
  zero := by have := xM_at h (i := 0) (by omega); rw [pN_zero, pN_zero] at this; rw [this]; rfl
  up := fun k hk => by
    obtain ⟨i, h1, h2, h3⟩ := bad_at hk
    rw [← h2, xM_at h (by omega), show pN l i + 1 = pN l (i + 1) from by omega, xM_at h (by omega)]
    have := kept_mono h (i := i) (j := i + 1) (by omega) (by omega)
    omega
  dn := fun k hk => by
    obtain ⟨i, h1, h2, h3⟩ := bad_at hk
    rw [← h2, xM_at h (by omega), show pN l i + 1 = pN l (i + 1) from by omega, xM_at h (by omega)]
    have := (pN_mono m (i := i) (j := i + 1) (by omega)).1
    omega
  cl := fun c s hs => by
    have hb := span_bd hr hs
    have hk := span_keeps hr hm h.len hs
    rw [badS_p m (f := s.fr.toNat) (t := s.to.toNat) rfl rfl (by omega)] at hk
    rw [xM_at h (by omega), xM_at h (by omega)]
    omega
/-- Nobody repeats fewer. -/
theorem rep_least {r : Rul} (hr : okRul r = true) {l z : List Int} (hl : ∀ x ∈ l, x = 0 ∨ x = 1) (hz : OkRep l z) (hj : (judgeS r (zeroAt l z)).2 = 0) : (repL r l).length ≤ z.length := by
  have F := xM_feas hr hz.kept ((judgeS_zero hr).1 hj)
  have h1 := F.least hr l.length l.length (Nat.le_refl _) (Nat.le_refl _)
  rw [xM_at hz.kept (Nat.le_refl _), pN_len l (Nat.le_refl _), pN_len (zeroAt l z) (by rw [zeroAt_len]; exact Nat.le_refl _)] at h1
  have h2 : hS r l l.length = (cnt l : Int) - cnt (keepS r l) := by
    unfold hS
    rw [pN_len l (Nat.le_refl _), pN_len (keepS r l) (by unfold keepS; rw [keepTo_len]; exact Nat.le_refl _)]
  have h3 := repL_len r hl
  have h4 := OkRep.cnt _ hz
  omega
/-- What is said of a list that is offered, or returned. -/
theorem fewest_said {r : Rul} (hr : okRul r = true) {l z : List Int} (hl : ∀ x ∈ l, x = 0 ∨ x = 1) (p : List Clm) :
    (okB l z z.length = true → (judgeS r (gdL l z z.length)).2 = 0 → ((boundR r l p).2 = 0 → (boundR r l p).1 ≤ (z.length : Int)) ∧ (repL r l).length ≤ z.length) ∧
    (z = repL r l → okB l z z.length = true ∧ (judgeS r (gdL l z z.length)).2 = 0) := by
  constructor
  · intro h1 h2
    obtain ⟨h3, h4⟩ := okB_all h1
    rw [h4] at h2
    exact ⟨fun h => boundR_le hr h3 h2 h, rep_least hr hl h3 h2⟩
  · rintro rfl
    have h1 := okB_of (repL_ok r hl) _ (Nat.le_refl _)
    refine ⟨h1, ?_⟩
    rw [(okB_all h1).2, zeroAt_repL r hl]
    exact judge_keep hr l
end Go.Proofs.Ytfengddpfeneiaa
