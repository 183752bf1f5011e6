/-
  The fewest repeated shots as the fixed point of edges: one edge after the other, and the chain of the edges by which the numbers came. Nothing of the program stands here.
-/
import Derived.Test.YtfengddpfeneiaaGreatQ8
namespace Go.Proofs.YtfengddpfeneiaaGreat
open Go.RowKit
set_option linter.unusedSimpArgs false
set_option linter.unusedVariables false

/-- What an edge of the list is. -/
structure EdgOk (r : Rul) (l : List Int) (x : Edg) : Prop where
  fr : x.fr ≤ cnt l
  tt : x.tt ≤ cnt l
  ne : x.fr ≠ x.tt
  lo : -1 ≤ x.least
  hi : x.least ≤ l.length
  ok : gS r l x.fr + x.least ≤ gS r l x.tt
theorem gS_step {r : Rul} (hr : okRul r = true) (l : List Int) {k : Nat} (h : k < cnt l) : gS r l k ≤ gS r l (k + 1) ∧ gS r l (k + 1) ≤ gS r l k + 1 := ⟨(gS_feas hr l).up k h, (gS_feas hr l).dn k h⟩
theorem mem_stepsE {k : Nat} {x : Edg} (h : x ∈ stepsE k) : ∃ i < k, x = ⟨i, i + 1, 0, ⟨0, 0⟩⟩ ∨ x = ⟨i + 1, i, -1, ⟨0, 0⟩⟩ := by
  unfold stepsE at h
  obtain ⟨i, hi, hx⟩ := List.mem_flatMap.1 h
  simp [stepE] at hx
  exact ⟨i, by simpa using hi, hx⟩
theorem mem_ruleE {r : Rul} {l : List Int} {rule : Int} {k : Nat} {x : Edg} (h : x ∈ ruleE r l rule k) : ∃ fr < k, ∃ s, spanS r l ⟨rule, (fr : Nat)⟩ = some s ∧ s.most < (pN l s.to.toNat : Int) - pN l s.fr.toNat ∧ x = ⟨pN l s.fr.toNat, pN l s.to.toNat, (pN l s.to.toNat : Int) - pN l s.fr.toNat - s.most, ⟨rule, fr⟩⟩ := by
  unfold ruleE at h
  obtain ⟨i, hi, hx⟩ := List.mem_flatMap.1 h
  unfold clmE at hx
  cases hs : spanS r l ⟨rule, i⟩ with
  | none => rw [hs] at hx; simp at hx
  | some s =>
    rw [hs] at hx
    dsimp only at hx
    split at hx
    · rename_i hm
      simp at hx
      exact ⟨i, by simpa using hi, s, hs, hm, hx⟩
    · simp at hx
theorem edgOk_claim {r : Rul} (hr : okRul r = true) {l : List Int} {rule : Int} {k : Nat} {x : Edg} (h : x ∈ ruleE r l rule k) : EdgOk r l x := by
  obtain ⟨fr, -, s, hs, hm, rfl⟩ := mem_ruleE h
  obtain ⟨h1, h2, h3, h4, h5, h6⟩ := span_bd hr hs
  have m1 := pN_mono l (i := s.fr.toNat) (j := s.to.toNat) (by omega)
  have m2 := pN_le_cnt l s.to.toNat
  have m3 := cnt_le l
  have hc := (gS_feas hr l).cl _ s hs
  exact ⟨by dsimp only; omega, by dsimp only; omega, by dsimp only; omega, by dsimp only; omega, by dsimp only; omega, by dsimp only; omega⟩
theorem edgOk_mem {r : Rul} (hr : okRul r = true) {l : List Int} {x : Edg} (h : x ∈ edgesS r l) : EdgOk r l x := by
  unfold edgesS at h
  simp only [edgesTo, List.mem_append] at h
  rcases h with ((h | h) | h) | h
  · obtain ⟨i, hi, h⟩ := mem_stepsE h
    have hg := gS_step hr l hi
    have m3 := cnt_le l
    rcases h with rfl | rfl
    · exact ⟨by dsimp only; omega, by dsimp only; omega, by dsimp only; omega, by dsimp only; omega, by dsimp only; omega, by dsimp only; omega⟩
    · exact ⟨by dsimp only; omega, by dsimp only; omega, by dsimp only; omega, by dsimp only; omega, by dsimp only; omega, by dsimp only; omega⟩
  · exact edgOk_claim hr h
  · exact edgOk_claim hr h
  · exact edgOk_claim hr h
theorem gS_bd {r : Rul} (hr : okRul r = true) (l : List Int) : ∀ k, k ≤ cnt l → 0 ≤ gS r l k ∧ gS r l k ≤ k
  | 0, _ => by rw [(gS_feas hr l).zero]; omega
  | k + 1, h => by
    have h1 := gS_bd hr l k (by omega)
    have h2 := gS_step hr l (k := k) (by omega)
    omega
/-- What holds of the numbers and of the edges by which they came, while edges are followed. -/
structure BF (r : Rul) (l : List Int) (m : List Int) (d : List Edg) : Prop where
  lm : m.length = cnt l + 1
  ld : d.length = cnt l + 1
  zero : m.getD 0 0 = 0
  le : ∀ k ≤ cnt l, m.getD k 0 ≤ gS r l k
  lo : ∀ k ≤ cnt l, -(cnt l : Int) - 1 ≤ m.getD k 0
  by_ : ∀ k ≤ cnt l, 0 < k → m.getD k 0 ≠ -(cnt l : Int) - 1 → (d.getD k edg0) ∈ edgesS r l ∧ (d.getD k edg0).tt = k ∧ m.getD k 0 ≤ m.getD (d.getD k edg0).fr 0 + (d.getD k edg0).least
  rank : ∃ rk : Nat → Nat, ∀ k ≤ cnt l, 0 < k → m.getD k 0 ≠ -(cnt l : Int) - 1 → rk (d.getD k edg0).fr < rk k
def bf0 (l : List Int) : List Int := (List.range (cnt l + 1)).map fun k => if k = 0 then 0 else -(cnt l : Int) - 1
theorem bf0_at (l : List Int) {k : Nat} (h : k ≤ cnt l) : (bf0 l).getD k 0 = if k = 0 then 0 else -(cnt l : Int) - 1 := by
  unfold bf0
  rw [List.getD_eq_getElem?_getD, List.getElem?_map, List.getElem?_range (by omega)]
  rfl
theorem bf_start {r : Rul} (hr : okRul r = true) (l : List Int) : BF r l (bf0 l) (List.replicate (cnt l + 1) edg0) where
  lm := by simp [bf0]
  ld := by simp
  zero := by rw [bf0_at l (Nat.zero_le _), if_pos rfl]
  le k hk := by
    rw [bf0_at l hk]
    have := gS_bd hr l k hk
    split <;> omega
  lo k hk := by rw [bf0_at l hk]; split <;> omega
  by_ k hk h0 h := by rw [bf0_at l hk, if_neg (by omega)] at h; exact absurd rfl h
  rank := ⟨fun _ => 0, fun k hk h0 h => by rw [bf0_at l hk, if_neg (by omega)] at h; exact absurd rfl h⟩
theorem getD_set_same {α : Type} {m : List α} {i : Nat} (h : i < m.length) (v z : α) : (m.set i v).getD i z = v := by
  rw [List.getD_eq_getElem?_getD, List.getElem?_set, if_pos rfl, if_pos h]; rfl
theorem getD_set_other {α : Type} {m : List α} {i k : Nat} (h : k ≠ i) (v z : α) : (m.set i v).getD k z = m.getD k z := by
  rw [List.getD_eq_getElem?_getD, List.getElem?_set, if_neg (fun e => h e.symm), List.getD_eq_getElem?_getD]
/-- x is reached from v by the edges by which the numbers came. -/
inductive Desc (l : List Int) (m : List Int) (d : List Edg) (v : Nat) : Nat → Prop
  | refl : Desc l m d v v
  | step {x : Nat} (hx : x ≤ cnt l) (h0 : 0 < x) (hr : m.getD x 0 ≠ -(cnt l : Int) - 1) (h : Desc l m d v (d.getD x edg0).fr) : Desc l m d v x
theorem desc_slack {r : Rul} (hr : okRul r = true) {l m : List Int} {d : List Edg} (h : BF r l m d) {v x : Nat} (hd : Desc l m d v x) : gS r l v - m.getD v 0 ≤ gS r l x - m.getD x 0 := by
  induction hd with
  | refl => omega
  | step hx h0 hn _ ih =>
    obtain ⟨h1, h2, h3⟩ := h.by_ _ hx h0 hn
    have h4 := (edgOk_mem hr h1).ok
    rw [h2] at h4
    omega
theorem bf_relax {r : Rul} (hr : okRul r = true) {l m : List Int} {d : List Edg} (h : BF r l m d) {x : Edg} (hx : x ∈ edgesS r l) (hgt : m.getD x.tt 0 < m.getD x.fr 0 + x.least) :
    BF r l (m.set x.tt (m.getD x.fr 0 + x.least)) (d.set x.tt x) ∧ x.tt ≠ 0 := by
  have ho := edgOk_mem hr hx
  have htm : x.tt < m.length := by rw [h.lm]; have := ho.tt; omega
  have htd : x.tt < d.length := by rw [h.ld]; have := ho.tt; omega
  have hle := h.le x.fr ho.fr
  have hok := ho.ok
  have ht0 : x.tt ≠ 0 := by
    intro e
    have z1 := (gS_feas hr l).zero
    have z2 := h.zero
    rw [e] at hok hgt
    omega
  have hlo := h.lo x.tt ho.tt
  have hmono : ∀ k, m.getD k 0 ≤ (m.set x.tt (m.getD x.fr 0 + x.least)).getD k 0 := by
    intro k
    by_cases e : k = x.tt
    · subst e; rw [getD_set_same htm]; omega
    · rw [getD_set_other e]; exact Int.le_refl _
  refine ⟨⟨by rw [List.length_set]; exact h.lm, by rw [List.length_set]; exact h.ld, ?_, ?_, ?_, ?_, ?_⟩, ht0⟩
  · rw [getD_set_other (fun e => ht0 e.symm)]; exact h.zero
  · intro k hk
    by_cases e : k = x.tt
    · subst e; rw [getD_set_same htm]; omega
    · rw [getD_set_other e]; exact h.le k hk
  · intro k hk
    have := h.lo k hk
    have := hmono k
    omega
  · intro k hk h0 hn
    by_cases e : k = x.tt
    · subst e
      rw [getD_set_same htd, getD_set_same htm]
      refine ⟨hx, rfl, ?_⟩
      have := hmono x.fr
      omega
    · rw [getD_set_other e] at hn
      rw [getD_set_other e, getD_set_other e]
      obtain ⟨h1, h2, h3⟩ := h.by_ k hk h0 hn
      refine ⟨h1, h2, ?_⟩
      have := hmono (d.getD k edg0).fr
      omega
  · obtain ⟨rk, hrk⟩ := h.rank
    have hnd : ¬ Desc l m d x.tt x.fr := by
      intro hd
      have := desc_slack hr h hd
      omega
    refine ⟨fun y => open Classical in if Desc l m d x.tt y then rk y + rk x.fr + 1 else rk y, fun k hk h0 hn => ?_⟩
    by_cases e : k = x.tt
    · subst e
      rw [getD_set_same htd]
      dsimp only
      rw [if_neg hnd, if_pos Desc.refl]
      omega
    · rw [getD_set_other e] at hn
      rw [getD_set_other e]
      have h1 := hrk k hk h0 hn
      dsimp only
      by_cases hd : Desc l m d x.tt (d.getD k edg0).fr
      · rw [if_pos hd, if_pos (Desc.step hk h0 hn hd)]
        omega
      · rw [if_neg hd]
        split <;> omega
/-- All edges hold: then the numbers are the least ones. -/
theorem bf_end {r : Rul} (hr : okRul r = true) {l m : List Int} {d : List Edg} (h : BF r l m d) (hall : ∀ x ∈ edgesS r l, m.getD x.fr 0 + x.least ≤ m.getD x.tt 0) : ∀ k ≤ cnt l, m.getD k 0 = gS r l k := by
  have hst : ∀ k < cnt l, (⟨k, k + 1, 0, ⟨0, 0⟩⟩ : Edg) ∈ edgesS r l ∧ (⟨k + 1, k, -1, ⟨0, 0⟩⟩ : Edg) ∈ edgesS r l := by
    intro k hk
    unfold edgesS
    simp only [edgesTo, List.mem_append]
    have hm : ∀ y ∈ stepE k, y ∈ stepsE (cnt l) := fun y hy => by
      unfold stepsE
      exact List.mem_flatMap.2 ⟨k, by simpa using hk, hy⟩
    exact ⟨.inl (.inl (.inl (hm _ (by simp [stepE])))), .inl (.inl (.inl (hm _ (by simp [stepE]))))⟩
  have hup : ∀ k < cnt l, m.getD k 0 ≤ m.getD (k + 1) 0 := fun k hk => by
    have := hall _ (hst k hk).1
    dsimp only at this; omega
  have hmono : ∀ j, ∀ i ≤ j, j ≤ cnt l → m.getD i 0 ≤ m.getD j 0 := by
    intro j
    induction j with
    | zero => intro i hi _; obtain rfl : i = 0 := by omega
              omega
    | succ j ih =>
      intro i hi hj
      by_cases e : i = j + 1
      · subst e; omega
      · have := ih i (by omega) (by omega)
        have := hup j (by omega)
        omega
  have F : Feas r l (fun k => m.getD k 0) := by
    refine ⟨h.zero, hup, ?_, ?_⟩
    · intro k hk
      have := hall _ (hst k hk).2
      dsimp only at *; omega
    · intro c s hs
      obtain ⟨h1, h2, h3, h4, h5, h6⟩ := span_bd hr hs
      have m1 := pN_mono l (i := s.fr.toNat) (j := s.to.toNat) (by omega)
      have m2 := pN_le_cnt l s.to.toNat
      by_cases hm : s.most < (pN l s.to.toNat : Int) - pN l s.fr.toNat
      · have hcr : c.rule = 1 ∨ c.rule = 2 ∨ c.rule = 3 := by
          unfold spanS at hs
          by_cases e1 : c.rule = 1
          · exact .inl e1
          · by_cases e2 : c.rule = 2
            · exact .inr (.inl e2)
            · by_cases e3 : c.rule = 3
              · exact .inr (.inr e3)
              · rw [if_neg e1, if_neg e2, if_neg e3] at hs; cases hs
        have hfr : 0 ≤ c.fr ∧ c.fr ≤ (l.length : Int) := by
          have hr' := hr
          unfold okRul at hr'
          have hr' := of_decide_eq_true hr'
          unfold spanS at hs
          split at hs
          · split at hs
            · omega
            · cases hs
          · split at hs
            · split at hs
              · omega
              · cases hs
            · split at hs
              · split at hs
                · omega
                · cases hs
              · cases hs
        have hmem : ∀ rule, c.rule = rule → (⟨pN l s.fr.toNat, pN l s.to.toNat, (pN l s.to.toNat : Int) - pN l s.fr.toNat - s.most, c⟩ : Edg) ∈ ruleE r l rule (l.length + 1) := by
          intro rule hru
          unfold ruleE
          refine List.mem_flatMap.2 ⟨c.fr.toNat, by simp; omega, ?_⟩
          unfold clmE
          have e : (⟨rule, (c.fr.toNat : Int)⟩ : Clm) = c := by
            rw [← hru]
            have : (c.fr.toNat : Int) = c.fr := by omega
            rw [this]
          rw [e, hs]
          dsimp only
          rw [if_pos hm]
          simp
        have hin : (⟨pN l s.fr.toNat, pN l s.to.toNat, (pN l s.to.toNat : Int) - pN l s.fr.toNat - s.most, c⟩ : Edg) ∈ edgesS r l := by
          unfold edgesS
          simp only [edgesTo, List.mem_append]
          rcases hcr with e | e | e
          · exact .inl (.inl (.inr (hmem _ e)))
          · exact .inl (.inr (hmem _ e))
          · exact .inr (hmem _ e)
        have := hall _ hin
        dsimp only at this
        omega
      · have := hmono (pN l s.to.toNat) (pN l s.fr.toNat) m1.1 m2
        omega
  exact gS_only hr F fun y hy k hk => by
    have h1 := h.le k hk
    obtain ⟨h2, h3⟩ := posN_spec l k hk
    have h4 := hy.least hr _ _ (Nat.le_refl _) h2
    rw [h3] at h4
    unfold gS at h1
    omega
/-- How far the numbers still are from the least ones, summed up. -/
def gapS (r : Rul) (l m : List Int) : Nat → Nat
  | 0 => 0
  | k + 1 => gapS r l m k + (gS r l k - m.getD k 0).toNat
theorem gapS_lt {r : Rul} {l m : List Int} {i : Nat} {v : Int} (hi : i < m.length) (h1 : m.getD i 0 < v) (h2 : v ≤ gS r l i) : ∀ n, gapS r l (m.set i v) n ≤ gapS r l m n ∧ (i < n → gapS r l (m.set i v) n < gapS r l m n)
  | 0 => ⟨Nat.le_refl _, fun h => absurd h (by omega)⟩
  | n + 1 => by
    have ih := gapS_lt hi h1 h2 n
    rw [gapS, gapS]
    by_cases e : n = i
    · subst e
      rw [getD_set_same hi]
      exact ⟨by omega, fun _ => by omega⟩
    · rw [getD_set_other e]
      exact ⟨by omega, fun h => by have := ih.2 (by omega); omega⟩
/-- The edges by which the fewest numbers came. -/
structure ChainOk (r : Rul) (l : List Int) (d : List Edg) : Prop where
  len : d.length = cnt l + 1
  by_ : ∀ k ≤ cnt l, 0 < k → (d.getD k edg0) ∈ edgesS r l ∧ (d.getD k edg0).tt = k ∧ gS r l k = gS r l (d.getD k edg0).fr + (d.getD k edg0).least
  rank : ∃ rk : Nat → Nat, ∀ k ≤ cnt l, 0 < k → rk (d.getD k edg0).fr < rk k
theorem chain_of {r : Rul} (hr : okRul r = true) {l m : List Int} {d : List Edg} (h : BF r l m d) (hall : ∀ x ∈ edgesS r l, m.getD x.fr 0 + x.least ≤ m.getD x.tt 0) : ChainOk r l d := by
  have he := bf_end hr h hall
  have hne : ∀ k ≤ cnt l, m.getD k 0 ≠ -(cnt l : Int) - 1 := fun k hk => by
    rw [he k hk]
    have := gS_bd hr l k hk
    omega
  refine ⟨h.ld, fun k hk h0 => ?_, ?_⟩
  · obtain ⟨h1, h2, h3⟩ := h.by_ k hk h0 (hne k hk)
    have ho := edgOk_mem hr h1
    refine ⟨h1, h2, ?_⟩
    rw [he k hk, he _ ho.fr] at h3
    have := ho.ok
    rw [h2] at this
    omega
  · obtain ⟨rk, hrk⟩ := h.rank
    exact ⟨rk, fun k hk h0 => hrk k hk h0 (hne k hk)⟩
def gL (r : Rul) (l : List Int) : List Int := (List.range (cnt l + 1)).map (gS r l)
theorem gL_of {r : Rul} (hr : okRul r = true) {l m : List Int} {d : List Edg} (h : BF r l m d) (hall : ∀ x ∈ edgesS r l, m.getD x.fr 0 + x.least ≤ m.getD x.tt 0) : m = gL r l := by
  have he := bf_end hr h hall
  refine List.ext_getElem? fun k => ?_
  unfold gL
  rw [List.getElem?_map]
  by_cases hk : k < cnt l + 1
  · rw [List.getElem?_range hk, getD_of_lt (by rw [h.lm]; exact hk), he k (by omega)]; rfl
  · rw [List.getElem?_eq_none (by rw [h.lm]; omega), List.getElem?_eq_none (by simp; omega)]; rfl
end Go.Proofs.YtfengddpfeneiaaGreat
