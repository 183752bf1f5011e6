/-
  Plain laws of regions: what a tight region has. Nothing of the program stands here.
-/
import Derived.Test.YthjdjpcomocffaaGreatM1
import Derived.Test.YthjdjpcomocffaaGreatG7
namespace Go.Proofs.YthjdjpcomocffaaGreat

/-- A point lies in a region. -/
def inR (p : Pnt) (r : Reg) : Prop := inB p.x r.x ∧ inB p.y r.y ∧ inB (p.x + p.y) r.s ∧ inB (p.x - p.y) r.d
/-- A bound lies within another one. -/
theorem rowsTo_has {r : Reg} {q : RRow} : ∀ {n j : Nat}, j < n → q = rowB r (r.x.lo + j) → q.fr ≤ q.to → q ∈ rowsTo r n
  | 0, j, h, _, _ => absurd h (Nat.not_lt_zero _)
  | n + 1, j, h, e, hq => by
    rw [rowsTo, List.mem_append]
    by_cases hj : j < n
    · exact .inl (rowsTo_has hj e hq)
    · obtain rfl : j = n := by omega
      refine .inr ?_
      rw [← e, if_pos hq]; simp
theorem rowsL_iff {r : Reg} {q : RRow} : q ∈ rowsL r ↔ inB q.x r.x ∧ q = rowB r q.x ∧ q.fr ≤ q.to := by
  unfold rowsL
  constructor
  · intro h
    obtain ⟨j, hj, e, hq⟩ := rowsTo_mem h
    have ex : q.x = r.x.lo + j := by rw [e]; rfl
    unfold nX at hj
    exact ⟨⟨by omega, by omega⟩, by rw [ex]; exact e, hq⟩
  · rintro ⟨⟨h1, h2⟩, e, hq⟩
    refine rowsTo_has (j := (q.x - r.x.lo).toNat) (by unfold nX; omega) ?_ hq
    rw [show r.x.lo + ((q.x - r.x.lo).toNat : Int) = q.x by omega]; exact e
theorem ptsL_iff {r : Reg} {p : Pnt} : p ∈ ptsL r ↔ inR p r ∧ (p.y = (rowB r p.x).fr ∨ p.y = (rowB r p.x).to) := by
  unfold ptsL
  rw [List.mem_flatMap]
  constructor
  · rintro ⟨q, hq, hp⟩
    obtain ⟨⟨hx1, hx2⟩, e, hle⟩ := rowsL_iff.1 hq
    have hpx : p.x = q.x ∧ (p.y = q.fr ∨ p.y = q.to) := by
      unfold rowPts at hp
      split at hp
      · simp at hp; subst hp; exact ⟨rfl, .inl rfl⟩
      · simp at hp; rcases hp with rfl | rfl
        · exact ⟨rfl, .inl rfl⟩
        · exact ⟨rfl, .inr rfl⟩
    obtain ⟨px, py⟩ := hpx
    rw [e] at py hle
    rw [← px] at py hle hx1 hx2
    refine ⟨?_, py⟩
    unfold inR inB
    unfold rowB at py hle
    dsimp only at py hle
    omega
  · rintro ⟨⟨h1, h2, h3, h4⟩, hy⟩
    have hle : (rowB r p.x).fr ≤ p.y ∧ p.y ≤ (rowB r p.x).to := by
      unfold inB at *
      unfold rowB
      dsimp only
      omega
    refine ⟨rowB r p.x, rowsL_iff.2 ⟨h1, rfl, by omega⟩, ?_⟩
    have hx : (rowB r p.x).x = p.x := rfl
    obtain ⟨px, py⟩ := p
    unfold rowPts
    split
    · rename_i e
      simp only [List.mem_singleton, Pnt.mk.injEq]
      exact ⟨hx.symm, by dsimp only at hy e ⊢; omega⟩
    · simp only [List.mem_cons, Pnt.mk.injEq, List.not_mem_nil, or_false]
      rcases hy with hy | hy
      · exact .inl ⟨hx.symm, hy⟩
      · exact .inr ⟨hx.symm, hy⟩
/-- What a hull of points is. -/
structure Hull (l : List Pnt) (h : Reg) : Prop where
  has : ∀ p ∈ l, inR p h
  xlo : ∃ p ∈ l, p.x = h.x.lo
  xhi : ∃ p ∈ l, p.x = h.x.hi
  ylo : ∃ p ∈ l, p.y = h.y.lo
  yhi : ∃ p ∈ l, p.y = h.y.hi
  slo : ∃ p ∈ l, p.x + p.y = h.s.lo
  shi : ∃ p ∈ l, p.x + p.y = h.s.hi
  dlo : ∃ p ∈ l, p.x - p.y = h.d.lo
  dhi : ∃ p ∈ l, p.x - p.y = h.d.hi
theorem hull_one (p : Pnt) : Hull [p] (ofP p) := by
  have hh : ∀ q ∈ [p], inR q (ofP p) := by
    intro q hq
    simp at hq; subst hq
    exact ⟨⟨Int.le_refl _, Int.le_refl _⟩, ⟨Int.le_refl _, Int.le_refl _⟩, ⟨Int.le_refl _, Int.le_refl _⟩, ⟨Int.le_refl _, Int.le_refl _⟩⟩
  have hm : p ∈ [p] := List.mem_singleton.2 rfl
  exact ⟨hh, ⟨p, hm, rfl⟩, ⟨p, hm, rfl⟩, ⟨p, hm, rfl⟩, ⟨p, hm, rfl⟩, ⟨p, hm, rfl⟩, ⟨p, hm, rfl⟩, ⟨p, hm, rfl⟩, ⟨p, hm, rfl⟩⟩
theorem lo_add {l : List Pnt} {f : Pnt → Int} {a : Int} (p : Pnt) (h : ∃ q ∈ l, f q = a) : ∃ q ∈ l ++ [p], f q = min a (f p) := by
  obtain ⟨q, hq, e⟩ := h
  by_cases hlt : a ≤ f p
  · exact ⟨q, List.mem_append_left _ hq, by omega⟩
  · exact ⟨p, List.mem_append_right _ (List.mem_singleton.2 rfl), by omega⟩
theorem hi_add {l : List Pnt} {f : Pnt → Int} {a : Int} (p : Pnt) (h : ∃ q ∈ l, f q = a) : ∃ q ∈ l ++ [p], f q = max a (f p) := by
  obtain ⟨q, hq, e⟩ := h
  by_cases hlt : f p ≤ a
  · exact ⟨q, List.mem_append_left _ hq, by omega⟩
  · exact ⟨p, List.mem_append_right _ (List.mem_singleton.2 rfl), by omega⟩
theorem hull_add {l : List Pnt} {h : Reg} (p : Pnt) (H : Hull l h) : Hull (l ++ [p]) (zipR spanB h (ofP p)) := by
  have hh : ∀ q ∈ l ++ [p], inR q (zipR spanB h (ofP p)) := by
    intro q hq
    rcases List.mem_append.1 hq with hq | hq
    · have := H.has q hq
      unfold inR inB zipR spanB ofP still at *; dsimp only at *; omega
    · simp at hq; subst hq
      unfold inR inB zipR spanB ofP still; dsimp only; omega
  exact ⟨hh, lo_add (f := fun p => p.x) p H.xlo, hi_add (f := fun p => p.x) p H.xhi, lo_add (f := fun p => p.y) p H.ylo, hi_add (f := fun p => p.y) p H.yhi,
    lo_add (f := fun p => p.x + p.y) p H.slo, hi_add (f := fun p => p.x + p.y) p H.shi, lo_add (f := fun p => p.x - p.y) p H.dlo, hi_add (f := fun p => p.x - p.y) p H.dhi⟩
theorem hull_fold : ∀ (m l : List Pnt) (h : Reg), Hull l h → ∃ k, m.foldl addP (some h) = some k ∧ Hull (l ++ m) k
  | [], l, h, H => ⟨h, rfl, by rw [List.append_nil]; exact H⟩
  | p :: m, l, h, H => by
    obtain ⟨k, e, K⟩ := hull_fold m (l ++ [p]) _ (hull_add p H)
    exact ⟨k, e, by simpa using K⟩
theorem hull_of : ∀ (l : List Pnt), l ≠ [] → ∃ h, hullL l = some h ∧ Hull l h
  | [], h => absurd rfl h
  | p :: m, _ => by
    obtain ⟨k, e, K⟩ := hull_fold m [p] _ (hull_one p)
    refine ⟨k, ?_, K⟩
    unfold hullL
    rw [List.foldl_cons]
    show m.foldl addP (some (zipR spanB (ofP p) (ofP p))) = some k
    rw [zipR_self]; exact e
/-- What a tight region is: it has the places of the region, and each of its bounds is met by one. -/
theorem tight_hull {r t : Reg} (h : tightO r = some t) : Hull (ptsL r) t := by
  have hne : ptsL r ≠ [] := by
    intro e
    rw [tightO, e] at h
    cases h
  obtain ⟨k, e, K⟩ := hull_of _ hne
  rw [tightO, e] at h
  cases h
  exact K
theorem tight_has {r : Reg} {p : Pnt} (h : inR p r) : ∃ t, tightO r = some t ∧ inR p t := by
  have hle : (rowB r p.x).fr ≤ p.y ∧ p.y ≤ (rowB r p.x).to := by
    unfold inR inB at h
    unfold rowB
    dsimp only
    omega
  have m1 : (⟨p.x, (rowB r p.x).fr⟩ : Pnt) ∈ ptsL r := ptsL_iff.2 ⟨by unfold inR inB at *; unfold rowB at *; dsimp only at *; omega, .inl rfl⟩
  have m2 : (⟨p.x, (rowB r p.x).to⟩ : Pnt) ∈ ptsL r := ptsL_iff.2 ⟨by unfold inR inB at *; unfold rowB at *; dsimp only at *; omega, .inr rfl⟩
  obtain ⟨t, e, T⟩ := hull_of _ (List.ne_nil_of_mem m1)
  refine ⟨t, e, ?_⟩
  have a := T.has _ m1
  have b := T.has _ m2
  unfold inR inB at *
  dsimp only at *
  omega
theorem tight_in {r t : Reg} (h : tightO r = some t) {p : Pnt} (hp : inR p r) : inR p t := by
  obtain ⟨t', e, ht⟩ := tight_has hp
  rw [h] at e
  cases e
  exact ht
theorem tight_of {r t : Reg} (h : tightO r = some t) {p : Pnt} (hp : inR p t) : inR p r := by
  have T := tight_hull h
  obtain ⟨p1, m1, e1⟩ := T.xlo
  obtain ⟨p2, m2, e2⟩ := T.xhi
  obtain ⟨p3, m3, e3⟩ := T.ylo
  obtain ⟨p4, m4, e4⟩ := T.yhi
  obtain ⟨p5, m5, e5⟩ := T.slo
  obtain ⟨p6, m6, e6⟩ := T.shi
  obtain ⟨p7, m7, e7⟩ := T.dlo
  obtain ⟨p8, m8, e8⟩ := T.dhi
  have a1 := (ptsL_iff.1 m1).1
  have a2 := (ptsL_iff.1 m2).1
  have a3 := (ptsL_iff.1 m3).1
  have a4 := (ptsL_iff.1 m4).1
  have a5 := (ptsL_iff.1 m5).1
  have a6 := (ptsL_iff.1 m6).1
  have a7 := (ptsL_iff.1 m7).1
  have a8 := (ptsL_iff.1 m8).1
  unfold inR inB at *
  omega
theorem tight_ok {r t : Reg} (hr : okReg r = true) (h : tightO r = some t) : okReg t = true := by
  have T := tight_hull h
  have hp : ∀ p ∈ ptsL r, -32768 ≤ p.x ∧ p.x ≤ 32768 ∧ -32768 ≤ p.y ∧ p.y ≤ 32768 := fun p hp => ptsL_mid hr hp
  obtain ⟨p1, m1, e1⟩ := T.xlo
  obtain ⟨p2, m2, e2⟩ := T.xhi
  obtain ⟨p3, m3, e3⟩ := T.ylo
  obtain ⟨p4, m4, e4⟩ := T.yhi
  obtain ⟨p5, m5, e5⟩ := T.slo
  obtain ⟨p6, m6, e6⟩ := T.shi
  obtain ⟨p7, m7, e7⟩ := T.dlo
  obtain ⟨p8, m8, e8⟩ := T.dhi
  have a1 := hp _ m1
  have a2 := hp _ m2
  have a3 := hp _ m3
  have a4 := hp _ m4
  have a5 := hp _ m5
  have a6 := hp _ m6
  have a7 := hp _ m7
  have a8 := hp _ m8
  have b := T.has _ m1
  unfold okReg okBnd
  unfold inR inB at b
  simp only [Bool.and_eq_true, decide_eq_true_eq]
  omega
end Go.Proofs.YthjdjpcomocffaaGreat
