/-
  A region that draws, in which three or four operations come up at once; own rows; a list of one's own, of whatever length.
-/
import Derived.Test.YthjdjpcomocffaaGreatW3
import Derived.Laws.AppendOwnNone
import Derived.Deep.AppendLies
namespace Go.Proofs.YthjdjpcomocffaaGreat
open Go.RowKit Go.Shelf
set_option linter.unusedSimpArgs false
set_option linter.unusedVariables false
section
variable {P : Program} {ops : Array Oper} {Q : Exit → Act → World → Prop} {md : Region.Mode} {S : World → Prop}
theorem held_three {i j k : Nat} {oi oj ok : Oper} {fuel : Nat} {listed : Array Bool} {a : Act} {w : World} (hr : Region.ready md ops listed = [i, j, k]) (hi : ops[i]? = some oi) (hj : ops[j]? = some oj) (hk : ops[k]? = some ok) (hgi : oi.guard = none) (hgj : oj.guard = none) (hgk : ok.guard = none)
    (h1 : ∀ K' : Act → World → Prop, (∀ a' w', S w' → wpAnyH P md ops Q S fuel (listed.setIfInBounds i true) a' w' → K' a' w') → oi.wp P a w K' Q)
    (h2 : ∀ K' : Act → World → Prop, (∀ a' w', S w' → wpAnyH P md ops Q S fuel (listed.setIfInBounds j true) a' w' → K' a' w') → oj.wp P a w K' Q)
    (h3 : ∀ K' : Act → World → Prop, (∀ a' w', S w' → wpAnyH P md ops Q S fuel (listed.setIfInBounds k true) a' w' → K' a' w') → ok.wp P a w K' Q) :
    wpAnyH P md ops Q S (fuel + 1) listed a w := by
  refine ⟨fun h0 => absurd (hr ▸ h0) (by simp), fun m hm => ?_⟩
  rw [hr] at hm
  rcases List.mem_cons.1 hm with rfl | hm
  · unfold wpOp
    simp only [hi]
    rw [if_pos (by simp [Region.wanted, hgi])]
    exact .inl (h1 _ fun a' w' hS hW => ⟨hS, hW⟩)
  · rcases List.mem_cons.1 hm with rfl | hm
    · unfold wpOp
      simp only [hj]
      rw [if_pos (by simp [Region.wanted, hgj])]
      exact .inl (h2 _ fun a' w' hS hW => ⟨hS, hW⟩)
    · obtain rfl := List.mem_singleton.1 hm
      unfold wpOp
      simp only [hk]
      rw [if_pos (by simp [Region.wanted, hgk])]
      exact .inl (h3 _ fun a' w' hS hW => ⟨hS, hW⟩)
theorem held_four {i j k l : Nat} {oi oj ok ol : Oper} {fuel : Nat} {listed : Array Bool} {a : Act} {w : World} (hr : Region.ready md ops listed = [i, j, k, l]) (hi : ops[i]? = some oi) (hj : ops[j]? = some oj) (hk : ops[k]? = some ok) (hl : ops[l]? = some ol) (hgi : oi.guard = none) (hgj : oj.guard = none) (hgk : ok.guard = none) (hgl : ol.guard = none)
    (h1 : ∀ K' : Act → World → Prop, (∀ a' w', S w' → wpAnyH P md ops Q S fuel (listed.setIfInBounds i true) a' w' → K' a' w') → oi.wp P a w K' Q)
    (h2 : ∀ K' : Act → World → Prop, (∀ a' w', S w' → wpAnyH P md ops Q S fuel (listed.setIfInBounds j true) a' w' → K' a' w') → oj.wp P a w K' Q)
    (h3 : ∀ K' : Act → World → Prop, (∀ a' w', S w' → wpAnyH P md ops Q S fuel (listed.setIfInBounds k true) a' w' → K' a' w') → ok.wp P a w K' Q)
    (h4 : ∀ K' : Act → World → Prop, (∀ a' w', S w' → wpAnyH P md ops Q S fuel (listed.setIfInBounds l true) a' w' → K' a' w') → ol.wp P a w K' Q) :
    wpAnyH P md ops Q S (fuel + 1) listed a w := by
  refine ⟨fun h0 => absurd (hr ▸ h0) (by simp), fun m hm => ?_⟩
  rw [hr] at hm
  rcases List.mem_cons.1 hm with rfl | hm
  · unfold wpOp
    simp only [hi]
    rw [if_pos (by simp [Region.wanted, hgi])]
    exact .inl (h1 _ fun a' w' hS hW => ⟨hS, hW⟩)
  · rcases List.mem_cons.1 hm with rfl | hm
    · unfold wpOp
      simp only [hj]
      rw [if_pos (by simp [Region.wanted, hgj])]
      exact .inl (h2 _ fun a' w' hS hW => ⟨hS, hW⟩)
    · rcases List.mem_cons.1 hm with rfl | hm
      · unfold wpOp
        simp only [hk]
        rw [if_pos (by simp [Region.wanted, hgk])]
        exact .inl (h3 _ fun a' w' hS hW => ⟨hS, hW⟩)
      · obtain rfl := List.mem_singleton.1 hm
        unfold wpOp
        simp only [hl]
        rw [if_pos (by simp [Region.wanted, hgl])]
        exact .inl (h4 _ fun a' w' hS hW => ⟨hS, hW⟩)
end
theorem ownsRow_mono {w : World} {B B' : Nat} {e : TypeId} {size : Nat} {v : Value} {n : Nat} {xs : List Value} (h : w.ownsRow B e size v n xs) (hB : B' ≤ B) : w.ownsRow B' e size v n xs := by
  refine ⟨h.1, ?_⟩
  rcases h.2 with h2 | ⟨g, cap, cur, h2, h3, h4⟩
  · exact .inl h2
  · exact .inr ⟨g, cap, cur, h2, Nat.le_trans hB h3, h4⟩
/-- A slice that is no address of block g. -/
def OffA (g : Nat) (A : Option Addr) (n : Nat) : Prop := 0 < n → ∀ b off, A = some ⟨b, off, none⟩ → b ≠ g
theorem OffA.below {g n : Nat} {A : Option Addr} {α : Type} {w : World} {B s : Nat} {enc : α → List Value} {c : Nat} {xs : List α} (h : SlAt w B s enc A n c xs) (hg : w.heap.size ≤ g) : OffA g A n := by
  intro h0 b off e
  obtain ⟨b', off', e', -, hb, -⟩ := h.2.2.2 h0
  rw [e] at e'
  injection e' with e'
  injection e' with e1 e2 e3
  omega
theorem OffA.above {g n : Nat} {A : Option Addr} {α : Type} {w : World} {B s : Nat} {enc : α → List Value} {c : Nat} {xs : List α} (h : SlAt w B s enc A n c xs) (hg : g < B) : OffA g A n := by
  intro h0 b off e
  obtain ⟨b', off', e', hB, hb, -⟩ := h.2.2.2 h0
  rw [e] at e'
  injection e' with e'
  injection e' with e1 e2 e3
  omega
theorem OffA.zero (g : Nat) (A : Option Addr) : OffA g A 0 := fun h => absurd h (by omega)
theorem cell_eq {w w' : World} {b : Nat} (h : w'.heap[b]? = w.heap[b]?) (i : Nat) : w'.cell? ⟨b, i, none⟩ = w.cell? ⟨b, i, none⟩ := by
  unfold World.cell?; simp only [h]
/-- A slice that is nil, or holds something. -/
def NilOk (A : Option Addr) (n c : Nat) : Prop := 0 < n ∨ A = none ∧ n = 0 ∧ c = 0
end Go.Proofs.YthjdjpcomocffaaGreat
