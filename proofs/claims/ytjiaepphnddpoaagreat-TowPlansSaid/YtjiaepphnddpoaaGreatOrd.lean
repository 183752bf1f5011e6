/-
  A region that draws, in which three or four operations come up at once; own rows; a list of one's own, of whatever length.
-/
import Derived.Test.YtjiaepphnddpoaaGreatW3
import Derived.Laws.AppendOwnNone
import Derived.Deep.AppendLies
namespace Go.Proofs.YtjiaepphnddpoaaGreat
open Go.RowKit Go.Shelf
set_option linter.unusedSimpArgs false
set_option linter.unusedVariables false
section
variable {P : Program} {ops : Array Oper} {Q : Exit → Act → World → Prop} {md : Region.Mode} {S : World → Prop}
theorem held_three {i j k : Nat} {oi oj ok : Oper} {fuel : Nat} {listed : Array Bool} {a : Act} {w : World} (hr : Region.ready md ops listed = [i, j, k]) (hi : ops[i]? = some oi) (hj : ops[j]? = some oj) (hk : ops[k]? = some ok) (hgi : oi.guard = none) (hgj : oj.guard = none) (hgk : ok.guard = none)
    (h1 : ∀ K' : Act → World → Prop, (∀ a' w', S w' → wpAnyH P md ops Q S fuel (listed.setIfInBounds i true) a' w' → K' a' w') → oi.wp P a w K' Q)
    (h2 : ∀ K' : Act → World → Prop, (∀ a' w', S w' → wpAnyH P md ops Q S fuel (listed.setIfInBounds j true) a' w' → K' a' w') → oj.wp P a w K' Q)
    (h3 : ∀ K' : Act → World → Prop, (∀ a' w', S w' → wpAnyH P md ops Q S fuel (listed.setIfInBounds k true) a' w' → K' a' w') → ok.wp P a w K' Q) :
    wpAnyH P md ops Q S (fuel + 1) listed a w := by
  refine ⟨fun h0 => absurd (hr ▸ h0) (by simp), fun m hm => ?_⟩
  rw [hr] at hm
  rcases List.mem_cons.1 hm with rfl | hm
  · unfold wpOp
    simp only [hi]
    rw [if_pos (by simp [Region.wanted, hgi])]
    exact .inl (h1 _ fun a' w' hS hW => ⟨hS, hW⟩)
  · rcases List.mem_cons.1 hm with rfl | hm
    · unfold wpOp
      simp only [hj]
      rw [if_pos (by simp [Region.wanted, hgj])]
      exact .inl (h2 _ fun a' w' hS hW => ⟨hS, hW⟩)
    · obtain rfl := List.mem_singleton.1 hm
      unfold wpOp
      simp only [hk]
      rw [if_pos (by simp [Region.wanted, hgk])]
      exact .inl (h3 _ fun a' w' hS hW => ⟨hS, hW⟩)
theorem held_four {i j k l : Nat} {oi oj ok ol : Oper} {fuel : Nat} {listed : Array Bool} {a : Act} {w : World} (hr : Region.ready md ops listed = [i, j, k, l]) (hi : ops[i]? = some oi) (hj : ops[j]? = some oj) (hk : ops[k]? = some ok) (hl : ops[l]? = some ol) (hgi : oi.guard = none) (hgj : oj.guard = none) (hgk : ok.guard = none) (hgl : ol.guard = none)
    (h1 : ∀ K' : Act → World → Prop, (∀ a' w', S w' → wpAnyH P md ops Q S fuel (listed.setIfInBounds i true) a' w' → K' a' w') → oi.wp P a w K' Q)
    (h2 : ∀ K' : Act → World → Prop, (∀ a' w', S w' → wpAnyH P md ops Q S fuel (listed.setIfInBounds j true) a' w' → K' a' w') → oj.wp P a w K' Q)
    (h3 : ∀ K' : Act → World → Prop, (∀ a' w', S w' → wpAnyH P md ops Q S fuel (listed.setIfInBounds k true) a' w' → K' a' w') → ok.wp P a w K' Q)
    (h4 : ∀ K' : Act → World → Prop, (∀ a' w', S w' → wpAnyH P md ops Q S fuel (listed.setIfInBounds l true) a' w' → K' a' w') → ol.wp P a w K' Q) :
    wpAnyH P md ops Q S (fuel + 1) listed a w := by
  refine ⟨fun h0 => absurd (hr ▸ h0) (by simp), fun m hm => ?_⟩
  rw [hr] at hm
  rcases List.mem_cons.1 hm with rfl | hm
  · unfold wpOp
    simp only [hi]
    rw [if_pos (by simp [Region.wanted, hgi])]
    exact .inl (h1 _ fun a' w' hS hW => ⟨hS, hW⟩)
  · rcases List.mem_cons.1 hm with rfl | hm
    · unfold wpOp
      simp only [hj]
      rw [if_pos (by simp [Region.wanted, hgj])]
      exact .inl (h2 _ fun a' w' hS hW => ⟨hS, hW⟩)
    · rcases List.mem_cons.1 hm with rfl | hm
      · unfold wpOp
        simp only [hk]
        rw [if_pos (by simp [Region.wanted, hgk])]
        exact .inl (h3 _ fun a' w' hS hW => ⟨hS, hW⟩)
      · obtain rfl := List.mem_singleton.1 hm
        unfold wpOp
        simp only [hl]
        rw [if_pos (by simp [Region.wanted, hgl])]
        exact .inl (h4 _ fun a' w' hS hW => ⟨hS, hW⟩)
end
theorem ownsRow_mono {w : World} {B B' : Nat} {e : TypeId} {size : Nat} {v : Value} {n : Nat} {xs : List Value} (h : w.ownsRow B e size v n xs) (hB : B' ≤ B) : w.ownsRow B' e size v n xs := by
  refine ⟨h.1, ?_⟩
  rcases h.2 with h2 | ⟨g, cap, cur, h2, h3, h4⟩
  · exact .inl h2
  · exact .inr ⟨g, cap, cur, h2, Nat.le_trans hB h3, h4⟩
/-- A slice that is no address of block g. -/
def OffA (g : Nat) (A : Option Addr) (n : Nat) : Prop := 0 < n → ∀ b off, A = some ⟨b, off, none⟩ → b ≠ g
theorem OffA.below {g n : Nat} {A : Option Addr} {α : Type} {w : World} {B s : Nat} {enc : α → List Value} {c : Nat} {xs : List α} (h : SlAt w B s enc A n c xs) (hg : w.heap.size ≤ g) : OffA g A n := by
  intro h0 b off e
  obtain ⟨b', off', e', -, hb, -⟩ := h.2.2.2 h0
  rw [e] at e'
  injection e' with e'
  injection e' with e1 e2 e3
  omega
theorem OffA.above {g n : Nat} {A : Option Addr} {α : Type} {w : World} {B s : Nat} {enc : α → List Value} {c : Nat} {xs : List α} (h : SlAt w B s enc A n c xs) (hg : g < B) : OffA g A n := by
  intro h0 b off e
  obtain ⟨b', off', e', hB, hb, -⟩ := h.2.2.2 h0
  rw [e] at e'
  injection e' with e'
  injection e' with e1 e2 e3
  omega
theorem OffA.zero (g : Nat) (A : Option Addr) : OffA g A 0 := fun h => absurd h (by omega)
theorem cell_eq {w w' : World} {b : Nat} (h : w'.heap[b]? = w.heap[b]?) (i : Nat) : w'.cell? ⟨b, i, none⟩ = w.cell? ⟨b, i, none⟩ := by
  unfold World.cell?; simp only [h]
/-- A slice that is nil, or holds something. -/
def NilOk (A : Option Addr) (n c : Nat) : Prop := 0 < n ∨ A = none ∧ n = 0 ∧ c = 0
set_option maxRecDepth 100000 in
set_option maxHeartbeats 1000000 in
theorem OwnG_any (l : List Int) (A : Option Addr) (n c B : Nat) (w : World) (hn : n ≤ 1000000) (hN : NilOk A n c) (hs : SlAt w B 1 ivs A n c l) :
    Calls Tryz.prog 124 #[.slice A n c] w fun e w' => ∃ v, e = .returned v ∧ w'.ownsRow w.heap.size 3 1 v n (l.map (.int .i64 ·)) ∧ Below w.heap.size w w' := by
  have hl := Lib.hid hs.len
  have hown : w.ownsRow w.heap.size 3 1 (.slice none 0 0) 0 [] := ⟨rfl, .inl ⟨rfl, rfl⟩⟩
  obtain ⟨i0, hi0, hz0, hz1, hz2⟩ := info_parts Tryz.infoInt
  rcases hN with hn0 | ⟨rfl, rfl, rfl⟩
  · obtain ⟨b, off, hA, -, hbl, hc⟩ := hs.2.2.2 hn0
    have hnews : Hid (∀ (j : Nat) (u : Value), (l.map (Value.int .i64 ·))[j]? = some u → w.cell? ((⟨b, off, none⟩ : Addr).add j) = some u) := by
      show ∀ _ _, _
      intro j u hu
      rw [List.getElem?_map] at hu
      cases hx : l[j]? with
      | none => rw [hx] at hu; cases hu
      | some x =>
        rw [hx] at hu
        cases hu
        have := hc j x hx 0 (.int .i64 x) rfl
        have e : ((⟨b, off, none⟩ : Addr).add j) = ⟨b, off + j, none⟩ := by unfold Addr.add; split <;> simp_all
        rw [e]
        simpa using this
    have hlen : Hid ((l.map (Value.int .i64 ·)).length = n * 1) := by show _ = _; rw [List.length_map, hl.out, Nat.mul_one]
    have hone : Hid (∀ u ∈ l.map (Value.int .i64 ·), u.oneCell' = true) := by
      show ∀ _ _, _
      intro u hu
      obtain ⟨x, _, rfl⟩ := List.mem_map.1 hu
      rfl
    have hbig1 : Hid (0 + n ≤ maxLen) := by show 0 + n ≤ maxLen; unfold maxLen; omega
    have hbig2 : Hid ((0 + n) * 8 ≤ 140737488355328) := by show (0 + n) * 8 ≤ 140737488355328; omega
    subst hA
    clear hc
    go_enter Tryz.func124, Tryz.ntmps124
    go_wp2_with (at_builtin; refine wpList_append_lies _ rfl (.tmp 4) (.tmp 5) 31 rfl w.heap.size 3 i0 (.int .i64 0) 1 8 Tryz.underlying31 hi0 hz0 hz1 hz2 rfl (by decide) (.slice none 0 0) 0 [] rfl hown ⟨b, off, none⟩ n c (l.map (.int .i64 ·)) rfl hlen.out hnews.out hone.out hn0 hbig1.out hbig2.out (Nat.le_refl _) w.heap.size rfl ?_; intro g cap w7 hown7 hgrow hlies hlt7)
    go_ret
    have hbg : Below w.heap.size w w7 := ⟨hgrow.os, hgrow.tape, hgrow.output, hgrow.size, fun b hb2 => hgrow.block b hb2 (fun e => by cases e)⟩
    refine ⟨_, rfl, ?_, hbg⟩
    rw [Nat.zero_add, List.nil_append] at hown7
    exact hown7
  · obtain rfl : l = [] := List.length_eq_zero_iff.1 hl.out
    go_enter Tryz.func124, Tryz.ntmps124
    go_wp2_with (at_builtin; refine wpList_append_own_none rfl (.tmp 4) (.tmp 5) 31 rfl w.heap.size 3 i0 1 Tryz.underlying31 hi0 (.slice none 0 0) 0 [] rfl hown rfl ?_)
    go_ret
    exact ⟨_, rfl, hown, Below.refl _ _⟩
end Go.Proofs.YtjiaepphnddpoaaGreat
