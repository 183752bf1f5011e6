/-
  A region that draws, walked by hand: reads that nobody in the region disturbs are taken first; the others as they come up. In a function and in a round.
-/
import Derived.Test.YtjiaepphnddpoaaGreatRound
import Derived.OrdersHeld
import Derived.Test.YtjiaepphnddpoaaGreatStores
namespace Go.Proofs.YtjiaepphnddpoaaGreat
section
variable {P : Program} {ops : Array Oper} {Q : Exit → Act → World → Prop} {md : Region.Mode} {S : World → Prop}
/-! One operation comes up alone. -/
theorem held_one {i : Nat} {o : Oper} {fuel : Nat} {listed : Array Bool} {a : Act} {w : World} (hr : Region.ready md ops listed = [i]) (ho : ops[i]? = some o) (hg : Region.wanted o (yielded ops a.tmps) = true)
    (h : ∀ K' : Act → World → Prop, (∀ a' w', S w' → wpAnyH P md ops Q S fuel (listed.setIfInBounds i true) a' w' → K' a' w') → o.wp P a w K' Q) :
    wpAnyH P md ops Q S (fuel + 1) listed a w := by
  refine ⟨fun h0 => absurd (hr ▸ h0) (by simp), fun j hj => ?_⟩
  rw [hr] at hj
  obtain rfl := List.mem_singleton.1 hj
  unfold wpOp
  simp only [ho]
  rw [if_pos hg]
  exact .inl (h _ fun a' w' hS hW => ⟨hS, hW⟩)
/-! One operation comes up alone, and is passed over. -/
theorem held_skip {i : Nat} {o : Oper} {fuel : Nat} {listed : Array Bool} {a : Act} {w : World} (hr : Region.ready md ops listed = [i]) (ho : ops[i]? = some o) (hg : Region.wanted o (yielded ops a.tmps) = false)
    (hS : S w) (h : wpAnyH P md ops Q S fuel (listed.setIfInBounds i true) (a.put o.dst undef) w) :
    wpAnyH P md ops Q S (fuel + 1) listed a w := by
  refine ⟨fun h0 => absurd (hr ▸ h0) (by simp), fun j hj => ?_⟩
  rw [hr] at hj
  obtain rfl := List.mem_singleton.1 hj
  unfold wpOp
  simp only [ho]
  rw [if_neg (by simp [hg])]
  exact ⟨hS, h⟩
theorem held_two {i j : Nat} {oi oj : Oper} {fuel : Nat} {listed : Array Bool} {a : Act} {w : World} (hr : Region.ready md ops listed = [i, j]) (hi : ops[i]? = some oi) (hj : ops[j]? = some oj) (hgi : oi.guard = none) (hgj : oj.guard = none)
    (h1 : ∀ K' : Act → World → Prop, (∀ a' w', S w' → wpAnyH P md ops Q S fuel (listed.setIfInBounds i true) a' w' → K' a' w') → oi.wp P a w K' Q)
    (h2 : ∀ K' : Act → World → Prop, (∀ a' w', S w' → wpAnyH P md ops Q S fuel (listed.setIfInBounds j true) a' w' → K' a' w') → oj.wp P a w K' Q) :
    wpAnyH P md ops Q S (fuel + 1) listed a w := by
  refine ⟨fun h0 => absurd (hr ▸ h0) (by simp), fun m hm => ?_⟩
  rw [hr] at hm
  rcases List.mem_cons.1 hm with rfl | hm
  · unfold wpOp
    simp only [hi]
    rw [if_pos (by simp [Region.wanted, hgi])]
    exact .inl (h1 _ fun a' w' hS hW => ⟨hS, hW⟩)
  · obtain rfl := List.mem_singleton.1 hm
    unfold wpOp
    simp only [hj]
    rw [if_pos (by simp [Region.wanted, hgj])]
    exact .inl (h2 _ fun a' w' hS hW => ⟨hS, hW⟩)
theorem noDefer_arr {ops : Array Oper} (h : ops.toList.all noDefer = true) : ∀ (i : Nat) (o : Oper), ops[i]? = some o → ∀ c, o.op ≠ .defer c := by
  intro i o ho c e
  have hm : o ∈ ops.toList := by
    have := Array.mem_of_getElem? ho
    simpa using this
  have := List.all_eq_true.1 h o hm
  simp [noDefer, e] at this
theorem wpIn_held_round {id l n : Nat} {a : Act} {w : World} (S : World → Prop) (hm : P.follows .mixedOrders = true) (hd : ops.toList.all noDefer = true) (hq : ¬ LetsOut Q)
    (h : wpAnyH P .any ops Q S ops.size (Array.replicate ops.size false) a w.drew) : (Code.region id ops true).wpIn (Fence.wide.inRound l) n P Q a w :=
  wpIn_region_any hm (wpAnyIn_of_wpAny l n hq (noDefer_arr hd) _ _ _ _ (wpAny_of_held _ _ _ _ h))
/-! A read is taken first; its place is told. -/
theorem held_take {i : Nat} {oi : Oper} {v : Value} (d : Tmp) {fuel : Nat} {listed : Array Bool} {a : Act} {w : World} (hi : ops[i]? = some oi) (hd : oi.dst = some d)
    (hs : Region.noSelect ops = true) (hf : Region.free md ops listed i = true) (hr : (Region.ready md ops listed).contains i = true)
    (hQ : ∀ c a w, Q (.panic c) (a.put (some d) v) w → Q (.panic c) a w) (hy : YieldsIf P ops S oi v a) (hS : S w)
    (h : wpAnyH P md ops Q S fuel (listed.setIfInBounds i true) (a.put (some d) v) w) : wpAnyH P md ops Q S (fuel + 1) listed a w :=
  wpAnyH_take hi hs hf hr (by rw [hd]; exact hQ) hy hS (by rw [hd]; exact h)
theorem wpIn_till_round {id l n : Nat} {a : Act} {w : World} (S : World → Prop) (n0 : Nat) (hm : P.follows .mixedOrders = true) (hd : ops.toList.all noDefer = true) (hq : ¬ LetsOut Q)
    (h : anyTill P .any ops Q S n0 ops.size (Array.replicate ops.size false) a w.drew) : (Code.region id ops true).wpIn (Fence.wide.inRound l) n P Q a w :=
  wpIn_region_any hm (wpAnyIn_of_wpAny l n hq (noDefer_arr hd) _ _ _ _ (wpAny_of_till _ _ _ _ h))
theorem till_taked {n0 i : Nat} {oi : Oper} {v : Value} (d : Tmp) {fuel : Nat} {listed : Array Bool} {a : Act} {w : World} (hi : ops[i]? = some oi) (hd : oi.dst = some d)
    (hs : Region.noSelect ops = true) (hf : Region.free md ops listed i = true) (hr : (Region.ready md ops listed).contains i = true) (hwait : Region.waitsFor md ops n0 i = true) (hin : decide (i = n0) = false) (hn : listed.getD n0 false = false)
    (hQ : ∀ c a w, Q (.panic c) (a.put (some d) v) w → Q (.panic c) a w) (hy : YieldsIf P ops S oi v a) (hS : S w)
    (h : anyTill P md ops Q S n0 fuel (listed.setIfInBounds i true) (a.put (some d) v) w) : anyTill P md ops Q S n0 (fuel + 1) listed a w :=
  till_take hi hs hf hr hwait hin hn (by rw [hd]; exact hQ) hy hS (by rw [hd]; exact h)
def noPanic (Q : Exit → Act → World → Prop) : Exit → Act → World → Prop
  | .panic _, _, _ => False
  | e, a, w => Q e a w
theorem noPanic_normal {a : Act} {w : World} (h : Q .normal a w) : noPanic Q .normal a w := h
theorem wp_held_np {id : Nat} {a : Act} {w : World} (S : World → Prop) (hm : P.follows .mixedOrders = true)
    (h : wpAnyH P .any ops (noPanic Q) S ops.size (Array.replicate ops.size false) a w.drew) : (Code.region id ops true).wp P Q a w :=
  Code.wp_mono (fun e a w q => by cases e <;> first | exact q | exact q.elim) (wp_region_held hm h)
theorem wpAnyH_two {fuel : Nat} {listed : Array Bool} {a : Act} {w : World} (d4 d5 : Tmp) (B : Nat → Nat → World → Prop)
    (h1 : ∀ g4 g5 W, B g4 g5 W → Q .normal ((a.put (some d4) (.pointer (some ⟨g4, 0, none⟩))).put (some d5) (.pointer (some ⟨g5, 0, none⟩))) W)
    (h2 : (∀ g4 g5 W, B g4 g5 W → Q .normal ((a.put (some d4) (.pointer (some ⟨g4, 0, none⟩))).put (some d5) (.pointer (some ⟨g5, 0, none⟩))) W) → wpAnyH P md ops Q S fuel listed a w) : wpAnyH P md ops Q S fuel listed a w := h2 h1
/-! What is the same wherever the walk of a region ends is shown once. -/
theorem wpAnyH_rest {L : Prop} {fuel : Nat} {listed : Array Bool} {a : Act} {w : World} (h1 : L) (h2 : L → wpAnyH P md ops Q S fuel listed a w) : wpAnyH P md ops Q S fuel listed a w := h2 h1
end
end Go.Proofs.YtjiaepphnddpoaaGreat
