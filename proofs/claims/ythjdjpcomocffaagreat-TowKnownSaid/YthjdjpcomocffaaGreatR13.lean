/-
  Walks: what the chapter says of headings and of turned regions.
-/
import Derived.Test.YthjdjpcomocffaaGreatN4
import Derived.Test.YthjdjpcomocffaaGreatR1
namespace Go.Proofs.YthjdjpcomocffaaGreat
open Go.RowKit Go.Shelf
set_option linter.unusedSimpArgs false
set_option linter.unusedVariables false

theorem abs_of_sq {p c s : Int} (hc : 0 ≤ c) (hs : 0 ≤ s) (h : p * p + s = c * c) : -c ≤ p ∧ p ≤ c := by
  constructor
  · rcases Int.lt_or_le p (-c) with h1 | h1
    · have := Int.mul_le_mul (show c + 1 ≤ -p by omega) (show c + 1 ≤ -p by omega) (by omega) (by omega)
      rw [Int.neg_mul_neg] at this
      have : (c + 1) * (c + 1) = c * c + 2 * c + 1 := by simp only [Int.add_mul, Int.mul_add]; omega
      omega
    · exact h1
  · rcases Int.lt_or_le c p with h1 | h1
    · have := Int.mul_le_mul (show c + 1 ≤ p by omega) (show c + 1 ≤ p by omega) (by omega) (by omega)
      have : (c + 1) * (c + 1) = c * c + 2 * c + 1 := by simp only [Int.add_mul, Int.mul_add]; omega
      omega
    · exact h1
theorem sq_nonneg (p : Int) : 0 ≤ p * p := by
  rcases Int.le_total 0 p with g | g
  · exact Int.mul_nonneg g g
  · exact Int.mul_nonneg_of_nonpos_of_nonpos g g
theorem sq_1000 {p : Int} (h : -1000 ≤ p ∧ p ≤ 1000) : p * p ≤ 1000000 := by
  have := smul_bd (a := p) (b := p) (A := 1000) (B := 1000) (by omega) (by omega) (by omega) (by omega)
  omega
structure Apart (g : Nat) (w w' : World) : Prop where
  low : Below g w w'
  far : ∀ b, g < b → b < w.heap.size → w'.heap[b]? = w.heap[b]?
theorem Apart.refl (g : Nat) (w : World) : Apart g w w := ⟨Below.refl _ _, fun _ _ _ => rfl⟩
theorem Apart.trans {g : Nat} {w w1 w2 : World} (h1 : Apart g w w1) (h2 : Apart g w1 w2) : Apart g w w2 :=
  ⟨h1.low.trans h2.low, fun b hb hl => (h2.far b hb (Nat.lt_of_lt_of_le hl h1.low.size)).trans (h1.far b hb hl)⟩
theorem Apart.of {g : Nat} {w w' : World} (h : Below w.heap.size w w') (hg : g ≤ w.heap.size) : Apart g w w' :=
  ⟨h.mono hg, fun b _ hl => h.block b hl⟩
theorem Apart.blk {g b : Nat} {w w' : World} {t : TypeId} {cs : Array Value} (h : Apart g w w') (k : Blk w b t cs) (hb : b ≠ g) : Blk w' b t cs := by
  rcases Nat.lt_or_gt_of_ne hb with h1 | h1
  · exact (h.low.block b h1).trans k
  · exact (h.far b h1 k.lt).trans k
theorem Apart.set {g : Nat} {w w' : World} (h : Apart g w w') (i : Nat) (u : Value) : Apart g w (w'.setCell ⟨g, i, none⟩ u) :=
  ⟨h.low.setCell (p := ⟨g, i, none⟩) (Nat.le_refl g) u, fun b hb hl => (Below.heap_setCell w' ⟨g, i, none⟩ u b (by dsimp only; omega)).trans (h.far b hb hl)⟩
theorem Apart.set8 {g : Nat} {w w' : World} (h : Apart g w w') (v0 v1 v2 v3 v4 v5 v6 v7 : Value) : Apart g w (set8 w' g v0 v1 v2 v3 v4 v5 v6 v7) :=
  (((((((h.set 0 v0).set 1 v1).set 2 v2).set 3 v3).set 4 v4).set 5 v5).set 6 v6).set 7 v7
theorem Blk.set8h {w : World} {g : Nat} {t : TypeId} {a0 a1 a2 a3 a4 a5 a6 a7 a8 : Value} (h : Blk w g t #[a0, a1, a2, a3, a4, a5, a6, a7, a8]) (v0 v1 v2 v3 v4 v5 v6 v7 : Value) : Blk (Go.Proofs.YthjdjpcomocffaaGreat.set8 w g v0 v1 v2 v3 v4 v5 v6 v7) g t #[v0, v1, v2, v3, v4, v5, v6, v7, a8] := by
  have k := (((((((h.set_ 0 v0).set_ 1 v1).set_ 2 v2).set_ 3 v3).set_ 4 v4).set_ 5 v5).set_ 6 v6).set_ 7 v7
  simp only [List.setIfInBounds_toArray, List.set_cons_zero, List.set_cons_succ] at k
  exact k
theorem wp_till_np {P : Program} {ops : Array Oper} {Q : Exit → Act → World → Prop} {id : Nat} {a : Act} {w : World} (S : World → Prop) (n0 : Nat) (hm : P.follows .mixedOrders = true)
    (h : anyTill P .any ops (noPanic Q) S n0 ops.size (Array.replicate ops.size false) a w.drew) : (Code.region id ops true).wp P Q a w :=
  Code.wp_mono (fun e a w q => by cases e <;> first | exact q | exact q.elim) (wp_region_any hm (wpAny_of_till _ _ _ _ h))
def hullA (o : Option Reg) : Array Value := #[.int .i64 (optR o).x.lo, .int .i64 (optR o).x.hi, .int .i64 (optR o).y.lo, .int .i64 (optR o).y.hi, .int .i64 (optR o).s.lo, .int .i64 (optR o).s.hi, .int .i64 (optR o).d.lo, .int .i64 (optR o).d.hi, .bool o.isSome]
end Go.Proofs.YthjdjpcomocffaaGreat
