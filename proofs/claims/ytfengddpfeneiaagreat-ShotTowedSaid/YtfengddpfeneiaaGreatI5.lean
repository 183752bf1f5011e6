/-
  A variable that holds a list of lists, which a function that calls itself appends to.
-/
import Derived.Test.YtfengddpfeneiaaGreatI2
namespace Go.Proofs.YtfengddpfeneiaaGreat
open Go.RowKit Go.Shelf
set_option linter.unusedSimpArgs false
set_option linter.unusedVariables false

theorem SlAt.keepB {α : Type} {w w' : World} {B s : Nat} {enc : α → List Value} {A : Option Addr} {n c : Nat} {xs : List α} (h : SlAt w B s enc A n c xs) (hs : w.heap.size ≤ w'.heap.size) (hk : ∀ b o, A = some ⟨b, o, none⟩ → w'.heap[b]? = w.heap[b]?) : SlAt w' B s enc A n c xs := by
  refine ⟨h.1, h.2.1, h.2.2.1, fun hn => ?_⟩
  obtain ⟨b, off, hA, hB, hb, hc⟩ := h.2.2.2 hn
  refine ⟨b, off, hA, hB, Nat.lt_of_lt_of_le hb hs, fun k x hx j v hv => ?_⟩
  rw [World.cell?_of_block (w := w) (hk b off hA)]
  exact hc k x hx j v hv
theorem SlAt.blk {α : Type} {w : World} {B s : Nat} {enc : α → List Value} {A : Option Addr} {n c : Nat} {xs : List α} (h : SlAt w B s enc A n c xs) (hn : 0 < n) : ∀ b o, A = some ⟨b, o, none⟩ → B ≤ b ∧ b < w.heap.size := by
  intro b o hA
  obtain ⟨b', o', hA', h1, h2, -⟩ := h.2.2.2 hn
  rw [hA] at hA'
  simp only [Option.some.injEq, Addr.mk.injEq, and_true] at hA'
  obtain ⟨rfl, rfl⟩ := hA'
  exact ⟨h1, h2⟩
/-- An element of the list of lists: a list of one's own, apart from the row of the elements. -/
def ElmAt (w : World) (B0 : Nat) (row : Option Nat) (v : Value) (l : List Int) : Prop :=
  ∃ b m d, v = .slice (some ⟨b, 0, none⟩) m d ∧ SlAt w B0 1 ivs (some ⟨b, 0, none⟩) m d l ∧ 0 < m ∧ row ≠ some b
/-- The variable at g holds these lists. -/
def OutI (W : World) (g B0 : Nat) (O : Option Addr) (no co : Nat) (L : List (List Int)) : Prop :=
  Blk W g 88 #[.slice O no co] ∧ L.length = no ∧ ∃ vs : List Value, W.ownsRow B0 36 1 (.slice O no co) no vs ∧ ∀ (i : Nat) (v : Value) (l : List Int), vs[i]? = some v → L[i]? = some l → ElmAt W B0 (Value.slice O no co).ownBlock v l
theorem ElmAt.keep {w w' : World} {B0 : Nat} {row : Option Nat} {v : Value} {l : List Int} (h : ElmAt w B0 row v l) (hs : w.heap.size ≤ w'.heap.size) (hk : ∀ b, B0 ≤ b → b < w.heap.size → row ≠ some b → w'.heap[b]? = w.heap[b]?) : ElmAt w' B0 row v l := by
  obtain ⟨b, m, d, rfl, h1, h2, h3⟩ := h
  refine ⟨b, m, d, rfl, h1.keepB hs fun b' o e => ?_, h2, h3⟩
  simp only [Option.some.injEq, Addr.mk.injEq, and_true] at e
  obtain ⟨rfl, rfl⟩ := e
  have := h1.blk h2 b 0 rfl
  exact hk b this.1 this.2 h3
theorem OutI.below {W W' : World} {g B0 : Nat} {O : Option Addr} {no co : Nat} {L : List (List Int)} (h : OutI W g B0 O no co L) (hb : Below W.heap.size W W') : OutI W' g B0 O no co L := by
  obtain ⟨h1, h2, vs, h3, h4⟩ := h
  exact ⟨h1.below hb, h2, vs, ownsRow_below h3 hb, fun i v l hv hl => (h4 i v l hv hl).keep hb.size fun b _ hlt _ => hb.block b hlt⟩
/-- What a call of the search turns: the variable at g and the row that it held; all else lies as it lay. -/
def SrFr (g : Nat) (row : Option Nat) (W W' : World) : Prop :=
  W'.os = W.os ∧ W'.tape = W.tape ∧ W'.output = W.output ∧ W.heap.size ≤ W'.heap.size ∧ ∀ k, k < W.heap.size → k ≠ g → row ≠ some k → W'.heap[k]? = W.heap[k]?
theorem SrFr.of_below {g : Nat} {row : Option Nat} {W W' : World} (h : Below W.heap.size W W') : SrFr g row W W' := ⟨h.os, h.tape, h.output, h.size, fun k hk _ _ => h.block k hk⟩
theorem SrFr.refl (g : Nat) (row : Option Nat) (W : World) : SrFr g row W W := ⟨rfl, rfl, rfl, Nat.le_refl _, fun _ _ _ _ => rfl⟩
theorem SrFr.trans {g : Nat} {r1 r2 : Option Nat} {A C D : World} (h : SrFr g r1 A C) (k : SrFr g r2 C D) (hr : ∀ b, r2 = some b → r1 = some b ∨ A.heap.size ≤ b) : SrFr g r1 A D := by
  obtain ⟨h1, h2, h3, h4, h5⟩ := h
  obtain ⟨k1, k2, k3, k4, k5⟩ := k
  refine ⟨k1.trans h1, k2.trans h2, k3.trans h3, Nat.le_trans h4 k4, fun i hi hg hr1 => ?_⟩
  refine (k5 i (by omega) hg fun e => ?_).trans (h5 i hi hg hr1)
  rcases hr i e with h | h
  · exact hr1 h
  · omega
/-- Below B, but for the variable, nothing has turned. -/
theorem SrFr.low {g B0 : Nat} {row : Option Nat} {W W' : World} (h : SrFr g row W W') (hB : B0 ≤ W.heap.size) (hr : ∀ b, row = some b → B0 ≤ b) : ∀ k, k < B0 → k ≠ g → W'.heap[k]? = W.heap[k]? := fun k hk hg => h.2.2.2.2 k (by omega) hg fun e => by have := hr k e; omega
theorem SrFr.sl {g : Nat} {row : Option Nat} {W W' : World} (h : SrFr g row W W') {α : Type} {B s : Nat} {enc : α → List Value} {A : Option Addr} {n c : Nat} {xs : List α} (k : SlAt W B s enc A n c xs) (hA : 0 < n → ∀ b o, A = some ⟨b, o, none⟩ → b ≠ g ∧ row ≠ some b) : SlAt W' B s enc A n c xs := by
  by_cases hn : 0 < n
  · exact k.keepB h.2.2.2.1 fun b o e => h.2.2.2.2 b (k.blk hn b o e).2 (hA hn b o e).1 (hA hn b o e).2
  · exact ⟨k.1, k.2.1, k.2.2.1, fun h => absurd h hn⟩
theorem SrFr.blk {g : Nat} {row : Option Nat} {W W' : World} (h : SrFr g row W W') {q : Nat} {t : TypeId} {cs : Array Value} (k : Blk W q t cs) (h1 : q ≠ g) (h2 : row ≠ some q) : Blk W' q t cs := (h.2.2.2.2 q k.lt h1 h2).trans k
/-- A list of lists, as it is handed back. -/
def LLs (W : World) (B : Nat) (O : Option Addr) (no co : Nat) (L : List (List Int)) : Prop :=
  L.length = no ∧ ∃ vs : List Value, SlAt W B 1 (fun v => [v]) O no co vs ∧ ∀ (i : Nat) (v : Value) (l : List Int), vs[i]? = some v → L[i]? = some l → ∃ A m d, v = .slice A m d ∧ SlAt W B 1 ivs A m d l
theorem flatMap_self (vs : List Value) : vs.flatMap (fun v => [v]) = vs := by
  induction vs with
  | nil => rfl
  | cons x xs ih => rw [List.flatMap_cons, ih]; rfl
theorem OutI.lls {W : World} {g B0 : Nat} {O : Option Addr} {no co : Nat} {L : List (List Int)} (h : OutI W g B0 O no co L) (hn : no ≤ 17592186044416) : LLs W B0 O no co L := by
  obtain ⟨h1, h2, vs, h3, h4⟩ := h
  have hvl : vs.length = no := by have := h3.1; omega
  obtain ⟨A, c, e, h5⟩ := SlAt.of_own (enc := fun v => [v]) h3 hn vs (flatMap_self vs).symm (fun _ => rfl) hvl
  simp only [Value.slice.injEq, true_and] at e
  obtain ⟨rfl, rfl⟩ := e
  exact ⟨h2, vs, h5, fun i v l hv hl => by obtain ⟨b, m, d, e1, e2, -, -⟩ := h4 i v l hv hl; exact ⟨_, m, d, e1, e2⟩⟩
theorem LLs.below {W W' : World} {B : Nat} {O : Option Addr} {no co : Nat} {L : List (List Int)} (h : LLs W B O no co L) (hb : Below W.heap.size W W') : LLs W' B O no co L := by
  obtain ⟨h1, vs, h2, h3⟩ := h
  exact ⟨h1, vs, h2.below hb, fun i v l hv hl => by obtain ⟨A, m, d, e1, e2⟩ := h3 i v l hv hl; exact ⟨A, m, d, e1, e2.below hb⟩⟩
theorem LLs.mono {W : World} {B B' : Nat} {O : Option Addr} {no co : Nat} {L : List (List Int)} (h : LLs W B O no co L) (hb : B' ≤ B) : LLs W B' O no co L := by
  obtain ⟨h1, vs, h2, h3⟩ := h
  exact ⟨h1, vs, h2.mono hb, fun i v l hv hl => by obtain ⟨A, m, d, e1, e2⟩ := h3 i v l hv hl; exact ⟨A, m, d, e1, e2.mono hb⟩⟩
theorem LLs.nil (W : World) (B : Nat) : LLs W B none 0 0 [] := ⟨rfl, [], SlAt.nil _ _ _ _, fun i v l hv => by simp at hv⟩
end Go.Proofs.YtfengddpfeneiaaGreat
