/-
  How Go's data read in Lean: slices of records as lists; small lemmas on memory and on endings. No function of the program is named here.
-/
import Derived.WalkKit
import Derived.WalkSpells
import Derived.WalkLawsBesides
import Derived.Lib.Hide
namespace Go.Proofs.YtjiaepphnddpoaaGreat
open Go.RowKit

theorem ret_int {a b : Int} (h : a = b) : Ending.returned (.int .i64 a) = .returned (.int .i64 b) := by rw [h]
theorem ret_bool {a b : Bool} (h : a = b) : Ending.returned (.bool a) = .returned (.bool b) := by rw [h]
theorem dec_eq {p q : Prop} [Decidable p] [Decidable q] (h : p ↔ q) : decide p = decide q := by simp [h]

theorem bcell {W w1 : World} (hb : Below W.heap.size W w1) : (∀ b o, b < W.heap.size → w1.cell? ⟨b, o, none⟩ = W.cell? ⟨b, o, none⟩) ∧ (∀ b o, b < W.heap.size → w1.frozen? ⟨b, o, none⟩ = W.frozen? ⟨b, o, none⟩) :=
  ⟨fun b o h => hb.cell (p := ⟨b, o, none⟩) h, fun b o h => hb.frozen (p := ⟨b, o, none⟩) h⟩

theorem below_of_drewN {B k : Nat} {w w' : World} (h : Below B (w.drewN k) w') : Below B w w' := ⟨h.os, h.tape, h.output, h.size, h.block⟩
theorem below_of_drew {B : Nat} {w w' : World} (h : Below B w.drew w') : Below B w w' := ⟨h.os, h.tape, h.output, h.size, h.block⟩
theorem below_drewN {B : Nat} {a w : World} (h : Below B a w) (k : Nat) : Below B a (w.drewN k) := ⟨h.os, h.tape, h.output, h.size, h.block⟩
theorem tdiv_spec (n k : Int) (hk : 0 < k) : n = k * n.tdiv k + n.tmod k ∧ (0 ≤ n → 0 ≤ n.tmod k) ∧ (n ≤ 0 → n.tmod k ≤ 0) ∧ n.tmod k < k ∧ -k < n.tmod k :=
  ⟨(Int.mul_tdiv_add_tmod n k).symm, fun h => Int.tmod_nonneg k h, fun h => by have := Int.tmod_nonneg (a := -n) k (by omega); rw [Int.neg_tmod] at this; omega, Int.tmod_lt_of_pos n hk, by have := Int.tmod_lt_of_pos (-n) hk; rw [Int.neg_tmod] at this; omega⟩

/-- What the least whole number above or below a quotient is, once the quotient toward zero is known. -/
theorem ediv_of (n k q r : Int) (hk : 0 < k) (h : n = k * q + r) (h0 : 0 ≤ r) (h1 : r < k) : n / k = q := by
  rw [Int.ediv_eq_iff_of_pos hk]
  have hc := Int.mul_comm k q
  constructor
  · rw [h]; omega
  · rw [h]; omega

/-- The slice 'A, n, c' holds the records xs, each of them s cells as enc lays them, in a block from B on. -/
def SlAt {α : Type} (w : World) (B s : Nat) (enc : α → List Value) (A : Option Addr) (n c : Nat) (xs : List α) : Prop :=
  xs.length = n ∧ n ≤ c ∧ n ≤ 17592186044416 ∧ (0 < n → ∃ b off, A = some ⟨b, off, none⟩ ∧ B ≤ b ∧ b < w.heap.size ∧ ∀ k x, xs[k]? = some x → ∀ j v, (enc x)[j]? = some v → w.cell? ⟨b, off + (k * s + j), none⟩ = some v)

section
variable {α : Type} {w w' : World} {B B' s : Nat} {enc : α → List Value} {A : Option Addr} {n c : Nat} {xs : List α}
theorem SlAt.nil (w : World) (B s : Nat) (enc : α → List Value) : SlAt w B s enc none 0 0 [] := ⟨rfl, Nat.le_refl _, by omega, fun h => absurd h (by omega)⟩
theorem SlAt.len (h : SlAt w B s enc A n c xs) : xs.length = n := h.1
theorem SlAt.le (h : SlAt w B s enc A n c xs) : n ≤ 17592186044416 := h.2.2.1
theorem SlAt.lec (h : SlAt w B s enc A n c xs) : n ≤ c := h.2.1
theorem SlAt.keep (h : SlAt w B s enc A n c xs) (hs : w.heap.size ≤ w'.heap.size) (hk : ∀ p : Addr, B ≤ p.block → p.block < w.heap.size → w'.cell? p = w.cell? p) : SlAt w' B s enc A n c xs := by
  refine ⟨h.1, h.2.1, h.2.2.1, fun hn => ?_⟩
  obtain ⟨b, off, hA, hB, hb, hc⟩ := h.2.2.2 hn
  exact ⟨b, off, hA, hB, by omega, fun k x hx j v hv => (hk _ hB hb).trans (hc k x hx j v hv)⟩
theorem SlAt.below (h : SlAt w B s enc A n c xs) (hb : Below w.heap.size w w') : SlAt w' B s enc A n c xs := h.keep hb.size fun _ _ hp => hb.cell hp
theorem SlAt.alloc (h : SlAt w B s enc A n c xs) (o : Obj) : SlAt (w.alloc o) B s enc A n c xs := h.keep (by simp) fun p _ hp => World.cell?_alloc_lt w o p hp
theorem SlAt.drew (h : SlAt w B s enc A n c xs) : SlAt w.drew B s enc A n c xs := h
theorem SlAt.drewN (h : SlAt w B s enc A n c xs) (k : Nat) : SlAt (w.drewN k) B s enc A n c xs := h
theorem SlAt.setCell (h : SlAt w B s enc A n c xs) {p : Addr} (hp : p.block < B) (u : Value) : SlAt (w.setCell p u) B s enc A n c xs :=
  h.keep (by simp [World.setCell]) fun q hq _ => World.cell?_setCell_other w p q u (fun e => by subst e; omega)
theorem SlAt.mono (h : SlAt w B s enc A n c xs) (hB : B' ≤ B) : SlAt w B' s enc A n c xs := by
  refine ⟨h.1, h.2.1, h.2.2.1, fun hn => ?_⟩
  obtain ⟨b, off, hA, hB, hb, hc⟩ := h.2.2.2 hn
  exact ⟨b, off, hA, by omega, hb, hc⟩
theorem SlAt.at_ (h : SlAt w B s enc A n c xs) {k : Nat} {x : α} (hk : xs[k]? = some x) :
    ∃ b off, A = some ⟨b, off, none⟩ ∧ B ≤ b ∧ b < w.heap.size ∧ ∀ j v, (enc x)[j]? = some v → w.cell? ⟨b, off + (k * s + j), none⟩ = some v := by
  have hl : k < xs.length := (List.getElem?_eq_some_iff.1 hk).1
  obtain ⟨hn, _, _, h⟩ := h
  obtain ⟨b, off, hA, hB, hb, hc⟩ := h (by omega)
  exact ⟨b, off, hA, hB, hb, hc k x hk⟩
/-- A row of the call's own, read as a slice. -/
theorem SlAt.of_own {base : Nat} {e : TypeId} {v : Value} {n : Nat} {ys : List Value} (h : w.ownsRow base e s v n ys) (hn : n ≤ 17592186044416) (xs : List α) (hx : ys = xs.flatMap enc) (he : ∀ x, (enc x).length = s) (hl : xs.length = n) :
    ∃ A c, v = .slice A n c ∧ SlAt w base s enc A n c xs := by
  rcases h.2 with ⟨rfl, rfl⟩ | ⟨g, cap, cur, rfl, hb, hg, hnc, hcm, hcs, htake⟩
  · exact ⟨none, 0, rfl, hl, Nat.le_refl _, by omega, fun h => absurd h (by omega)⟩
  · refine ⟨_, _, rfl, hl, hnc, hn, fun _ => ⟨g, 0, rfl, hb, (Array.getElem?_eq_some_iff.1 hg).1, fun k x hk j u hu => ?_⟩⟩
    have hj : j < s := by rw [← he x]; exact (List.getElem?_eq_some_iff.1 hu).1
    have hk' : k < xs.length := (List.getElem?_eq_some_iff.1 hk).1
    have hcell : w.cell? ⟨g, 0 + (k * s + j), none⟩ = cur[k * s + j]? := by rw [Nat.zero_add]; exact cell_of_row w g _ cur e (0, 0) hg
    rw [hcell]
    have h1 : ys[k * s + j]? = some u := by
      subst hx
      clear hcell htake hcs hg h hl hn hnc
      induction xs generalizing k with
      | nil => simp at hk
      | cons y xs ih =>
        cases k with
        | zero =>
          simp at hk; subst hk
          rw [List.flatMap_cons, List.getElem?_append_left (by rw [he]; omega)]
          simpa using hu
        | succ k =>
          rw [List.flatMap_cons, List.getElem?_append_right (by rw [he, Nat.add_mul]; omega)]
          rw [he, show (k + 1) * s + j - s = k * s + j from by rw [Nat.add_mul]; omega]
          exact ih k (by simpa using hk) (by simpa using hk')
    rw [← htake, List.getElem?_take] at h1
    split at h1
    · simpa using h1
    · cases h1
end

/-- A number in one cell. -/
def ivs (n : Int) : List Value := [.int .i64 n]
abbrev IntsAt (w : World) (B : Nat) (A : Option Addr) (n c : Nat) (xs : List Int) : Prop := SlAt w B 1 ivs A n c xs
theorem SlAt.int {w : World} {B n c k : Nat} {A : Option Addr} {xs : List Int} {x : Int} (h : SlAt w B 1 ivs A n c xs) (hk : xs[k]? = some x) :
    ∃ b off, A = some ⟨b, off, none⟩ ∧ B ≤ b ∧ b < w.heap.size ∧ w.cell? ⟨b, off + k, none⟩ = some (.int .i64 x) := by
  obtain ⟨b, off, hA, hB, hb, hc⟩ := h.at_ hk
  refine ⟨b, off, hA, hB, hb, ?_⟩
  have := hc 0 _ rfl
  simpa using this

/-- api.Bound. -/
structure Bnd where
  lo : Int
  hi : Int
  deriving DecidableEq
def Bnd.cells (x : Bnd) : List Value := [.int .i64 x.lo, .int .i64 x.hi]
theorem SlAt.bnd {w : World} {B n c k : Nat} {A : Option Addr} {xs : List Bnd} {x : Bnd} (h : SlAt w B 2 Bnd.cells A n c xs) (hk : xs[k]? = some x) :
    ∃ b off, A = some ⟨b, off, none⟩ ∧ B ≤ b ∧ b < w.heap.size ∧ w.cell? ⟨b, off + k * 2, none⟩ = some (.int .i64 x.lo) ∧ w.cell? ⟨b, off + k * 2 + 1, none⟩ = some (.int .i64 x.hi) := by
  obtain ⟨b, off, hA, hB, hb, hc⟩ := h.at_ hk
  exact ⟨b, off, hA, hB, hb, hc 0 _ rfl, hc 1 _ rfl⟩

/-- api.Section. -/
structure Sec where
  len : Int
  fol : Int
  bird : Int
  drag : Int
  cap : Int
  deriving DecidableEq
def Sec.cells (x : Sec) : List Value := [.int .i64 x.len, .int .i64 x.fol, .int .i64 x.bird, .int .i64 x.drag, .int .i64 x.cap]
theorem SlAt.sec {w : World} {B n c k : Nat} {A : Option Addr} {xs : List Sec} {x : Sec} (h : SlAt w B 5 Sec.cells A n c xs) (hk : xs[k]? = some x) :
    ∃ b off, A = some ⟨b, off, none⟩ ∧ B ≤ b ∧ b < w.heap.size ∧ w.cell? ⟨b, off + k * 5, none⟩ = some (.int .i64 x.len) ∧ w.cell? ⟨b, off + k * 5 + 1, none⟩ = some (.int .i64 x.fol)
      ∧ w.cell? ⟨b, off + k * 5 + 2, none⟩ = some (.int .i64 x.bird) ∧ w.cell? ⟨b, off + k * 5 + 3, none⟩ = some (.int .i64 x.drag) ∧ w.cell? ⟨b, off + k * 5 + 4, none⟩ = some (.int .i64 x.cap) := by
  obtain ⟨b, off, hA, hB, hb, hc⟩ := h.at_ hk
  exact ⟨b, off, hA, hB, hb, hc 0 _ rfl, hc 1 _ rfl, hc 2 _ rfl, hc 3 _ rfl, hc 4 _ rfl⟩

/-- api.Streamer. -/
structure Strm where
  head : Int
  secs : List Sec
  lane : Bnd
  bend : Int

/-- api.Water. -/
structure Wat where
  acr : Bnd
  alo : Bnd
  deriving DecidableEq
def Wat.cells (x : Wat) : List Value := [.int .i64 x.acr.lo, .int .i64 x.acr.hi, .int .i64 x.alo.lo, .int .i64 x.alo.hi]
theorem SlAt.wat {w : World} {B n c k : Nat} {A : Option Addr} {xs : List Wat} {x : Wat} (h : SlAt w B 4 Wat.cells A n c xs) (hk : xs[k]? = some x) :
    ∃ b off, A = some ⟨b, off, none⟩ ∧ B ≤ b ∧ b < w.heap.size ∧ w.cell? ⟨b, off + k * 4, none⟩ = some (.int .i64 x.acr.lo) ∧ w.cell? ⟨b, off + k * 4 + 1, none⟩ = some (.int .i64 x.acr.hi)
      ∧ w.cell? ⟨b, off + k * 4 + 2, none⟩ = some (.int .i64 x.alo.lo) ∧ w.cell? ⟨b, off + k * 4 + 3, none⟩ = some (.int .i64 x.alo.hi) := by
  obtain ⟨b, off, hA, hB, hb, hc⟩ := h.at_ hk
  exact ⟨b, off, hA, hB, hb, hc 0 _ rfl, hc 1 _ rfl, hc 2 _ rfl, hc 3 _ rfl⟩

/-- api.Region; its bounds one behind the other. -/
structure Reg where
  x : Bnd
  y : Bnd
  s : Bnd
  d : Bnd
  deriving DecidableEq
def Reg.cells (r : Reg) : List Value := [.int .i64 r.x.lo, .int .i64 r.x.hi, .int .i64 r.y.lo, .int .i64 r.y.hi, .int .i64 r.s.lo, .int .i64 r.s.hi, .int .i64 r.d.lo, .int .i64 r.d.hi]
theorem SlAt.reg {w : World} {B n c k : Nat} {A : Option Addr} {xs : List Reg} {x : Reg} (h : SlAt w B 8 Reg.cells A n c xs) (hk : xs[k]? = some x) :
    ∃ b off, A = some ⟨b, off, none⟩ ∧ B ≤ b ∧ b < w.heap.size ∧ w.cell? ⟨b, off + k * 8, none⟩ = some (.int .i64 x.x.lo) ∧ w.cell? ⟨b, off + k * 8 + 1, none⟩ = some (.int .i64 x.x.hi)
      ∧ w.cell? ⟨b, off + k * 8 + 2, none⟩ = some (.int .i64 x.y.lo) ∧ w.cell? ⟨b, off + k * 8 + 3, none⟩ = some (.int .i64 x.y.hi) ∧ w.cell? ⟨b, off + k * 8 + 4, none⟩ = some (.int .i64 x.s.lo) ∧ w.cell? ⟨b, off + k * 8 + 5, none⟩ = some (.int .i64 x.s.hi)
      ∧ w.cell? ⟨b, off + k * 8 + 6, none⟩ = some (.int .i64 x.d.lo) ∧ w.cell? ⟨b, off + k * 8 + 7, none⟩ = some (.int .i64 x.d.hi) := by
  obtain ⟨b, off, hA, hB, hb, hc⟩ := h.at_ hk
  exact ⟨b, off, hA, hB, hb, hc 0 _ rfl, hc 1 _ rfl, hc 2 _ rfl, hc 3 _ rfl, hc 4 _ rfl, hc 5 _ rfl, hc 6 _ rfl, hc 7 _ rfl⟩

/-- api.Point. -/
structure Pnt where
  x : Int
  y : Int
  deriving DecidableEq
def Pnt.cells (p : Pnt) : List Value := [.int .i64 p.x, .int .i64 p.y]
theorem SlAt.pnt {w : World} {B n c k : Nat} {A : Option Addr} {xs : List Pnt} {x : Pnt} (h : SlAt w B 2 Pnt.cells A n c xs) (hk : xs[k]? = some x) :
    ∃ b off, A = some ⟨b, off, none⟩ ∧ B ≤ b ∧ b < w.heap.size ∧ w.cell? ⟨b, off + k * 2, none⟩ = some (.int .i64 x.x) ∧ w.cell? ⟨b, off + k * 2 + 1, none⟩ = some (.int .i64 x.y) := by
  obtain ⟨b, off, hA, hB, hb, hc⟩ := h.at_ hk
  exact ⟨b, off, hA, hB, hb, hc 0 _ rfl, hc 1 _ rfl⟩

theorem ownsRow_below {w w' : World} {base : Nat} {e : TypeId} {size : Nat} {v : Value} {n : Nat} {xs : List Value} (h : w.ownsRow base e size v n xs) (hb : Below w.heap.size w w') : w'.ownsRow base e size v n xs :=
  h.kept (row := none) ⟨hb.os, hb.tape, hb.output, hb.size, fun k hk _ => hb.block k hk⟩ (by cases hv : v.ownBlock <;> simp)
theorem own_cell {w : World} {base : Nat} {e : TypeId} {size g n cap : Nat} {xs : List Value} (h : w.ownsRow base e size (.slice (some ⟨g, 0, none⟩) n cap) n xs) {j : Nat} (hj : j < n * size) : ∃ v, w.cell? ⟨g, j, none⟩ = some v := by
  rw [h.cellAt j hj]
  exact ⟨_, List.getElem?_eq_getElem (by rw [h.1]; exact hj)⟩
theorem madeCells_int (n : Nat) : (madeCells (Value.int .i64 0).cells (n * 1)).toList = List.replicate n (.int .i64 0) := by rw [Nat.mul_one]; exact toList_madeCells_one _ _
/-- Block g holds just these cells. -/
def Blk (w : World) (g : Nat) (t : TypeId) (cs : Array Value) : Prop := w.heap[g]? = some (.cells cs t (0, 0))
section
variable {w w' : World} {g : Nat} {t : TypeId} {cs : Array Value}
theorem Blk.lt (h : Blk w g t cs) : g < w.heap.size := (Array.getElem?_eq_some_iff.1 h).1
theorem Blk.cell (h : Blk w g t cs) (i : Nat) : w.cell? ⟨g, i, none⟩ = cs[i]? := cell_of_row w g i cs t (0, 0) h
theorem Blk.frozen (h : Blk w g t cs) (i : Nat) : w.frozen? ⟨g, i, none⟩ = false := by
  unfold Blk at h
  simp [World.frozen?, h]
theorem Blk.rules (h : Blk w g t cs) : (∀ i, w.cell? ⟨g, i, none⟩ = cs[i]?) ∧ (∀ i, w.frozen? ⟨g, i, none⟩ = false) ∧ g < w.heap.size := ⟨h.cell, h.frozen, h.lt⟩
theorem Blk.new (w : World) (t : TypeId) (cs : Array Value) : Blk (w.alloc (.cells cs t)) w.heap.size t cs := heap_alloc_new w _
theorem Blk.drew (h : Blk w g t cs) : Blk w.drew g t cs := h
theorem Blk.drewN (h : Blk w g t cs) (n : Nat) : Blk (w.drewN n) g t cs := h
theorem Blk.alloc (h : Blk w g t cs) (o : Obj) : Blk (w.alloc o) g t cs := (Below.heap_alloc w o g h.lt).trans h
theorem Blk.set_ (h : Blk w g t cs) (i : Nat) (u : Value) : Blk (w.setCell ⟨g, i, none⟩ u) g t (cs.setIfInBounds i u) := by
  unfold Blk at h ⊢
  simp [World.setCell, Array.getElem?_modify, h]
theorem Blk.far (h : Blk w g t cs) {p : Addr} (hp : g ≠ p.block) (u : Value) : Blk (w.setCell p u) g t cs := (Below.heap_setCell w p u g hp).trans h
theorem Blk.below (h : Blk w g t cs) (hb : Below w.heap.size w w') : Blk w' g t cs := (hb.block g h.lt).trans h
theorem Blk.belowB {B : Nat} (h : Blk w g t cs) (hb : Below B w w') (hg : g < B) : Blk w' g t cs := (hb.block g hg).trans h
theorem Blk.grown {row : Option Nat} (h : Blk w g t cs) (hb : w.grownBy w' row) (hg : some g ≠ row) : Blk w' g t cs := (hb.block g h.lt hg).trans h
end
end Go.Proofs.YtjiaepphnddpoaaGreat
