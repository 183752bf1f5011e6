/-
  How Go's data read in Lean: slices of records as lists; small lemmas on memory and on endings. No function of the program is named here.
  What the chapter on streamers says, as plain functions on lists of numbers. Nothing of the program stands here.
  What the chapters say on regions, nodes and headings, as plain functions. Nothing of the program stands here.
  A region that draws, reads cells, and stores into them at its end: what the reads lean on is asked only until the first store has come up.
  A law of our own for a range over a function: what is yielded may lie in memory that the iterator has made; rounds are counted.
  A region that draws, within a round of a loop over an iterator, by the plain laws.
  A region that draws, walked by hand: reads that nobody in the region disturbs are taken first; the others as they come up. In a function and in a round.
  A region that draws, whose ends are alike but for where its new blocks lie: what follows is shown once.
-/
import Derived.WalkKit
import Derived.WalkSpells
import Derived.WalkLawsBesides
import Derived.Lib.Hide
import Derived.OrdersHeld
import Derived.StillTail
import Derived.StillTailTactics
import Derived.RangeFuncNested
import Derived.RangeFuncBound
import Derived.RangeFuncCalls
import Derived.RangeFuncLeaves
import Derived.Shelf.Abstract
import Derived.Shelf.RegionOpen
import Derived.OwnWalkIn
import Derived.TacticsInMore
import Derived.LoopNIn
import Derived.LoopIn
import Derived.OrdersIn
import Derived.Deep.Quiet
import Derived.Deep.QuietTactic
import Derived.BigQuiet
set_option maxRecDepth 100000
set_option maxHeartbeats 16000000
set_option linter.unusedSimpArgs false
set_option linter.unusedVariables false
namespace Go.Proofs.YtcmbmmpihiekhaaGreat
open Go.RowKit

theorem ret_int {a b : Int} (h : a = b) : Ending.returned (.int .i64 a) = .returned (.int .i64 b) := by rw [h]
theorem ret_bool {a b : Bool} (h : a = b) : Ending.returned (.bool a) = .returned (.bool b) := by rw [h]
theorem dec_eq {p q : Prop} [Decidable p] [Decidable q] (h : p ↔ q) : decide p = decide q := by simp [h]

theorem bcell {W w1 : World} (hb : Below W.heap.size W w1) : (∀ b o, b < W.heap.size → w1.cell? ⟨b, o, none⟩ = W.cell? ⟨b, o, none⟩) ∧ (∀ b o, b < W.heap.size → w1.frozen? ⟨b, o, none⟩ = W.frozen? ⟨b, o, none⟩) :=
  ⟨fun b o h => hb.cell (p := ⟨b, o, none⟩) h, fun b o h => hb.frozen (p := ⟨b, o, none⟩) h⟩

theorem below_of_drewN {B k : Nat} {w w' : World} (h : Below B (w.drewN k) w') : Below B w w' := ⟨h.os, h.tape, h.output, h.size, h.block⟩
theorem below_of_drew {B : Nat} {w w' : World} (h : Below B w.drew w') : Below B w w' := ⟨h.os, h.tape, h.output, h.size, h.block⟩
theorem below_drewN {B : Nat} {a w : World} (h : Below B a w) (k : Nat) : Below B a (w.drewN k) := ⟨h.os, h.tape, h.output, h.size, h.block⟩
theorem tdiv_spec (n k : Int) (hk : 0 < k) : n = k * n.tdiv k + n.tmod k ∧ (0 ≤ n → 0 ≤ n.tmod k) ∧ (n ≤ 0 → n.tmod k ≤ 0) ∧ n.tmod k < k ∧ -k < n.tmod k :=
  ⟨(Int.mul_tdiv_add_tmod n k).symm, fun h => Int.tmod_nonneg k h, fun h => by have := Int.tmod_nonneg (a := -n) k (by omega); rw [Int.neg_tmod] at this; omega, Int.tmod_lt_of_pos n hk, by have := Int.tmod_lt_of_pos (-n) hk; rw [Int.neg_tmod] at this; omega⟩

/-- What the least whole number above or below a quotient is, once the quotient toward zero is known. -/
theorem ediv_of (n k q r : Int) (hk : 0 < k) (h : n = k * q + r) (h0 : 0 ≤ r) (h1 : r < k) : n / k = q := by
  rw [Int.ediv_eq_iff_of_pos hk]
  have hc := Int.mul_comm k q
  constructor
  · rw [h]; omega
  · rw [h]; omega

/-- The slice 'A, n, c' holds the records xs, each of them s cells as enc lays them, in a block from B on. -/
def SlAt {α : Type} (w : World) (B s : Nat) (enc : α → List Value) (A : Option Addr) (n c : Nat) (xs : List α) : Prop :=
  xs.length = n ∧ n ≤ c ∧ n ≤ 17592186044416 ∧ (0 < n → ∃ b off, A = some ⟨b, off, none⟩ ∧ B ≤ b ∧ b < w.heap.size ∧ ∀ k x, xs[k]? = some x → ∀ j v, (enc x)[j]? = some v → w.cell? ⟨b, off + (k * s + j), none⟩ = some v)

section
variable {α : Type} {w w' : World} {B B' s : Nat} {enc : α → List Value} {A : Option Addr} {n c : Nat} {xs : List α}
theorem SlAt.nil (w : World) (B s : Nat) (enc : α → List Value) : SlAt w B s enc none 0 0 [] := ⟨rfl, Nat.le_refl _, by omega, fun h => absurd h (by omega)⟩
theorem SlAt.len (h : SlAt w B s enc A n c xs) : xs.length = n := h.1
theorem SlAt.le (h : SlAt w B s enc A n c xs) : n ≤ 17592186044416 := h.2.2.1
theorem SlAt.lec (h : SlAt w B s enc A n c xs) : n ≤ c := h.2.1
theorem SlAt.keep (h : SlAt w B s enc A n c xs) (hs : w.heap.size ≤ w'.heap.size) (hk : ∀ p : Addr, B ≤ p.block → p.block < w.heap.size → w'.cell? p = w.cell? p) : SlAt w' B s enc A n c xs := by
  refine ⟨h.1, h.2.1, h.2.2.1, fun hn => ?_⟩
  obtain ⟨b, off, hA, hB, hb, hc⟩ := h.2.2.2 hn
  exact ⟨b, off, hA, hB, by omega, fun k x hx j v hv => (hk _ hB hb).trans (hc k x hx j v hv)⟩
theorem SlAt.below (h : SlAt w B s enc A n c xs) (hb : Below w.heap.size w w') : SlAt w' B s enc A n c xs := h.keep hb.size fun _ _ hp => hb.cell hp
theorem SlAt.alloc (h : SlAt w B s enc A n c xs) (o : Obj) : SlAt (w.alloc o) B s enc A n c xs := h.keep (by simp) fun p _ hp => World.cell?_alloc_lt w o p hp
theorem SlAt.drew (h : SlAt w B s enc A n c xs) : SlAt w.drew B s enc A n c xs := h
theorem SlAt.drewN (h : SlAt w B s enc A n c xs) (k : Nat) : SlAt (w.drewN k) B s enc A n c xs := h
theorem SlAt.setCell (h : SlAt w B s enc A n c xs) {p : Addr} (hp : p.block < B) (u : Value) : SlAt (w.setCell p u) B s enc A n c xs :=
  h.keep (by simp [World.setCell]) fun q hq _ => World.cell?_setCell_other w p q u (fun e => by subst e; omega)
theorem SlAt.mono (h : SlAt w B s enc A n c xs) (hB : B' ≤ B) : SlAt w B' s enc A n c xs := by
  refine ⟨h.1, h.2.1, h.2.2.1, fun hn => ?_⟩
  obtain ⟨b, off, hA, hB, hb, hc⟩ := h.2.2.2 hn
  exact ⟨b, off, hA, by omega, hb, hc⟩
theorem SlAt.at_ (h : SlAt w B s enc A n c xs) {k : Nat} {x : α} (hk : xs[k]? = some x) :
    ∃ b off, A = some ⟨b, off, none⟩ ∧ B ≤ b ∧ b < w.heap.size ∧ ∀ j v, (enc x)[j]? = some v → w.cell? ⟨b, off + (k * s + j), none⟩ = some v := by
  have hl : k < xs.length := (List.getElem?_eq_some_iff.1 hk).1
  obtain ⟨hn, _, _, h⟩ := h
  obtain ⟨b, off, hA, hB, hb, hc⟩ := h (by omega)
  exact ⟨b, off, hA, hB, hb, hc k x hk⟩
/-- A row of the call's own, read as a slice. -/
theorem SlAt.of_own {base : Nat} {e : TypeId} {v : Value} {n : Nat} {ys : List Value} (h : w.ownsRow base e s v n ys) (hn : n ≤ 17592186044416) (xs : List α) (hx : ys = xs.flatMap enc) (he : ∀ x, (enc x).length = s) (hl : xs.length = n) :
    ∃ A c, v = .slice A n c ∧ SlAt w base s enc A n c xs := by
  rcases h.2 with ⟨rfl, rfl⟩ | ⟨g, cap, cur, rfl, hb, hg, hnc, hcm, hcs, htake⟩
  · exact ⟨none, 0, rfl, hl, Nat.le_refl _, by omega, fun h => absurd h (by omega)⟩
  · refine ⟨_, _, rfl, hl, hnc, hn, fun _ => ⟨g, 0, rfl, hb, (Array.getElem?_eq_some_iff.1 hg).1, fun k x hk j u hu => ?_⟩⟩
    have hj : j < s := by rw [← he x]; exact (List.getElem?_eq_some_iff.1 hu).1
    have hk' : k < xs.length := (List.getElem?_eq_some_iff.1 hk).1
    have hcell : w.cell? ⟨g, 0 + (k * s + j), none⟩ = cur[k * s + j]? := by rw [Nat.zero_add]; exact cell_of_row w g _ cur e (0, 0) hg
    rw [hcell]
    have h1 : ys[k * s + j]? = some u := by
      subst hx
      clear hcell htake hcs hg h hl hn hnc
      induction xs generalizing k with
      | nil => simp at hk
      | cons y xs ih =>
        cases k with
        | zero =>
          simp at hk; subst hk
          rw [List.flatMap_cons, List.getElem?_append_left (by rw [he]; omega)]
          simpa using hu
        | succ k =>
          rw [List.flatMap_cons, List.getElem?_append_right (by rw [he, Nat.add_mul]; omega)]
          rw [he, show (k + 1) * s + j - s = k * s + j from by rw [Nat.add_mul]; omega]
          exact ih k (by simpa using hk) (by simpa using hk')
    rw [← htake, List.getElem?_take] at h1
    split at h1
    · simpa using h1
    · cases h1
end

/-- A number in one cell. -/
def ivs (n : Int) : List Value := [.int .i64 n]
theorem SlAt.int {w : World} {B n c k : Nat} {A : Option Addr} {xs : List Int} {x : Int} (h : SlAt w B 1 ivs A n c xs) (hk : xs[k]? = some x) :
    ∃ b off, A = some ⟨b, off, none⟩ ∧ B ≤ b ∧ b < w.heap.size ∧ w.cell? ⟨b, off + k, none⟩ = some (.int .i64 x) := by
  obtain ⟨b, off, hA, hB, hb, hc⟩ := h.at_ hk
  refine ⟨b, off, hA, hB, hb, ?_⟩
  have := hc 0 _ rfl
  simpa using this

/-- api.Bound. -/
structure Bnd where
  lo : Int
  hi : Int
  deriving DecidableEq
def Bnd.cells (x : Bnd) : List Value := [.int .i64 x.lo, .int .i64 x.hi]
theorem SlAt.bnd {w : World} {B n c k : Nat} {A : Option Addr} {xs : List Bnd} {x : Bnd} (h : SlAt w B 2 Bnd.cells A n c xs) (hk : xs[k]? = some x) :
    ∃ b off, A = some ⟨b, off, none⟩ ∧ B ≤ b ∧ b < w.heap.size ∧ w.cell? ⟨b, off + k * 2, none⟩ = some (.int .i64 x.lo) ∧ w.cell? ⟨b, off + k * 2 + 1, none⟩ = some (.int .i64 x.hi) := by
  obtain ⟨b, off, hA, hB, hb, hc⟩ := h.at_ hk
  exact ⟨b, off, hA, hB, hb, hc 0 _ rfl, hc 1 _ rfl⟩

/-- api.Section. -/
structure Sec where
  len : Int
  fol : Int
  bird : Int
  drag : Int
  cap : Int
  deriving DecidableEq
def Sec.cells (x : Sec) : List Value := [.int .i64 x.len, .int .i64 x.fol, .int .i64 x.bird, .int .i64 x.drag, .int .i64 x.cap]
theorem SlAt.sec {w : World} {B n c k : Nat} {A : Option Addr} {xs : List Sec} {x : Sec} (h : SlAt w B 5 Sec.cells A n c xs) (hk : xs[k]? = some x) :
    ∃ b off, A = some ⟨b, off, none⟩ ∧ B ≤ b ∧ b < w.heap.size ∧ w.cell? ⟨b, off + k * 5, none⟩ = some (.int .i64 x.len) ∧ w.cell? ⟨b, off + k * 5 + 1, none⟩ = some (.int .i64 x.fol)
      ∧ w.cell? ⟨b, off + k * 5 + 2, none⟩ = some (.int .i64 x.bird) ∧ w.cell? ⟨b, off + k * 5 + 3, none⟩ = some (.int .i64 x.drag) ∧ w.cell? ⟨b, off + k * 5 + 4, none⟩ = some (.int .i64 x.cap) := by
  obtain ⟨b, off, hA, hB, hb, hc⟩ := h.at_ hk
  exact ⟨b, off, hA, hB, hb, hc 0 _ rfl, hc 1 _ rfl, hc 2 _ rfl, hc 3 _ rfl, hc 4 _ rfl⟩

/-- api.Streamer. -/
structure Strm where
  head : Int
  secs : List Sec
  lane : Bnd
  bend : Int

/-- api.Water. -/
structure Wat where
  acr : Bnd
  alo : Bnd
  deriving DecidableEq
def Wat.cells (x : Wat) : List Value := [.int .i64 x.acr.lo, .int .i64 x.acr.hi, .int .i64 x.alo.lo, .int .i64 x.alo.hi]
theorem SlAt.wat {w : World} {B n c k : Nat} {A : Option Addr} {xs : List Wat} {x : Wat} (h : SlAt w B 4 Wat.cells A n c xs) (hk : xs[k]? = some x) :
    ∃ b off, A = some ⟨b, off, none⟩ ∧ B ≤ b ∧ b < w.heap.size ∧ w.cell? ⟨b, off + k * 4, none⟩ = some (.int .i64 x.acr.lo) ∧ w.cell? ⟨b, off + k * 4 + 1, none⟩ = some (.int .i64 x.acr.hi)
      ∧ w.cell? ⟨b, off + k * 4 + 2, none⟩ = some (.int .i64 x.alo.lo) ∧ w.cell? ⟨b, off + k * 4 + 3, none⟩ = some (.int .i64 x.alo.hi) := by
  obtain ⟨b, off, hA, hB, hb, hc⟩ := h.at_ hk
  exact ⟨b, off, hA, hB, hb, hc 0 _ rfl, hc 1 _ rfl, hc 2 _ rfl, hc 3 _ rfl⟩

/-- api.Region; its bounds one behind the other. -/
structure Reg where
  x : Bnd
  y : Bnd
  s : Bnd
  d : Bnd
  deriving DecidableEq
/-- api.Point. -/
structure Pnt where
  x : Int
  y : Int
  deriving DecidableEq
def Pnt.cells (p : Pnt) : List Value := [.int .i64 p.x, .int .i64 p.y]
theorem SlAt.pnt {w : World} {B n c k : Nat} {A : Option Addr} {xs : List Pnt} {x : Pnt} (h : SlAt w B 2 Pnt.cells A n c xs) (hk : xs[k]? = some x) :
    ∃ b off, A = some ⟨b, off, none⟩ ∧ B ≤ b ∧ b < w.heap.size ∧ w.cell? ⟨b, off + k * 2, none⟩ = some (.int .i64 x.x) ∧ w.cell? ⟨b, off + k * 2 + 1, none⟩ = some (.int .i64 x.y) := by
  obtain ⟨b, off, hA, hB, hb, hc⟩ := h.at_ hk
  exact ⟨b, off, hA, hB, hb, hc 0 _ rfl, hc 1 _ rfl⟩

theorem ownsRow_below {w w' : World} {base : Nat} {e : TypeId} {size : Nat} {v : Value} {n : Nat} {xs : List Value} (h : w.ownsRow base e size v n xs) (hb : Below w.heap.size w w') : w'.ownsRow base e size v n xs :=
  h.kept (row := none) ⟨hb.os, hb.tape, hb.output, hb.size, fun k hk _ => hb.block k hk⟩ (by cases hv : v.ownBlock <;> simp)
theorem own_cell {w : World} {base : Nat} {e : TypeId} {size g n cap : Nat} {xs : List Value} (h : w.ownsRow base e size (.slice (some ⟨g, 0, none⟩) n cap) n xs) {j : Nat} (hj : j < n * size) : ∃ v, w.cell? ⟨g, j, none⟩ = some v := by
  rw [h.cellAt j hj]
  exact ⟨_, List.getElem?_eq_getElem (by rw [h.1]; exact hj)⟩
theorem madeCells_int (n : Nat) : (madeCells (Value.int .i64 0).cells (n * 1)).toList = List.replicate n (.int .i64 0) := by rw [Nat.mul_one]; exact toList_madeCells_one _ _
/-- Block g holds just these cells. -/
def Blk (w : World) (g : Nat) (t : TypeId) (cs : Array Value) : Prop := w.heap[g]? = some (.cells cs t (0, 0))
section
variable {w w' : World} {g : Nat} {t : TypeId} {cs : Array Value}
theorem Blk.lt (h : Blk w g t cs) : g < w.heap.size := (Array.getElem?_eq_some_iff.1 h).1
theorem Blk.cell (h : Blk w g t cs) (i : Nat) : w.cell? ⟨g, i, none⟩ = cs[i]? := cell_of_row w g i cs t (0, 0) h
theorem Blk.frozen (h : Blk w g t cs) (i : Nat) : w.frozen? ⟨g, i, none⟩ = false := by
  unfold Blk at h
  simp [World.frozen?, h]
theorem Blk.rules (h : Blk w g t cs) : (∀ i, w.cell? ⟨g, i, none⟩ = cs[i]?) ∧ (∀ i, w.frozen? ⟨g, i, none⟩ = false) ∧ g < w.heap.size := ⟨h.cell, h.frozen, h.lt⟩
theorem Blk.new (w : World) (t : TypeId) (cs : Array Value) : Blk (w.alloc (.cells cs t)) w.heap.size t cs := heap_alloc_new w _
theorem Blk.drew (h : Blk w g t cs) : Blk w.drew g t cs := h
theorem Blk.drewN (h : Blk w g t cs) (n : Nat) : Blk (w.drewN n) g t cs := h
theorem Blk.alloc (h : Blk w g t cs) (o : Obj) : Blk (w.alloc o) g t cs := (Below.heap_alloc w o g h.lt).trans h
theorem Blk.set_ (h : Blk w g t cs) (i : Nat) (u : Value) : Blk (w.setCell ⟨g, i, none⟩ u) g t (cs.setIfInBounds i u) := by
  unfold Blk at h ⊢
  simp [World.setCell, Array.getElem?_modify, h]
theorem Blk.far (h : Blk w g t cs) {p : Addr} (hp : g ≠ p.block) (u : Value) : Blk (w.setCell p u) g t cs := (Below.heap_setCell w p u g hp).trans h
theorem Blk.below (h : Blk w g t cs) (hb : Below w.heap.size w w') : Blk w' g t cs := (hb.block g h.lt).trans h
theorem Blk.belowB {B : Nat} (h : Blk w g t cs) (hb : Below B w w') (hg : g < B) : Blk w' g t cs := (hb.block g hg).trans h
theorem Blk.grown {row : Option Nat} (h : Blk w g t cs) (hb : w.grownBy w' row) (hg : some g ≠ row) : Blk w' g t cs := (hb.block g h.lt hg).trans h
end
end Go.Proofs.YtcmbmmpihiekhaaGreat
namespace Go.Proofs.YtcmbmmpihiekhaaGreat

def okBnd (m : Int) (b : Bnd) : Bool := decide (-m ≤ b.lo ∧ b.lo ≤ b.hi ∧ b.hi ≤ m)
def okSec (x : Sec) : Bool := decide (1 ≤ x.len ∧ x.len ≤ 1000 ∧ 0 ≤ x.fol ∧ x.fol ≤ 64 ∧ 0 ≤ x.bird ∧ x.bird ≤ 1000 ∧ 0 ≤ x.drag ∧ x.drag ≤ 1000 ∧ 0 ≤ x.cap ∧ x.cap ≤ 1073741824)
def headOk (s : Strm) : Prop := -2000 ≤ s.head ∧ s.head ≤ 2000 ∧ 1 ≤ s.secs.length ∧ s.secs.length ≤ 8 ∧ -4000 ≤ s.lane.lo ∧ s.lane.lo ≤ s.lane.hi ∧ s.lane.hi ≤ 4000 ∧ 0 ≤ s.bend ∧ s.bend ≤ 1000
instance (s : Strm) : Decidable (headOk s) := by unfold headOk; infer_instance
def okStrm (s : Strm) : Bool := decide (headOk s) && s.secs.all okSec
def chkStrm (s : Strm) : Int := if okStrm s = true then 0 else 30
def okWat (x : Wat) : Bool := okBnd 100 x.acr && okBnd 50 x.alo
def okWats (l : List Wat) : Bool := decide (l.length ≤ 48) && l.all okWat
def chkWats (l : List Wat) : Int := if okWats l = true then 0 else 33
def okNum (m n : Int) : Bool := decide (-m ≤ n ∧ n ≤ m)
def okNums (s : Strm) (l : List Int) (m : Int) : Bool := decide (l.length = s.secs.length) && l.all (okNum m)
def okOffs (s : Strm) (bs : List Bnd) : Bool := decide (bs.length = s.secs.length) && bs.all (okBnd 16384)
def errB (s : Strm) (bs : List Bnd) : Int := if okStrm s = true then (if okOffs s bs = true then 0 else 31) else 30
def okSpeed (n : Int) : Bool := decide (0 ≤ n ∧ n ≤ 100)
def okSpeeds (l : List Int) : Bool := l.all okSpeed

def sec0 : Sec := ⟨0, 0, 0, 0, 0⟩
def Strm.sec (s : Strm) (i : Nat) : Sec := s.secs.getD i sec0

def eased (s : Strm) (x : Sec) (own before drift : Int) : Int :=
  let n := ((64 - x.fol) * own + x.fol * before) / 64 + drift
  let m := if s.lane.hi < n then max s.lane.hi (n - x.bird) else if n < s.lane.lo then min s.lane.lo (n + x.bird) else n
  max (-16384) (min m 16384)

/-- What stands before element k; the head before the first one. -/
def prev {α : Type} (h : α) (l : List α) : Nat → α
  | 0 => h
  | k + 1 => l.getD k h
def eachL {α β : Type} (f : Nat → α → α → β) (h : α) (l : List α) : List β := (List.range l.length).map fun i => f i (l.getD i h) (prev h l i)

def stepL (s : Strm) (offs drifts : List Int) : List Int := eachL (fun i own bef => eased s (s.sec i) own bef (drifts.getD i 0)) s.head offs
def stepR (s : Strm) (offs drifts : List Int) : List Int × Int :=
  if okStrm s = true then (if okNums s offs 16384 = true then (if okNums s drifts 100 = true then (stepL s offs drifts, 0) else ([], 32)) else ([], 31)) else ([], 30)

def still (n : Int) : Bnd := ⟨n, n⟩
def encB (s : Strm) (d : Bnd) (i : Nat) (own bef : Bnd) : Bnd := ⟨eased s (s.sec i) own.lo bef.lo d.lo, eased s (s.sec i) own.hi bef.hi d.hi⟩
def encL (s : Strm) (bs : List Bnd) (d : Bnd) : List Bnd := eachL (encB s d) (still s.head) bs
def bendB (own bef : Bnd) : Bnd := ⟨max (max 0 (own.lo - bef.hi)) (bef.lo - own.hi), max (own.hi - bef.lo) (bef.hi - own.lo)⟩
def bendL (s : Strm) (bs : List Bnd) : List Bnd := eachL (fun _ own bef => bendB own bef) (still s.head) bs

def sumB : List Bnd → Bnd
  | [] => ⟨0, 0⟩
  | b :: bs => ⟨(sumB bs).lo + b.lo, (sumB bs).hi + b.hi⟩
def ownPull (slow fast : Int) (x : Sec) (b : Bnd) : Bnd := ⟨x.drag * (slow * slow + b.lo), x.drag * (fast * fast + b.hi)⟩
def pullL (s : Strm) (bs : List Bnd) (v : Int) (cur : Bnd) : List Bnd :=
  (List.range bs.length).map fun i => sumB ((List.zipWith (ownPull (max 0 (v - cur.hi)) (max 0 (v - cur.lo))) s.secs (bendL s bs)).drop i)

def bentS (s : Strm) (bs : List Bnd) : Bool := (bendL s bs).any fun x => decide (s.bend < x.hi)
def pulledS (s : Strm) (bs : List Bnd) (v : Int) (cur : Bnd) : Bool := (List.range bs.length).any fun i => decide ((s.sec i).cap < ((pullL s bs v cur).getD i ⟨0, 0⟩).hi)
def wat0 : Wat := ⟨⟨0, 0⟩, ⟨0, 0⟩⟩
/-- The bounds after so many steps. -/
def encAt (s : Strm) (bs : List Bnd) (l : List Wat) : Nat → List Bnd
  | 0 => bs
  | k + 1 => encL s (encAt s bs l k) (l.getD k wat0).acr
/-- The first number below n of which p holds; -1: none. -/
def fstN (p : Nat → Bool) : Nat → Int
  | 0 => -1
  | n + 1 => if 0 ≤ fstN p n then fstN p n else if p n = true then n else -1
def bentN (s : Strm) (bs : List Bnd) (l : List Wat) (i : Nat) : Bool := bentS s (encAt s bs l (i + 1))
def pulledN (s : Strm) (bs : List Bnd) (l : List Wat) (v : List Int) (i : Nat) : Bool := pulledS s (encAt s bs l (i + 1)) (v.getD i 0) (l.getD i wat0).alo
def strainS (s : Strm) (bs : List Bnd) (l : List Wat) (v : List Int) (n : Nat) : Int × Int := (fstN (bentN s bs l) n, fstN (pulledN s bs l v) n)
def errBW (s : Strm) (bs : List Bnd) (l : List Wat) : Int := if errB s bs = 0 then chkWats l else errB s bs
def errW (s : Strm) (bs : List Bnd) (l : List Wat) (v : List Int) : Int :=
  if errBW s bs l = 0 then (if v.length = l.length ∧ okSpeeds v = true then 0 else 34) else errBW s bs l
def keepsS (s : Strm) (bs : List Bnd) (l : List Wat) (v : List Int) : Bool := decide (strainS s bs l v l.length = (-1, -1))
def keepsR (s : Strm) (bs : List Bnd) (l : List Wat) (v : List Int) : Bool × Int := if errW s bs l v = 0 then (keepsS s bs l v, 0) else (false, errW s bs l v)
end Go.Proofs.YtcmbmmpihiekhaaGreat
namespace Go.Proofs.YtcmbmmpihiekhaaGreat

def okReg (r : Reg) : Bool := okBnd 32768 r.x && okBnd 32768 r.y && okBnd 65536 r.s && okBnd 65536 r.d
def chkReg (r : Reg) : Int := if okReg r = true then 0 else 11
def okPnt (p : Pnt) : Bool := decide (-32768 ≤ p.x ∧ p.x ≤ 32768 ∧ -32768 ≤ p.y ∧ p.y ≤ 32768)
def chkPnt (p : Pnt) : Int := if okPnt p = true then 0 else 10
def noReg : Reg := ⟨⟨0, 0⟩, ⟨0, 0⟩, ⟨0, 0⟩, ⟨0, 0⟩⟩
/-- The points with an x, from a y to another one. -/
structure RRow where
  x : Int
  fr : Int
  to : Int
  deriving DecidableEq
def rowB (r : Reg) (x : Int) : RRow := ⟨x, max r.y.lo (max (r.s.lo - x) (x - r.d.hi)), min r.y.hi (min (r.s.hi - x) (x - r.d.lo))⟩
def rowsTo (r : Reg) : Nat → List RRow
  | 0 => []
  | k + 1 => rowsTo r k ++ (if (rowB r (r.x.lo + k)).fr ≤ (rowB r (r.x.lo + k)).to then [rowB r (r.x.lo + k)] else [])
def nX (r : Reg) : Nat := (r.x.hi + 1 - r.x.lo).toNat
def rowsL (r : Reg) : List RRow := rowsTo r (nX r)
def rowPts (q : RRow) : List Pnt := if q.fr = q.to then [⟨q.x, q.fr⟩] else [⟨q.x, q.fr⟩, ⟨q.x, q.to⟩]
def ptsL (r : Reg) : List Pnt := (rowsL r).flatMap rowPts
def ofP (p : Pnt) : Reg := ⟨still p.x, still p.y, still (p.x + p.y), still (p.x - p.y)⟩
def spanB (a b : Bnd) : Bnd := ⟨min a.lo b.lo, max a.hi b.hi⟩
def cutB (a b : Bnd) : Bnd := ⟨max a.lo b.lo, min a.hi b.hi⟩
def plusB (a b : Bnd) : Bnd := ⟨a.lo + b.lo, a.hi + b.hi⟩
def minusB (a b : Bnd) : Bnd := ⟨a.lo - b.hi, a.hi - b.lo⟩
def zipR (f : Bnd → Bnd → Bnd) (a b : Reg) : Reg := ⟨f a.x b.x, f a.y b.y, f a.s b.s, f a.d b.d⟩
def addP : Option Reg → Pnt → Option Reg
  | none, p => some (zipR spanB (ofP p) (ofP p))
  | some h, p => some (zipR spanB h (ofP p))
def hullL (l : List Pnt) : Option Reg := l.foldl addP none
def tightO (r : Reg) : Option Reg := hullL (ptsL r)
def doneR : Option Reg → Reg × Int
  | none => (noReg, 4)
  | some h => (h, 0)
def tightR (r : Reg) : Reg × Int := if okReg r = true then doneR (tightO r) else (noReg, 11)
def insideR (f : Reg) : Reg × Int := if okBnd 32768 f.x = true ∧ okBnd 32768 f.y = true then (f, 0) else (noReg, 7)
/-- The square root of a number, rounded down. -/
def isq : Nat → Nat
  | 0 => 0
  | n + 1 => if (isq n + 1) * (isq n + 1) ≤ n + 1 then isq n + 1 else isq n
theorem isq_spec : ∀ n, isq n * isq n ≤ n ∧ n < (isq n + 1) * (isq n + 1)
  | 0 => by simp [isq]
  | n + 1 => by
    obtain ⟨h1, h2⟩ := isq_spec n
    rw [isq]
    split
    · rename_i h
      refine ⟨h, ?_⟩
      have : (isq n + 1 + 1) * (isq n + 1 + 1) = (isq n + 1) * (isq n + 1) + 2 * (isq n + 1) + 1 := by simp only [Nat.add_mul, Nat.mul_add]; omega
      omega
    · rename_i h
      exact ⟨by omega, by omega⟩
theorem isq_eq {n r : Nat} (h1 : r * r ≤ n) (h2 : n < (r + 1) * (r + 1)) : isq n = r := by
  obtain ⟨a, b⟩ := isq_spec n
  rcases Nat.lt_trichotomy (isq n) r with h | h | h
  · have := Nat.mul_le_mul (show isq n + 1 ≤ r from h) (show isq n + 1 ≤ r from h); omega
  · exact h
  · have := Nat.mul_le_mul (show r + 1 ≤ isq n from h) (show r + 1 ≤ isq n from h); omega
def rootS (n : Int) : Int := (isq n.toNat : Nat)

/-! Nodes. -/
/-! Headings. -/
structure Hdg where
  p : Int
  q : Int
  c : Int
  deriving DecidableEq
end Go.Proofs.YtcmbmmpihiekhaaGreat
namespace Go.Proofs.YtcmbmmpihiekhaaGreat
section
variable {P : Program} {ops : Array Oper} {Q : Exit → Act → World → Prop} {md : Region.Mode} {S : World → Prop} {n0 : Nat}

def anyTill (P : Program) (md : Region.Mode) (ops : Array Oper) (Q : Exit → Act → World → Prop) (S : World → Prop) (n0 : Nat) : Nat → Array Bool → Act → World → Prop
  | 0, listed, a, w => Region.ready md ops listed = [] ∧ Q .normal a w
  | fuel + 1, listed, a, w =>
    (Region.ready md ops listed = [] → Q .normal a w) ∧
    ∀ i ∈ Region.ready md ops listed, wpOp P ops Q i (fun a' w' => ((listed.setIfInBounds i true).getD n0 false = false → S w') ∧ anyTill P md ops Q S n0 fuel (listed.setIfInBounds i true) a' w') a w

theorem wpAny_of_till : ∀ (fuel : Nat) (listed : Array Bool) (a : Act) (w : World), anyTill P md ops Q S n0 fuel listed a w → wpAny P md ops Q fuel listed a w
  | 0, _, _, _, h => h
  | fuel + 1, _, _, _, h => ⟨h.1, fun i hi => wpOp_mono (fun a' w' h' => wpAny_of_till fuel _ a' w' h'.2) (h.2 i hi)⟩

theorem till_first {i : Nat} {oi : Oper} {v : Value} (hi : ops[i]? = some oi) (hsel : ∀ (j : Nat) (o : Oper) cs b, ops[j]? = some o → o.op ≠ .select cs b)
    (hQ : ∀ c a w, Q (.panic c) (a.put oi.dst v) w → Q (.panic c) a w) (hwait : Region.waitsFor md ops n0 i = true) (hin : i ≠ n0) :
    ∀ (fuel : Nat) (listed : Array Bool) (a : Act) (w : World),
      (∀ j oj, ops[j]? = some oj → j ≠ i → listed.getD j true = false → (∀ e ∈ oj.after, Region.binds md e = true → e.on ≠ i) → oi.apart ops oj = true) →
      i ∈ Region.ready md ops listed → YieldsIf P ops S oi v a → S w → listed.getD n0 false = false →
      anyTill P md ops Q S n0 fuel (listed.setIfInBounds i true) (a.put oi.dst v) w → anyTill P md ops Q S n0 (fuel + 1) listed a w := by
  intro fuel
  induction fuel with
  | zero =>
    intro listed a w _ hr hy hS _ H
    refine ⟨fun h => (by rw [h] at hr; cases hr), fun j hj => ?_⟩
    by_cases hji : j = i
    · subst hji; exact hy.wpOp hi hS ⟨fun _ => hS, H⟩
    · have := ready_mono hj hji
      rw [H.1] at this
      cases this
  | succ fuel ih =>
    intro listed a w hfree hr hy hS hn H
    refine ⟨fun h => (by rw [h] at hr; cases hr), fun j hj => ?_⟩
    by_cases hji : j = i
    · subst hji; exact hy.wpOp hi hS ⟨fun _ => hS, H⟩
    · have g1 := H.2 j (ready_mono hj hji)
      obtain ⟨hjun, oj, hoj, hall⟩ := mem_ready.1 hj
      have hnot : ∀ e ∈ oj.after, Region.binds md e = true → e.on ≠ i := fun e he hb heq => by
        have a1 := hall e he hb
        have a0 := (mem_ready.1 hr).1
        rw [heq] at a1
        rcases Nat.lt_or_ge i listed.size with h' | h'
        · simp [h'] at a0 a1; rw [a0] at a1; cases a1
        · simp [Array.getElem?_eq_none h'] at a1
      have hj0 : j ≠ n0 := by
        rintro rfl
        obtain ⟨o', ho', e, he, hb, heq⟩ := Region.waitsFor_spec hwait
        rw [hoj] at ho'
        cases ho'
        exact hnot e he hb heq
      have g2 := wpOp_putIf hoj (hfree j oj hoj hji hjun hnot) (fun cs b => hsel i oi cs b hi) (fun cs b => hsel j oj cs b hoj) hQ hy g1
      have hn1 : (listed.setIfInBounds j true).getD n0 false = false := by rw [getD_set_ne false hj0]; exact hn
      have hn2 : ((listed.setIfInBounds i true).setIfInBounds j true).getD n0 false = false := by rw [getD_set_ne false hj0, getD_set_ne false hin]; exact hn
      have hfree' : ∀ k ok, ops[k]? = some ok → k ≠ i → (listed.setIfInBounds j true).getD k true = false →
          (∀ e ∈ ok.after, Region.binds md e = true → e.on ≠ i) → oi.apart ops ok = true := fun k ok hk hki hun hno => by
        refine hfree k ok hk hki ?_ hno
        by_cases hjk : j = k
        · subst hjk; exact hjun
        · rw [getD_set_ne true hjk] at hun; exact hun
      refine wpOp_mono (fun a' w' h3 => ⟨fun _ => h3.2.1 hn2, ih (listed.setIfInBounds j true) a' w' hfree' (ready_mono hr (Ne.symm hji)) h3.1 (h3.2.1 hn2) hn1 ?_⟩) g2
      rw [Array.setIfInBounds_comm _ _ hji]
      exact h3.2.2

theorem till_take {i : Nat} {oi : Oper} {v : Value} {fuel : Nat} {listed : Array Bool} {a : Act} {w : World} (hi : ops[i]? = some oi)
    (hs : Region.noSelect ops = true) (hf : Region.free md ops listed i = true) (hr : (Region.ready md ops listed).contains i = true) (hwait : Region.waitsFor md ops n0 i = true) (hin : decide (i = n0) = false) (hn : listed.getD n0 false = false)
    (hQ : ∀ c a w, Q (.panic c) (a.put oi.dst v) w → Q (.panic c) a w) (hy : YieldsIf P ops S oi v a) (hS : S w)
    (h : anyTill P md ops Q S n0 fuel (listed.setIfInBounds i true) (a.put oi.dst v) w) : anyTill P md ops Q S n0 (fuel + 1) listed a w :=
  till_first hi (Region.noSelect_spec hs) hQ hwait (of_decide_eq_false hin) fuel listed a w (Region.free_spec hi hf) (by simpa using hr) hy hS hn h

/-! One operation comes up alone. -/
theorem till_one {i : Nat} {o : Oper} {fuel : Nat} {listed : Array Bool} {a : Act} {w : World} (hr : Region.ready md ops listed = [i]) (ho : ops[i]? = some o) (hg : o.guard = none)
    (h : ∀ K' : Act → World → Prop, (∀ a' w', ((listed.setIfInBounds i true).getD n0 false = false → S w') → anyTill P md ops Q S n0 fuel (listed.setIfInBounds i true) a' w' → K' a' w') → o.wp P a w K' Q) :
    anyTill P md ops Q S n0 (fuel + 1) listed a w := by
  refine ⟨fun h0 => absurd (hr ▸ h0) (by simp), fun j hj => ?_⟩
  rw [hr] at hj
  obtain rfl := List.mem_singleton.1 hj
  unfold wpOp
  simp only [ho]
  rw [if_pos (by simp [Region.wanted, hg])]
  exact .inl (h _ fun a' w' hS hW => ⟨hS, hW⟩)

theorem till_two {i j : Nat} {oi oj : Oper} {fuel : Nat} {listed : Array Bool} {a : Act} {w : World} (hr : Region.ready md ops listed = [i, j]) (hi : ops[i]? = some oi) (hj : ops[j]? = some oj) (hgi : oi.guard = none) (hgj : oj.guard = none)
    (h1 : ∀ K' : Act → World → Prop, (∀ a' w', ((listed.setIfInBounds i true).getD n0 false = false → S w') → anyTill P md ops Q S n0 fuel (listed.setIfInBounds i true) a' w' → K' a' w') → oi.wp P a w K' Q)
    (h2 : ∀ K' : Act → World → Prop, (∀ a' w', ((listed.setIfInBounds j true).getD n0 false = false → S w') → anyTill P md ops Q S n0 fuel (listed.setIfInBounds j true) a' w' → K' a' w') → oj.wp P a w K' Q) :
    anyTill P md ops Q S n0 (fuel + 1) listed a w := by
  refine ⟨fun h0 => absurd (hr ▸ h0) (by simp), fun m hm => ?_⟩
  rw [hr] at hm
  rcases List.mem_cons.1 hm with rfl | hm
  · unfold wpOp
    simp only [hi]
    rw [if_pos (by simp [Region.wanted, hgi])]
    exact .inl (h1 _ fun a' w' hS hW => ⟨hS, hW⟩)
  · obtain rfl := List.mem_singleton.1 hm
    unfold wpOp
    simp only [hj]
    rw [if_pos (by simp [Region.wanted, hgj])]
    exact .inl (h2 _ fun a' w' hS hW => ⟨hS, hW⟩)

theorem till_done {listed : Array Bool} {a : Act} {w : World} (hr : Region.ready md ops listed = []) (h : Q .normal a w) :
    ∀ fuel, anyTill P md ops Q S n0 fuel listed a w
  | 0 => ⟨hr, h⟩
  | _ + 1 => ⟨fun _ => h, by rw [hr]; simp⟩

theorem wp_region_till {id : Nat} {a : Act} {w : World} (S : World → Prop) (n0 : Nat) (hm : P.follows .mixedOrders = true)
    (h : anyTill P .any ops Q S n0 ops.size (Array.replicate ops.size false) a w.drew) : (Code.region id ops true).wp P Q a w :=
  wp_region_any hm (wpAny_of_till _ _ _ _ h)
end
end Go.Proofs.YtcmbmmpihiekhaaGreat
namespace Go.Proofs.YtcmbmmpihiekhaaGreat
open Go.RowKit Go.Shelf

/-- Below B nothing has turned; rows of cells lie as they lay. -/
def Calm (B : Nat) (W W' : World) : Prop := Below B W W' ∧ ∀ (k : Nat) (o : Obj), W.heap[k]? = some o → o.isCells = true → W'.heap[k]? = some o
theorem Calm.trans {B : Nat} {A C D : World} (h : Calm B A C) (k : Calm B C D) : Calm B A D := ⟨h.1.trans k.1, fun i o hi ho => k.2 i o (h.2 i o hi ho) ho⟩
theorem Calm.mono {B B' : Nat} {A C : World} (h : Calm B A C) (hB : B' ≤ B) : Calm B' A C := ⟨h.1.mono hB, h.2⟩
theorem calm_of_below {B : Nat} {W W' : World} (h : Below W.heap.size W W') (hB : B ≤ W.heap.size) : Calm B W W' :=
  ⟨h.mono hB, fun k _ hk _ => (h.block k (Array.getElem?_eq_some_iff.1 hk).1).trans hk⟩
theorem calm_put {B l : Nat} {W : World} {o : Obj} (o' : Obj) (h : W.heap[l]? = some o) (hc : o.isCells = false) (hl : B ≤ l) : Calm B W (W.putObj l o') := by
  refine ⟨(Below.refl B W).trans ⟨rfl, rfl, rfl, by simp, fun k hk => World.putObj_heap_other (by omega)⟩, fun k o2 hk ho => ?_⟩
  by_cases e : k = l
  · subst e; rw [h] at hk; cases hk; rw [hc] at ho; cases ho
  · exact (World.putObj_heap_other e).trans hk
theorem calm_cell {B : Nat} {W W' : World} (h : Calm B W W') {b o : Nat} {v : Value} (hc : W.cell? ⟨b, o, none⟩ = some v) : W'.cell? ⟨b, o, none⟩ = some v := by
  unfold World.cell? at hc ⊢
  cases ho : W.heap[b]? with
  | none => simp [ho] at hc
  | some ob =>
    have hcells : ob.isCells = true := by cases ob <;> simp_all [Obj.isCells]
    simp only [h.2 b ob ho hcells]
    simpa [ho] using hc
theorem calm_blk {B : Nat} {W W' : World} (h : Calm B W W') {g : Nat} {t : TypeId} {cs : Array Value} (k : Blk W g t cs) : Blk W' g t cs := h.2 g _ k rfl
theorem calm_sl {B : Nat} {W W' : World} (h : Calm B W W') {α : Type} {B1 s : Nat} {enc : α → List Value} {A : Option Addr} {n c : Nat} {xs : List α} (k : SlAt W B1 s enc A n c xs) : SlAt W' B1 s enc A n c xs := by
  refine ⟨k.1, k.2.1, k.2.2.1, fun hn => ?_⟩
  obtain ⟨b, off, hA, hB, hb, hc⟩ := k.2.2.2 hn
  exact ⟨b, off, hA, hB, Nat.lt_of_lt_of_le hb h.1.size, fun k x hx j v hv => calm_cell h (hc k x hx j v hv)⟩
theorem calm_below {B B0 : Nat} {w W W' : World} (h : Calm B W W') (k : Below B0 w W) (hB : B0 ≤ B) : Below B0 w W' := k.trans (h.1.mono hB)

/-- What lies at B or beyond lies as it lay. -/
def NC (B : Nat) (W W' : World) : Prop := W.heap.size ≤ W'.heap.size ∧ ∀ (k : Nat) (o : Obj), B ≤ k → W.heap[k]? = some o → W'.heap[k]? = some o
theorem NC.refl (B : Nat) (W : World) : NC B W W := ⟨Nat.le_refl _, fun _ _ _ h => h⟩
theorem NC.trans {B : Nat} {A C D : World} (h : NC B A C) (k : NC B C D) : NC B A D := ⟨Nat.le_trans h.1 k.1, fun i o hB hi => k.2 i o hB (h.2 i o hB hi)⟩
theorem NC.mono {B B' : Nat} {A C : World} (h : NC B A C) (hB : B ≤ B') : NC B' A C := ⟨h.1, fun i o hi ho => h.2 i o (by omega) ho⟩
theorem nc_of_below {B : Nat} {W W' : World} (h : Below W.heap.size W W') : NC B W W' := ⟨h.size, fun k _ _ hk => (h.block k (Array.getElem?_eq_some_iff.1 hk).1).trans hk⟩
theorem nc_drew {B : Nat} (W : World) : NC B W W.drew := ⟨Nat.le_refl _, fun _ _ _ h => h⟩
theorem nc_drewN {B : Nat} (W : World) (n : Nat) : NC B W (W.drewN n) := ⟨Nat.le_refl _, fun _ _ _ h => h⟩
theorem nc_setCell {B : Nat} (W : World) (a : Addr) (v : Value) (h : a.block < B) : NC B W (W.setCell a v) := ⟨by simp [World.setCell], fun k _ hB hk => (Below.heap_setCell W a v k (by omega)).trans hk⟩
theorem nc_put {B l : Nat} (W : World) (o : Obj) (h : l < B) : NC B W (W.putObj l o) := ⟨by simp, fun k _ hB hk => (World.putObj_heap_other (by omega)).trans hk⟩
theorem nc_sl {B : Nat} {W W' : World} (h : NC B W W') {α : Type} {s : Nat} {enc : α → List Value} {A : Option Addr} {n c : Nat} {xs : List α} (k : SlAt W B s enc A n c xs) : SlAt W' B s enc A n c xs := by
  refine k.keep h.1 fun p hp hlt => ?_
  have ho : W.heap[p.block]? = some W.heap[p.block] := Array.getElem?_eq_getElem hlt
  exact World.cell?_of_block (w := W) ((h.2 _ _ hp ho).trans ho.symm)
theorem nc_blk {B : Nat} {W W' : World} (h : NC B W W') {g : Nat} {t : TypeId} {cs : Array Value} (k : Blk W g t cs) (hg : B ≤ g) : Blk W' g t cs := h.2 g _ hg k

/-- An iterator: in each of N rounds it hands on values of which G holds, in a world where what it leans on, L, holds; it turns nothing that was there. -/
def IterK (F : Fence) (n : Nat) (P : Program) (g : Nat) (lb : Array Value) (N : Nat) (G : Nat → Array Value → World → Prop) (L : World → Prop) : Prop :=
  ∀ (l : Nat) (J : Nat → World → Prop) (Jx : World → Prop) (W : World),
    (∀ k A B, J k A → Calm W.heap.size A B → J k B) → (∀ A B, Jx A → Calm W.heap.size A B → Jx B) →
    (∀ k vs W1, k < N → J k W1 → L W1 → G k vs W1 → YieldAt F (n - 1) P l vs W1 fun e W' => (e = .returned (.bool true) ∧ J (k + 1) W' ∧ L W' ∧ NC W.heap.size W1 W') ∨ (e = .returned (.bool false) ∧ Jx W' ∧ NC W.heap.size W1 W')) →
    L W → J 0 W →
    CallsIn F n P g (#[.func (.yield l) #[] #[]] ++ lb) W fun e W' => (∃ v, e = .returned v) ∧ (J N W' ∨ Jx W')

/-- How the body of a round may be left. -/
def kPost (B : Nat) (I : World → Prop) (L : World → Prop) (Ix : Code → World → Prop) (W : World) : Exit → Act → World → Prop
  | .normal, _, W' => NC B W W' ∧ I W' ∧ L W'
  | .ret, _, W' => NC B W W' ∧ Ix .ret W'
  | .exit id, _, W' => NC B W W' ∧ Ix (.exit id) W'
  | .goto t, _, W' => NC B W W' ∧ Ix (.goto t) W'
  | .panic _, _, _ => False
  | .outgrown, _, _ => False

variable {F : Fence} {n : Nat} {P : Program}
theorem wp_range {g : Operand} {ps : Array Tmp} {assign body : Code} {Q : Exit → Act → World → Prop} {a : Act} {w : World}
    (hro : F.round = none) (h1 : 1 ≤ n) {gf : Nat} {lb : Array Value} (hg : a.eval g = .func (.func gf) #[] lb) (hFg : F.fn gf) (eg : ∀ args w, (callFunc gf args).run P w = .ok (.enter gf args) w)
    {N : Nat} {G : Nat → Array Value → World → Prop} {L : World → Prop} (hseq : IterK F (n - 1) P gf lb N G L)
    (hps : ∀ k vs W, G k vs W → vs.size = ps.size)
    (I : Nat → World → Prop) (Ix : Code → World → Prop)
    (hI : ∀ k A B, I k A → Calm w.heap.size A B → I k B) (hIx : ∀ c A B, Ix c A → Calm w.heap.size A B → Ix c B) (hL : ∀ A B, L A → Calm w.heap.size A B → L B)
    (h0 : I 0 w) (hL0 : L w)
    (hround : ∀ (l k : Nat) (vs : Array Value) (W : World), w.heap.size ≤ W.heap.size → k < N → I k W → L W → G k vs W →
      assign.wpIn (F.inRound l) (n - 1 - 1) P (Exit.then (fun a₁ W1 => Below W.heap.size W W1 ∧ ∀ W2, Calm w.heap.size W1 W2 → body.wpIn (F.inRound l) (n - 1 - 1) P (kPost w.heap.size (I (k + 1)) L Ix W2) a₁ W2) (fun _ _ _ => False))
        { tmps := (ps.zip vs).foldl (fun t (p, v) => t.setIfInBounds p v) a.tmps, defers := [] } W)
    (hdone : ∀ (D : Nat) (W : World), w.heap.size ≤ D → I N W → W.heap[D]? = some (.deferred (some [])) → Q .normal { a with defers := { target := .collected D, args := #[] } :: a.defers } W)
    (hstop : ∀ (D : Nat) (c : Code) (W : World), w.heap.size ≤ D → Ix c W → W.heap[D]? = some (.deferred (some [])) → c.wpIn F n P Q { a with defers := { target := .collected D, args := #[] } :: a.defers } W) :
    (Code.rangeFunc g ps assign body).wpIn F n P Q a w := by
  refine wpIn_rangeFunc ?_
  intro fn hfn
  rw [hro]
  obtain ⟨rec, hrec⟩ : ∃ rec : LoopState → Option Code → Loop, rec = fun st pe => { state := st, pending := pe, fn, tmps := a.tmps, params := ps, assign, body, defers := w.heap.size } := ⟨_, rfl⟩
  obtain ⟨W1, hW1⟩ : ∃ W1, (w.alloc (.deferred (some []))).alloc (.loop (rec .ready none)) = W1 := ⟨_, rfl⟩
  have hL1 : W1.heap[w.heap.size + 1]? = some (.loop (rec .ready none)) := by
    rw [← hW1]; have := World.alloc_heap_new (w.alloc (.deferred (some []))) (.loop (rec .ready none)); rwa [World.size_alloc] at this
  have hK1 : W1.heap[w.heap.size]? = some (.deferred (some [])) := by
    rw [← hW1]; exact (Below.heap_alloc _ _ _ (by simp)).trans (World.alloc_heap_new w _)
  have hb1 : Below w.heap.size w W1 := by
    rw [← hW1]; exact ((Below.refl _ w).alloc (Nat.le_refl _) _).alloc (by simp) _
  have hs1 : W1.heap.size = w.heap.size + 2 := by rw [← hW1]; simp
  have hc1 : Calm w.heap.size w W1 := calm_of_below hb1 (Nat.le_refl _)
  refine ⟨w.heap.size + 1, [{ target := .collected w.heap.size, args := #[] }], W1, { target := .fn (.func gf) lb, args := #[.func (.yield (w.heap.size + 1)) #[] #[]] }, W1, gf,
    #[.func (.yield (w.heap.size + 1)) #[] #[]] ++ lb, W1, ?_, ?_, ?_, ?_, fun _ => h1, ?_⟩
  · rw [← hW1, hrec]; exact run_enterLoop_outer _ _ _ _ _
  · simp only [resolve, hg]
    simp [go_sem]
  · intro f' hf'; simp [Target.leads] at hf'; subst hf'; exact hFg
  · simp [invoke, go_sem, eg]
  · refine (hseq (w.heap.size + 1)
      (fun k W => I k W ∧ W.heap[w.heap.size + 1]? = some (.loop (rec .ready none)) ∧ W.heap[w.heap.size]? = some (.deferred (some [])))
      (fun W => ∃ c, Ix c W ∧ W.heap[w.heap.size + 1]? = some (.loop (rec .done (some c))) ∧ W.heap[w.heap.size]? = some (.deferred (some [])))
      W1 ?_ ?_ ?_ (hL _ _ hL0 hc1) ⟨hI _ _ _ h0 hc1, hL1, hK1⟩).mono ?_
    · rintro k A B ⟨hi, hl, hk⟩ hb
      exact ⟨hI _ _ _ hi (hb.mono (by omega)), (hb.1.block _ (by omega)).trans hl, (hb.1.block _ (by omega)).trans hk⟩
    · rintro A B ⟨c, hi, hl, hk⟩ hb
      exact ⟨c, hIx _ _ _ hi (hb.mono (by omega)), (hb.1.block _ (by omega)).trans hl, (hb.1.block _ (by omega)).trans hk⟩
    · -- one round
      rintro k vs W hkN ⟨hi, hl, hk⟩ hlw hgw
      have hlt : w.heap.size + 1 < W.heap.size := (Array.getElem?_eq_some_iff.1 hl).1
      have hy := run_yield (P := P) (args := vs) hl (by rw [hrec]; exact hps k vs W hgw)
      rw [hrec] at hy
      refine ⟨fn, _, assign, body, hy, roundIn_of_wpIn hfn (wpIn_mono (hround _ k vs W (by omega) hkN hi hlw hgw) ?_)⟩
      rintro e a₁ W2 hp
      cases e with
      | normal =>
        obtain ⟨hb2, hbody⟩ := hp
        have hl2 : W2.heap[w.heap.size + 1]? = some (.loop (rec .ready none)) := (hb2.block _ hlt).trans hl
        have hk2 : W2.heap[w.heap.size]? = some (.deferred (some [])) := (hb2.block _ (by omega)).trans hk
        refine ⟨_, run_beginRound hl2 (by rw [hrec]), ?_⟩
        have hl3 : (W2.putObj (w.heap.size + 1) (.loop { rec .ready none with state := .busy })).heap[w.heap.size + 1]? = some (.loop { rec .ready none with state := .busy }) := World.putObj_heap_same (Array.getElem?_eq_some_iff.1 hl2).1
        have hk3 : (W2.putObj (w.heap.size + 1) (.loop { rec .ready none with state := .busy })).heap[w.heap.size]? = some (.deferred (some [])) := (World.putObj_heap_other (by omega)).trans hk2
        refine wpIn_mono (hbody _ (calm_put _ hl2 rfl (by omega))) ?_
        have fin : ∀ (jump : Option Code) (W3 : World), NC w.heap.size (W2.putObj (w.heap.size + 1) (.loop { rec .ready none with state := .busy })) W3 →
            (Instr.endRound (w.heap.size + 1) jump).run P W3 = .ok (.bool jump.isNone) (W3.putObj (w.heap.size + 1) (.loop (rec (if jump.isNone then .ready else .done) jump))) ∧
            Calm w.heap.size W3 (W3.putObj (w.heap.size + 1) (.loop (rec (if jump.isNone then .ready else .done) jump))) ∧
            (W3.putObj (w.heap.size + 1) (.loop (rec (if jump.isNone then .ready else .done) jump))).heap[w.heap.size + 1]? = some (.loop (rec (if jump.isNone then .ready else .done) jump)) ∧
            (W3.putObj (w.heap.size + 1) (.loop (rec (if jump.isNone then .ready else .done) jump))).heap[w.heap.size]? = some (.deferred (some [])) := fun jump W3 hnc => by
          have hl4 := hnc.2 _ _ (by omega) hl3
          have := run_endRound (P := P) jump hl4
          rw [hrec] at this ⊢
          exact ⟨this, calm_put _ hl4 rfl (by omega), World.putObj_heap_same (Array.getElem?_eq_some_iff.1 hl4).1, (World.putObj_heap_other (by omega)).trans (hnc.2 _ _ (Nat.le_refl _) hk3)⟩
        rintro e a3 W3 hp
        cases e with
        | normal =>
          obtain ⟨hnc, hi3, hl3'⟩ := hp
          obtain ⟨hr, hc4, hl4, hk4⟩ := fin none W3 hnc
          refine ⟨_, _, hr, .inl ⟨rfl, ⟨hI _ _ _ hi3 hc4, hl4, hk4⟩, hL _ _ hl3' hc4, ?_⟩⟩
          exact (((nc_of_below hb2).trans (nc_put _ _ (by rw [hs1]; omega))).trans (hnc.mono (by rw [hs1]; omega))).trans (nc_put _ _ (by rw [hs1]; omega))
        | ret =>
          obtain ⟨hnc, hi3⟩ := hp
          obtain ⟨hr, hc4, hl4, hk4⟩ := fin (some .ret) W3 hnc
          exact ⟨_, _, hr, .inr ⟨rfl, ⟨.ret, hIx _ _ _ hi3 hc4, hl4, hk4⟩, (((nc_of_below hb2).trans (nc_put _ _ (by rw [hs1]; omega))).trans (hnc.mono (by rw [hs1]; omega))).trans (nc_put _ _ (by rw [hs1]; omega))⟩⟩
        | exit id =>
          obtain ⟨hnc, hi3⟩ := hp
          obtain ⟨hr, hc4, hl4, hk4⟩ := fin (some (.exit id)) W3 hnc
          exact ⟨_, _, hr, .inr ⟨rfl, ⟨.exit id, hIx _ _ _ hi3 hc4, hl4, hk4⟩, (((nc_of_below hb2).trans (nc_put _ _ (by rw [hs1]; omega))).trans (hnc.mono (by rw [hs1]; omega))).trans (nc_put _ _ (by rw [hs1]; omega))⟩⟩
        | goto t =>
          obtain ⟨hnc, hi3⟩ := hp
          obtain ⟨hr, hc4, hl4, hk4⟩ := fin (some (.goto t)) W3 hnc
          exact ⟨_, _, hr, .inr ⟨rfl, ⟨.goto t, hIx _ _ _ hi3 hc4, hl4, hk4⟩, (((nc_of_below hb2).trans (nc_put _ _ (by rw [hs1]; omega))).trans (hnc.mono (by rw [hs1]; omega))).trans (nc_put _ _ (by rw [hs1]; omega))⟩⟩
        | panic ch => exact hp.elim
        | outgrown => exact hp.elim
      | ret => exact hp.elim
      | exit id => exact hp.elim
      | goto t => exact hp.elim
      | panic ch => exact hp.elim
      | outgrown => exact hp.elim
    · -- behind the iterator
      rintro e W2 ⟨⟨v, rfl⟩, (⟨hi, hl, hk⟩ | ⟨c, hi, hl, hk⟩)⟩
      · exact ⟨none, _, by have := run_endLoop (P := P) hl (by rw [hrec]; simp); rw [hrec] at this; exact this, hdone _ _ (Nat.le_refl _) (hI _ _ _ hi (calm_put _ hl rfl (by omega))) ((World.putObj_heap_other (by omega)).trans hk)⟩
      · exact ⟨some c, _, by have := run_endLoop (P := P) hl (by rw [hrec]; simp); rw [hrec] at this; exact this, hstop _ c _ (Nat.le_refl _) (hIx _ _ _ hi (calm_put _ hl rfl (by omega))) ((World.putObj_heap_other (by omega)).trans hk)⟩
theorem Blk.newAt {w : World} {g : Nat} {t : TypeId} {cs : Array Value} (h : w.heap.size = g) : Blk (w.alloc (.cells cs t)) g t cs := h ▸ Blk.new w t cs
end Go.Proofs.YtcmbmmpihiekhaaGreat
namespace Go.Proofs.YtcmbmmpihiekhaaGreat
section
variable {P : Program} {ops : Array Oper} {Q : Exit → Act → World → Prop} {K : Act → World → Prop} {a : Act} {w : World}

theorem operIn_of_wp (l n : Nat) {o : Oper} (hd : ∀ c, o.op ≠ .defer c) (h : o.wp P a w K Q) : o.wpIn (Fence.wide.inRound l) n P a w K Q := by
  refine ⟨fun _ _ => trivial, ?_⟩
  rw [Fence.inRound_round, Oper.semAt_some l _ _ hd]
  unfold Oper.wp at h
  generalize (execOp a.eval o).run P w = r at h
  cases r with
  | ok x w' =>
    cases x
    case enter f args => exact ⟨fun h => (by cases h), CallsIn.inRound l (callsIn_wide.2 (Calls.mono h fun e w'' he => by cases e <;> exact he))⟩
    case row r args => exact ⟨fun h => (by cases h), fun c cs _ => by
        obtain ⟨v, w', r, s⟩ := h c cs
        exact ⟨v, w', r, stepsIn_wide.2 s⟩⟩
    all_goals first | exact h | exact h.elim
  | halt x w' => cases x <;> exact h

theorem wpOpIn_of_wpOp (l n : Nat) (hq : ¬ LetsOut Q) (hd : ∀ (i : Nat) (o : Oper), ops[i]? = some o → ∀ c, o.op ≠ .defer c) {i : Nat} (h : wpOp P ops Q i K a w) : wpOpIn (Fence.wide.inRound l) n P ops Q i K a w := by
  unfold wpOp at h
  unfold wpOpIn
  cases ho : ops[i]? with
  | none => simp only [ho] at h; exact h
  | some o =>
    simp only [ho] at h
    by_cases hw : Region.wanted o (yielded ops a.tmps) = true
    · simp only [hw, if_true] at h ⊢
      exact operIn_of_wp l n (hd i o ho) (h.resolve_right fun h => hq h.2)
    · simp only [hw] at h ⊢
      exact ⟨fun _ _ => trivial, h⟩

theorem wpAnyIn_of_wpAny (l n : Nat) (hq : ¬ LetsOut Q) (hd : ∀ (i : Nat) (o : Oper), ops[i]? = some o → ∀ c, o.op ≠ .defer c) {md : Region.Mode} : ∀ (fuel : Nat) (listed : Array Bool) (a : Act) (w : World),
    wpAny P md ops Q fuel listed a w → wpAnyIn (Fence.wide.inRound l) n P md ops Q fuel listed a w
  | 0, _, _, _, h => h
  | fuel + 1, listed, a, w, h => ⟨h.1, fun i hi => wpOpIn_mono (fun a w => wpAnyIn_of_wpAny l n hq hd fuel _ a w) (wpOpIn_of_wpOp l n hq hd (h.2 i hi))⟩

def noDefer (o : Oper) : Bool := match o.op with | .defer _ => false | _ => true
theorem noDefer_of {l : List Oper} (h : l.all noDefer = true) : ∀ (i : Nat) (o : Oper), l.toArray[i]? = some o → ∀ c, o.op ≠ .defer c := by
  intro i o ho c e
  have := List.all_eq_true.1 h o (List.mem_of_getElem? (by simpa using ho))
  simp [noDefer, e] at this

/-! A region that only reads, in a round. -/
theorem wpIn_quiet_round {id l n : Nat} {os : List Oper} (hm : P.follows .mixedOrders = true) (hB : Region.lexB .any os.toArray = true) (hd : os.all noDefer = true) (hq : ¬ LetsOut Q)
    (h : wpQuiet P os.toArray (fun w' => ∃ n, w' = w.drewN n) (fun a' => ∀ w', (∃ n, w' = w.drewN n) → Q .normal a' w') os a) : (Code.region id os.toArray true).wpIn (Fence.wide.inRound l) n P Q a w := by
  simp only [Region.lexB, Bool.and_eq_true] at hB
  refine wpIn_region_any hm (wpAnyIn_of_wpAny l n hq (noDefer_of hd) _ _ _ _ (wpAny_of_quiet (C := fun w' => ∃ n, w' = w.drewN n) (Q := fun a' => ∀ w', (∃ n, w' = w.drewN n) → Q .normal a' w') (fun _ w' hw' h => h w' hw') _ _ _ _ ⟨1, rfl⟩ ?_))
  have := wpAnyQ_lex (C := fun w' => ∃ n, w' = w.drewN n) (md := .any) hB.1 os.toArray.toList 0 (Array.replicate os.toArray.size false) a (by simp) (by simpa using hB.2) (by simpa using h)
  simpa using this

theorem quiet_end {C : World → Prop} {L : Act → Prop} (h : L a) : wpQuiet P ops C L [] a := h
theorem still_end {L : Act → Prop} (h : L a) : wpStill P ops w L [] a := h
/-! A region whose first m operations only read, and whose others come one behind the other, in a round. -/
theorem wpIn_tail_round {id l n : Nat} {os : List Oper} (m : Nat) (hm : P.follows .mixedOrders = true) (hB : Region.lexTailB .any os.toArray m = true) (hd : os.all noDefer = true) (hq : ¬ LetsOut Q)
    (h : wpStill P os.toArray w.drew (fun a' => wpList P os.toArray Q (os.drop m) a' w.drew) (os.take m) a) : (Code.region id os.toArray true).wpIn (Fence.wide.inRound l) n P Q a w := by
  refine wpIn_region_any hm (wpAnyIn_of_wpAny l n hq (noDefer_of hd) _ _ _ w.drew ?_)
  simp only [Region.lexTailB, Bool.and_eq_true, decide_eq_true_eq] at hB
  obtain ⟨⟨⟨⟨hse, hlt⟩, hsi⟩, hch⟩, hlex⟩ := hB
  have e1 : (os.take m).length = m := by simp at hlt ⊢; omega
  have e2 : (os.drop m).length = os.toArray.size - m := by simp
  have key := wpAnyL_lex (md := .any) (g := os.toArray.size - m) (Lq := fun a' => wpList P os.toArray Q (os.drop m) a' w.drew) hse hsi hch hlt (os.take m) 0 (Array.replicate os.toArray.size false) a (fun j hj => by
    rw [e1] at hj; simp [hj]) (by simpa using e1) ⟨by simp, fun j oj _ hl => (by rw [getD_replicate_false] at hl; cases hl), fun t _ ht => getD_in (by simpa using ht) (getD_replicate_false _ _)⟩ (by rw [e1]; exact hlex) h
  have fin := wpAny_of_head (Q' := Q) (g := os.toArray.size - m) (fun li a' hL => by
    have := wpAny_of_seq (md := .any) (Q' := Q) (os.drop m) m li a' w.drew (fun j => by simp [List.getElem?_drop]) (by rw [e2]; exact hL.1) hL.2
    rwa [e2] at this) _ _ _ key
  rw [e1, Nat.add_sub_cancel' (Nat.le_of_lt hlt)] at fin
  exact fin
end
end Go.Proofs.YtcmbmmpihiekhaaGreat
namespace Go.Proofs.YtcmbmmpihiekhaaGreat
section
variable {P : Program} {ops : Array Oper} {Q : Exit → Act → World → Prop} {md : Region.Mode} {S : World → Prop}
/-! One operation comes up alone. -/
theorem held_one {i : Nat} {o : Oper} {fuel : Nat} {listed : Array Bool} {a : Act} {w : World} (hr : Region.ready md ops listed = [i]) (ho : ops[i]? = some o) (hg : Region.wanted o (yielded ops a.tmps) = true)
    (h : ∀ K' : Act → World → Prop, (∀ a' w', S w' → wpAnyH P md ops Q S fuel (listed.setIfInBounds i true) a' w' → K' a' w') → o.wp P a w K' Q) :
    wpAnyH P md ops Q S (fuel + 1) listed a w := by
  refine ⟨fun h0 => absurd (hr ▸ h0) (by simp), fun j hj => ?_⟩
  rw [hr] at hj
  obtain rfl := List.mem_singleton.1 hj
  unfold wpOp
  simp only [ho]
  rw [if_pos hg]
  exact .inl (h _ fun a' w' hS hW => ⟨hS, hW⟩)
/-! One operation comes up alone, and is passed over. -/
theorem held_two {i j : Nat} {oi oj : Oper} {fuel : Nat} {listed : Array Bool} {a : Act} {w : World} (hr : Region.ready md ops listed = [i, j]) (hi : ops[i]? = some oi) (hj : ops[j]? = some oj) (hgi : oi.guard = none) (hgj : oj.guard = none)
    (h1 : ∀ K' : Act → World → Prop, (∀ a' w', S w' → wpAnyH P md ops Q S fuel (listed.setIfInBounds i true) a' w' → K' a' w') → oi.wp P a w K' Q)
    (h2 : ∀ K' : Act → World → Prop, (∀ a' w', S w' → wpAnyH P md ops Q S fuel (listed.setIfInBounds j true) a' w' → K' a' w') → oj.wp P a w K' Q) :
    wpAnyH P md ops Q S (fuel + 1) listed a w := by
  refine ⟨fun h0 => absurd (hr ▸ h0) (by simp), fun m hm => ?_⟩
  rw [hr] at hm
  rcases List.mem_cons.1 hm with rfl | hm
  · unfold wpOp
    simp only [hi]
    rw [if_pos (by simp [Region.wanted, hgi])]
    exact .inl (h1 _ fun a' w' hS hW => ⟨hS, hW⟩)
  · obtain rfl := List.mem_singleton.1 hm
    unfold wpOp
    simp only [hj]
    rw [if_pos (by simp [Region.wanted, hgj])]
    exact .inl (h2 _ fun a' w' hS hW => ⟨hS, hW⟩)
theorem noDefer_arr {ops : Array Oper} (h : ops.toList.all noDefer = true) : ∀ (i : Nat) (o : Oper), ops[i]? = some o → ∀ c, o.op ≠ .defer c := by
  intro i o ho c e
  have hm : o ∈ ops.toList := by
    have := Array.mem_of_getElem? ho
    simpa using this
  have := List.all_eq_true.1 h o hm
  simp [noDefer, e] at this
theorem wpIn_held_round {id l n : Nat} {a : Act} {w : World} (S : World → Prop) (hm : P.follows .mixedOrders = true) (hd : ops.toList.all noDefer = true) (hq : ¬ LetsOut Q)
    (h : wpAnyH P .any ops Q S ops.size (Array.replicate ops.size false) a w.drew) : (Code.region id ops true).wpIn (Fence.wide.inRound l) n P Q a w :=
  wpIn_region_any hm (wpAnyIn_of_wpAny l n hq (noDefer_arr hd) _ _ _ _ (wpAny_of_held _ _ _ _ h))
/-! A read is taken first; its place is told. -/
theorem held_take {i : Nat} {oi : Oper} {v : Value} (d : Tmp) {fuel : Nat} {listed : Array Bool} {a : Act} {w : World} (hi : ops[i]? = some oi) (hd : oi.dst = some d)
    (hs : Region.noSelect ops = true) (hf : Region.free md ops listed i = true) (hr : (Region.ready md ops listed).contains i = true)
    (hQ : ∀ c a w, Q (.panic c) (a.put (some d) v) w → Q (.panic c) a w) (hy : YieldsIf P ops S oi v a) (hS : S w)
    (h : wpAnyH P md ops Q S fuel (listed.setIfInBounds i true) (a.put (some d) v) w) : wpAnyH P md ops Q S (fuel + 1) listed a w :=
  wpAnyH_take hi hs hf hr (by rw [hd]; exact hQ) hy hS (by rw [hd]; exact h)
/-! Short forms: what they ask is found by themselves. -/
theorem sA {α : Type} (l : List α) (i : Nat) (a : α) : l.toArray.setIfInBounds i a = (l.set i a).toArray := List.setIfInBounds_toArray l i a
theorem sZ {α : Type} {x : α} {xs : List α} {a : α} : (x :: xs).set 0 a = a :: xs := List.set_cons_zero
theorem sS {α : Type} {x : α} {xs : List α} {i : Nat} {a : α} : (x :: xs).set (i + 1) a = x :: xs.set i a := List.set_cons_succ
theorem hTk {oi : Oper} {v : Value} {fuel : Nat} {listed : Array Bool} {a a' : Act} {w : World} (i : Nat) (d : Tmp)
    (h : wpAnyH P md ops Q S fuel (listed.setIfInBounds i true) a' w)
    (hi : ops[i]? = some oi := by exact rfl) (hd : oi.dst = some d := by exact rfl)
    (hs : Region.noSelect ops = true := by kernel_rfl) (hf : Region.free md ops listed i = true := by kernel_rfl) (hr : (Region.ready md ops listed).contains i = true := by kernel_rfl)
    (hS : S w := by assumption)
    (hy : YieldsIf P ops S oi v a := by exact Or.inl ⟨by rfl, by intro w1 h1; (try dsimp only at h1); go_simp; all_goals with_reducible rfl⟩)
    (ha : a.put (some d) v = a' := by (try simp only [Act.put, sA, sZ, sS]); (try rfl))
    (hQ : ∀ c a w, Q (.panic c) (a.put (some d) v) w → Q (.panic c) a w := by exact fun _ _ _ h => h) : wpAnyH P md ops Q S (fuel + 1) listed a w :=
  held_take d hi hd hs hf hr hQ hy hS (ha ▸ h)
theorem hOne {o : Oper} {fuel : Nat} {listed : Array Bool} {a : Act} {w : World} (i : Nat)
    (h : ∀ K' : Act → World → Prop, (∀ a' w', S w' → wpAnyH P md ops Q S fuel (listed.setIfInBounds i true) a' w' → K' a' w') → o.wp P a w K' Q)
    (hr : Region.ready md ops listed = [i] := by kernel_rfl) (ho : ops[i]? = some o := by exact rfl) (hg : Region.wanted o (yielded ops a.tmps) = true := by exact rfl) :
    wpAnyH P md ops Q S (fuel + 1) listed a w := held_one hr ho hg h
theorem wpIn_till_round {id l n : Nat} {a : Act} {w : World} (S : World → Prop) (n0 : Nat) (hm : P.follows .mixedOrders = true) (hd : ops.toList.all noDefer = true) (hq : ¬ LetsOut Q)
    (h : anyTill P .any ops Q S n0 ops.size (Array.replicate ops.size false) a w.drew) : (Code.region id ops true).wpIn (Fence.wide.inRound l) n P Q a w :=
  wpIn_region_any hm (wpAnyIn_of_wpAny l n hq (noDefer_arr hd) _ _ _ _ (wpAny_of_till _ _ _ _ h))
theorem till_taked {n0 i : Nat} {oi : Oper} {v : Value} (d : Tmp) {fuel : Nat} {listed : Array Bool} {a : Act} {w : World} (hi : ops[i]? = some oi) (hd : oi.dst = some d)
    (hs : Region.noSelect ops = true) (hf : Region.free md ops listed i = true) (hr : (Region.ready md ops listed).contains i = true) (hwait : Region.waitsFor md ops n0 i = true) (hin : decide (i = n0) = false) (hn : listed.getD n0 false = false)
    (hQ : ∀ c a w, Q (.panic c) (a.put (some d) v) w → Q (.panic c) a w) (hy : YieldsIf P ops S oi v a) (hS : S w)
    (h : anyTill P md ops Q S n0 fuel (listed.setIfInBounds i true) (a.put (some d) v) w) : anyTill P md ops Q S n0 (fuel + 1) listed a w :=
  till_take hi hs hf hr hwait hin hn (by rw [hd]; exact hQ) hy hS (by rw [hd]; exact h)
def noPanic (Q : Exit → Act → World → Prop) : Exit → Act → World → Prop
  | .panic _, _, _ => False
  | e, a, w => Q e a w
theorem noPanic_normal {a : Act} {w : World} (h : Q .normal a w) : noPanic Q .normal a w := h
theorem wp_held_np {id : Nat} {a : Act} {w : World} (S : World → Prop) (hm : P.follows .mixedOrders = true)
    (h : wpAnyH P .any ops (noPanic Q) S ops.size (Array.replicate ops.size false) a w.drew) : (Code.region id ops true).wp P Q a w :=
  Code.wp_mono (fun e a w q => by cases e <;> first | exact q | exact q.elim) (wp_region_held hm h)
theorem hOpn {id : Nat} {a : Act} {V : World} (S : World → Prop) (hb : ∀ W', RowKit.Below V.heap.size V W' → S W')
    (h : RowKit.Hid (∀ W', RowKit.Below V.heap.size V W' → S W') → RowKit.Below V.heap.size V V.drew → S V.drew → V.heap.size ≤ V.drew.heap.size → wpAnyH P .any ops (noPanic Q) S ops.size (Array.replicate ops.size false) a V.drew)
    (hm : P.follows .mixedOrders = true := by kernel_rfl) : (Code.region id ops true).wp P Q a V :=
  wp_held_np S hm (h (Lib.hid hb) (RowKit.Below.refl _ _).drew (hb _ (RowKit.Below.refl _ _).drew) (Nat.le_refl _))
theorem hmfT {P : Program} : ∀ (fn : Fn) (first cap : Array Value) (w : World), (Instr.makeFunc fn first cap).run P w = .ok (.func fn first cap) w := fun _ _ _ _ => rfl
theorem hstT {P : Program} : ∀ (a : Addr) (fn : Fn) (b c : Array Value) (m : Mode) (w : World), (store a (.func fn b c) m).run P w = stored P w a (.func fn b c) m := fun _ _ _ _ _ _ => run_store _ _ _ _ _ rfl
theorem wpAnyH_two {fuel : Nat} {listed : Array Bool} {a : Act} {w : World} (d4 d5 : Tmp) (B : Nat → Nat → World → Prop)
    (h1 : ∀ g4 g5 W, B g4 g5 W → Q .normal ((a.put (some d4) (.pointer (some ⟨g4, 0, none⟩))).put (some d5) (.pointer (some ⟨g5, 0, none⟩))) W)
    (h2 : (∀ g4 g5 W, B g4 g5 W → Q .normal ((a.put (some d4) (.pointer (some ⟨g4, 0, none⟩))).put (some d5) (.pointer (some ⟨g5, 0, none⟩))) W) → wpAnyH P md ops Q S fuel listed a w) : wpAnyH P md ops Q S fuel listed a w := h2 h1
/-! What is the same wherever the walk of a region ends is shown once. -/
end
end Go.Proofs.YtcmbmmpihiekhaaGreat
namespace Go.Proofs.YtcmbmmpihiekhaaGreat
theorem wpAnyH_fin {P : Program} {ops : Array Oper} {Q : Exit → Act → World → Prop} {md : Region.Mode} {S : World → Prop} {fuel : Nat} {listed : Array Bool} {a : Act} {w : World} {α : Type} (f : Act → α → Act) (B : α → World → Prop)
    (h1 : ∀ g W, B g W → Q .normal (f a g) W) (h2 : (∀ g W, B g W → Q .normal (f a g) W) → wpAnyH P md ops Q S fuel listed a w) : wpAnyH P md ops Q S fuel listed a w := h2 h1
end Go.Proofs.YtcmbmmpihiekhaaGreat
