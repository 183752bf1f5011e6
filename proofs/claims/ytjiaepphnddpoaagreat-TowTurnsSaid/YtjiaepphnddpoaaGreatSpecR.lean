/-
  What the chapters say on regions, nodes and headings, as plain functions. Nothing of the program stands here.
-/
import Derived.Test.YtjiaepphnddpoaaGreatSpec
namespace Go.Proofs.YtjiaepphnddpoaaGreat

def okReg (r : Reg) : Bool := okBnd 32768 r.x && okBnd 32768 r.y && okBnd 65536 r.s && okBnd 65536 r.d
def chkReg (r : Reg) : Int := if okReg r = true then 0 else 11
def okPnt (p : Pnt) : Bool := decide (-32768 ≤ p.x ∧ p.x ≤ 32768 ∧ -32768 ≤ p.y ∧ p.y ≤ 32768)
def chkPnt (p : Pnt) : Int := if okPnt p = true then 0 else 10
def noReg : Reg := ⟨⟨0, 0⟩, ⟨0, 0⟩, ⟨0, 0⟩, ⟨0, 0⟩⟩
def allReg : Reg := ⟨⟨-32768, 32768⟩, ⟨-32768, 32768⟩, ⟨-65536, 65536⟩, ⟨-65536, 65536⟩⟩
/-- The points with an x, from a y to another one. -/
structure RRow where
  x : Int
  fr : Int
  to : Int
  deriving DecidableEq
def rowB (r : Reg) (x : Int) : RRow := ⟨x, max r.y.lo (max (r.s.lo - x) (x - r.d.hi)), min r.y.hi (min (r.s.hi - x) (x - r.d.lo))⟩
def rowsTo (r : Reg) : Nat → List RRow
  | 0 => []
  | k + 1 => rowsTo r k ++ (if (rowB r (r.x.lo + k)).fr ≤ (rowB r (r.x.lo + k)).to then [rowB r (r.x.lo + k)] else [])
def nX (r : Reg) : Nat := (r.x.hi + 1 - r.x.lo).toNat
def rowsL (r : Reg) : List RRow := rowsTo r (nX r)
def rowPts (q : RRow) : List Pnt := if q.fr = q.to then [⟨q.x, q.fr⟩] else [⟨q.x, q.fr⟩, ⟨q.x, q.to⟩]
def ptsL (r : Reg) : List Pnt := (rowsL r).flatMap rowPts
def ofP (p : Pnt) : Reg := ⟨still p.x, still p.y, still (p.x + p.y), still (p.x - p.y)⟩
def spanB (a b : Bnd) : Bnd := ⟨min a.lo b.lo, max a.hi b.hi⟩
def cutB (a b : Bnd) : Bnd := ⟨max a.lo b.lo, min a.hi b.hi⟩
def plusB (a b : Bnd) : Bnd := ⟨a.lo + b.lo, a.hi + b.hi⟩
def minusB (a b : Bnd) : Bnd := ⟨a.lo - b.hi, a.hi - b.lo⟩
def zipR (f : Bnd → Bnd → Bnd) (a b : Reg) : Reg := ⟨f a.x b.x, f a.y b.y, f a.s b.s, f a.d b.d⟩
def addP : Option Reg → Pnt → Option Reg
  | none, p => some (zipR spanB (ofP p) (ofP p))
  | some h, p => some (zipR spanB h (ofP p))
def hullL (l : List Pnt) : Option Reg := l.foldl addP none
def tightO (r : Reg) : Option Reg := hullL (ptsL r)
def doneR : Option Reg → Reg × Int
  | none => (noReg, 4)
  | some h => (h, 0)
def tightR (r : Reg) : Reg × Int := if okReg r = true then doneR (tightO r) else (noReg, 11)
def insideR (f : Reg) : Reg × Int := if okBnd 32768 f.x = true ∧ okBnd 32768 f.y = true then (f, 0) else (noReg, 7)
def moveR (r : Reg) (b : Pnt) : Reg × Int :=
  if okReg r = true then
    (if -65536 ≤ b.x ∧ b.x ≤ 65536 ∧ -65536 ≤ b.y ∧ b.y ≤ 65536 then
      (match tightO r with
      | none => (noReg, 4)
      | some x => insideR (zipR plusB x (ofP b)))
    else (noReg, 7))
  else (noReg, 11)

/-- The square root of a number, rounded down. -/
def isq : Nat → Nat
  | 0 => 0
  | n + 1 => if (isq n + 1) * (isq n + 1) ≤ n + 1 then isq n + 1 else isq n
theorem isq_spec : ∀ n, isq n * isq n ≤ n ∧ n < (isq n + 1) * (isq n + 1)
  | 0 => by simp [isq]
  | n + 1 => by
    obtain ⟨h1, h2⟩ := isq_spec n
    rw [isq]
    split
    · rename_i h
      refine ⟨h, ?_⟩
      have : (isq n + 1 + 1) * (isq n + 1 + 1) = (isq n + 1) * (isq n + 1) + 2 * (isq n + 1) + 1 := by simp only [Nat.add_mul, Nat.mul_add]; omega
      omega
    · rename_i h
      exact ⟨by omega, by omega⟩
theorem isq_eq {n r : Nat} (h1 : r * r ≤ n) (h2 : n < (r + 1) * (r + 1)) : isq n = r := by
  obtain ⟨a, b⟩ := isq_spec n
  rcases Nat.lt_trichotomy (isq n) r with h | h | h
  · have := Nat.mul_le_mul (show isq n + 1 ≤ r from h) (show isq n + 1 ≤ r from h); omega
  · exact h
  · have := Nat.mul_le_mul (show r + 1 ≤ isq n from h) (show r + 1 ≤ isq n from h); omega
def rootS (n : Int) : Int := (isq n.toNat : Nat)

/-! Nodes. -/
def shortS (len m : Int) : Int := rootS (len * len - min m len * min m len)
def farS (s : Strm) : Nat → Int
  | 0 => 0
  | k + 1 => farS s k + (s.sec k).len
def nearS (s : Strm) (bs : List Bnd) : Nat → Int
  | 0 => 0
  | k + 1 => nearS s bs k + shortS (s.sec k).len ((bendL s bs).getD k ⟨0, 0⟩).hi
def nodeR (s : Strm) (bs : List Bnd) (k : Nat) : Reg :=
  (tightR { allReg with x := ⟨-farS s (k + 1), -nearS s bs (k + 1)⟩, y := bs.getD k ⟨0, 0⟩ }).1
def nodesL (s : Strm) (bs : List Bnd) : List Reg := (List.range bs.length).map (nodeR s bs)
def nodesR (s : Strm) (bs : List Bnd) : List Reg × Int := if errB s bs = 0 then (nodesL s bs, 0) else ([], errB s bs)

/-! Headings. -/
structure Hdg where
  p : Int
  q : Int
  c : Int
  deriving DecidableEq
def okHdg (h : Hdg) : Bool := decide (1 ≤ h.c ∧ h.c ≤ 1000 ∧ -h.c ≤ h.p ∧ h.p ≤ h.c ∧ -h.c ≤ h.q ∧ h.q ≤ h.c ∧ h.p * h.p + h.q * h.q = h.c * h.c)
def chkHdg (h : Hdg) : Int := if okHdg h = true then 0 else 35
def addE : Option Bnd → Int × Int → Option Bnd
  | none, v => some ⟨min v.1 (min v.1 v.2), max v.1 (max v.1 v.2)⟩
  | some o, v => some ⟨min o.lo (min v.1 v.2), max o.hi (max v.1 v.2)⟩
def extO (l : List RRow) (p q : Int) : Option Bnd := l.foldl (fun o w => addE o (p * w.x + q * w.fr, p * w.x + q * w.to)) none
def extB (r : Reg) (p q : Int) : Bnd := (extO (rowsL r) p q).getD ⟨0, 0⟩
def floorS (a b : Int) : Int := a / b
def ceilS (a b : Int) : Int := -((-a) / b)
def turnB (r : Reg) (c p q : Int) : Bnd := ⟨floorS (extB r p q).lo c, ceilS (extB r p q).hi c⟩
def turnedS (r : Reg) (h : Hdg) : Reg := ⟨turnB r h.c h.p (-h.q), turnB r h.c h.q h.p, turnB r h.c (h.p + h.q) (h.p - h.q), turnB r h.c (h.p - h.q) (-h.q - h.p)⟩
def inPlane (r : Reg) : Bool := okBnd 32768 r.x && okBnd 32768 r.y
def turnedR (r : Reg) (h : Hdg) : Reg × Int :=
  if okReg r = true then
    (if okHdg h = true then
      (match tightO r with
      | none => (noReg, 4)
      | some t => if inPlane (turnedS t h) = true then (turnedS t h, 0) else (noReg, 7))
    else (noReg, 35))
  else (noReg, 11)
end Go.Proofs.YtjiaepphnddpoaaGreat
