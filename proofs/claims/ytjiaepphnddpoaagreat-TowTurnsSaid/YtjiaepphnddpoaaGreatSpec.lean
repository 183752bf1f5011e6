/-
  What the chapter on streamers says, as plain functions on lists of numbers. Nothing of the program stands here.
-/
import Derived.Test.YtjiaepphnddpoaaGreatBase
namespace Go.Proofs.YtjiaepphnddpoaaGreat

def okBnd (m : Int) (b : Bnd) : Bool := decide (-m ≤ b.lo ∧ b.lo ≤ b.hi ∧ b.hi ≤ m)
def okSec (x : Sec) : Bool := decide (1 ≤ x.len ∧ x.len ≤ 1000 ∧ 0 ≤ x.fol ∧ x.fol ≤ 64 ∧ 0 ≤ x.bird ∧ x.bird ≤ 1000 ∧ 0 ≤ x.drag ∧ x.drag ≤ 1000 ∧ 0 ≤ x.cap ∧ x.cap ≤ 1073741824)
def headOk (s : Strm) : Prop := -2000 ≤ s.head ∧ s.head ≤ 2000 ∧ 1 ≤ s.secs.length ∧ s.secs.length ≤ 8 ∧ -4000 ≤ s.lane.lo ∧ s.lane.lo ≤ s.lane.hi ∧ s.lane.hi ≤ 4000 ∧ 0 ≤ s.bend ∧ s.bend ≤ 1000
instance (s : Strm) : Decidable (headOk s) := by unfold headOk; infer_instance
def okStrm (s : Strm) : Bool := decide (headOk s) && s.secs.all okSec
def chkStrm (s : Strm) : Int := if okStrm s = true then 0 else 30
def okWat (x : Wat) : Bool := okBnd 100 x.acr && okBnd 50 x.alo
def okWats (l : List Wat) : Bool := decide (l.length ≤ 48) && l.all okWat
def chkWats (l : List Wat) : Int := if okWats l = true then 0 else 33
def okNum (m n : Int) : Bool := decide (-m ≤ n ∧ n ≤ m)
def okNums (s : Strm) (l : List Int) (m : Int) : Bool := decide (l.length = s.secs.length) && l.all (okNum m)
def okOffs (s : Strm) (bs : List Bnd) : Bool := decide (bs.length = s.secs.length) && bs.all (okBnd 16384)
def errB (s : Strm) (bs : List Bnd) : Int := if okStrm s = true then (if okOffs s bs = true then 0 else 31) else 30
def okSpeed (n : Int) : Bool := decide (0 ≤ n ∧ n ≤ 100)
def okSpeeds (l : List Int) : Bool := l.all okSpeed

def sec0 : Sec := ⟨0, 0, 0, 0, 0⟩
def Strm.sec (s : Strm) (i : Nat) : Sec := s.secs.getD i sec0

def eased (s : Strm) (x : Sec) (own before drift : Int) : Int :=
  let n := ((64 - x.fol) * own + x.fol * before) / 64 + drift
  let m := if s.lane.hi < n then max s.lane.hi (n - x.bird) else if n < s.lane.lo then min s.lane.lo (n + x.bird) else n
  max (-16384) (min m 16384)

/-- What stands before element k; the head before the first one. -/
def prev {α : Type} (h : α) (l : List α) : Nat → α
  | 0 => h
  | k + 1 => l.getD k h
def eachL {α β : Type} (f : Nat → α → α → β) (h : α) (l : List α) : List β := (List.range l.length).map fun i => f i (l.getD i h) (prev h l i)

def stepL (s : Strm) (offs drifts : List Int) : List Int := eachL (fun i own bef => eased s (s.sec i) own bef (drifts.getD i 0)) s.head offs
def stepR (s : Strm) (offs drifts : List Int) : List Int × Int :=
  if okStrm s = true then (if okNums s offs 16384 = true then (if okNums s drifts 100 = true then (stepL s offs drifts, 0) else ([], 32)) else ([], 31)) else ([], 30)

def still (n : Int) : Bnd := ⟨n, n⟩
def encB (s : Strm) (d : Bnd) (i : Nat) (own bef : Bnd) : Bnd := ⟨eased s (s.sec i) own.lo bef.lo d.lo, eased s (s.sec i) own.hi bef.hi d.hi⟩
def encL (s : Strm) (bs : List Bnd) (d : Bnd) : List Bnd := eachL (encB s d) (still s.head) bs
def bendB (own bef : Bnd) : Bnd := ⟨max (max 0 (own.lo - bef.hi)) (bef.lo - own.hi), max (own.hi - bef.lo) (bef.hi - own.lo)⟩
def bendL (s : Strm) (bs : List Bnd) : List Bnd := eachL (fun _ own bef => bendB own bef) (still s.head) bs

def sumB : List Bnd → Bnd
  | [] => ⟨0, 0⟩
  | b :: bs => ⟨(sumB bs).lo + b.lo, (sumB bs).hi + b.hi⟩
def ownPull (slow fast : Int) (x : Sec) (b : Bnd) : Bnd := ⟨x.drag * (slow * slow + b.lo), x.drag * (fast * fast + b.hi)⟩
def pullL (s : Strm) (bs : List Bnd) (v : Int) (cur : Bnd) : List Bnd :=
  (List.range bs.length).map fun i => sumB ((List.zipWith (ownPull (max 0 (v - cur.hi)) (max 0 (v - cur.lo))) s.secs (bendL s bs)).drop i)

def encR (s : Strm) (bs : List Bnd) (d : Bnd) : List Bnd × Int :=
  if errB s bs = 0 then (if okBnd 100 d = true then (encL s bs d, 0) else ([], 32)) else ([], errB s bs)
def bendR (s : Strm) (bs : List Bnd) : List Bnd × Int := if errB s bs = 0 then (bendL s bs, 0) else ([], errB s bs)
def pullR (s : Strm) (bs : List Bnd) (v : Int) (cur : Bnd) : List Bnd × Int :=
  if errB s bs = 0 then (if okSpeed v = true then (if okBnd 50 cur = true then (pullL s bs v cur, 0) else ([], 33)) else ([], 34)) else ([], errB s bs)

def bentS (s : Strm) (bs : List Bnd) : Bool := (bendL s bs).any fun x => decide (s.bend < x.hi)
def pulledS (s : Strm) (bs : List Bnd) (v : Int) (cur : Bnd) : Bool := (List.range bs.length).any fun i => decide ((s.sec i).cap < ((pullL s bs v cur).getD i ⟨0, 0⟩).hi)
def wat0 : Wat := ⟨⟨0, 0⟩, ⟨0, 0⟩⟩
/-- The bounds after so many steps. -/
def encAt (s : Strm) (bs : List Bnd) (l : List Wat) : Nat → List Bnd
  | 0 => bs
  | k + 1 => encL s (encAt s bs l k) (l.getD k wat0).acr
/-- The first number below n of which p holds; -1: none. -/
def fstN (p : Nat → Bool) : Nat → Int
  | 0 => -1
  | n + 1 => if 0 ≤ fstN p n then fstN p n else if p n = true then n else -1
def bentN (s : Strm) (bs : List Bnd) (l : List Wat) (i : Nat) : Bool := bentS s (encAt s bs l (i + 1))
def pulledN (s : Strm) (bs : List Bnd) (l : List Wat) (v : List Int) (i : Nat) : Bool := pulledS s (encAt s bs l (i + 1)) (v.getD i 0) (l.getD i wat0).alo
def strainS (s : Strm) (bs : List Bnd) (l : List Wat) (v : List Int) (n : Nat) : Int × Int := (fstN (bentN s bs l) n, fstN (pulledN s bs l v) n)
def errBW (s : Strm) (bs : List Bnd) (l : List Wat) : Int := if errB s bs = 0 then chkWats l else errB s bs
def errW (s : Strm) (bs : List Bnd) (l : List Wat) (v : List Int) : Int :=
  if errBW s bs l = 0 then (if v.length = l.length ∧ okSpeeds v = true then 0 else 34) else errBW s bs l
def watchR (s : Strm) (bs : List Bnd) (l : List Wat) (v : List Int) : (Int × Int) × Int := if errW s bs l v = 0 then (strainS s bs l v l.length, 0) else ((0, 0), errW s bs l v)
def keepsS (s : Strm) (bs : List Bnd) (l : List Wat) (v : List Int) : Bool := decide (strainS s bs l v l.length = (-1, -1))
def keepsR (s : Strm) (bs : List Bnd) (l : List Wat) (v : List Int) : Bool × Int := if errW s bs l v = 0 then (keepsS s bs l v, 0) else (false, errW s bs l v)
end Go.Proofs.YtjiaepphnddpoaaGreat
