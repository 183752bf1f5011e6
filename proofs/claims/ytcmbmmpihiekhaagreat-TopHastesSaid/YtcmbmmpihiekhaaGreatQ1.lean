/-
  What the chapter on shots says, as plain functions on lists of numbers. Nothing of the program stands here.
-/
import Derived.Test.YtcmbmmpihiekhaaGreatBase
set_option maxRecDepth 100000
set_option maxHeartbeats 16000000
set_option linter.unusedSimpArgs false
set_option linter.unusedVariables false
namespace Go.Proofs.YtcmbmmpihiekhaaGreat
open Go.RowKit

structure Gun where
  vol : Int
  time : Int
  late : Bnd
deriving DecidableEq
structure Arr where
  sh : List Int
  gs : List Gun
def arrLen (a : Arr) : Prop := 1 ≤ a.sh.length ∧ a.sh.length ≤ 32 ∧ 1 ≤ a.gs.length ∧ a.gs.length ≤ 8
instance (a : Arr) : Decidable (arrLen a) := by unfold arrLen; infer_instance
/-! the worst delays -/
/-! losses -/
/-! firing -/
structure Fir where
  start : Int
  every : Int
  srcs : Int
  shots : Int
  charge : Int
structure Sht where
  tick : Int
  src : Int
  weak : Bool
deriving DecidableEq
def Sht.cells (x : Sht) : List Value := [.int .i64 x.tick, .int .i64 x.src, .bool x.weak]
theorem SlAt.sht {w : World} {B n c k : Nat} {A : Option Addr} {xs : List Sht} {x : Sht} (h : SlAt w B 3 Sht.cells A n c xs) (hk : xs[k]? = some x) :
    ∃ b off, A = some ⟨b, off, none⟩ ∧ B ≤ b ∧ b < w.heap.size ∧ w.cell? ⟨b, off + k * 3, none⟩ = some (.int .i64 x.tick) ∧ w.cell? ⟨b, off + k * 3 + 1, none⟩ = some (.int .i64 x.src) ∧ w.cell? ⟨b, off + k * 3 + 2, none⟩ = some (.bool x.weak) := by
  obtain ⟨b, off, hA, hB, hb, hc⟩ := h.at_ hk
  exact ⟨b, off, hA, hB, hb, hc 0 _ rfl, hc 1 _ rfl, hc 2 _ rfl⟩
def okFir (f : Fir) : Bool := decide (0 ≤ f.start ∧ f.start ≤ 1048576 ∧ 1 ≤ f.every ∧ f.every ≤ 1000 ∧ 1 ≤ f.srcs ∧ f.srcs ≤ 4 ∧ 1 ≤ f.shots ∧ f.shots ≤ 64 ∧ 0 ≤ f.charge ∧ f.charge ≤ 1000)
def chkFir (f : Fir) : Int := if okFir f = true then 0 else 52
def dueS (f : Fir) (n : Nat) : Int := f.start + n * f.every
/-- The first tick whose distance is at least far; -1: none. -/
def reachS : List Int → Int → Nat → Int
  | [], _, _ => -1
  | x :: xs, far, k => if far ≤ x then k else reachS xs far (k + 1)
def tickS (f : Fir) (way : List Int) (n : Nat) : Int := reachS way (dueS f n) 0
def weakS (f : Fir) (way : List Int) (n : Nat) : Bool :=
  decide (0 ≤ tickS f way n) && decide (f.srcs ≤ n) && decide (tickS f way n - tickS f way (n - f.srcs.toNat) < f.charge)
def shotS (f : Fir) (way : List Int) (n : Nat) : Sht := ⟨tickS f way n, (n : Int) % f.srcs, weakS f way n⟩
def shotL (f : Fir) (way : List Int) : List Sht := (List.range f.shots.toNat).map (shotS f way)
def sorted : List Int → Bool
  | [] => true
  | [_] => true
  | x :: y :: l => decide (x ≤ y) && sorted (y :: l)
def okWay (l : List Int) : Bool := decide (1 ≤ l.length ∧ l.length ≤ 512) && sorted l && l.all fun x => decide (0 ≤ x ∧ x ≤ 1048576)
def fireR (f : Fir) (l : List Int) : List Sht × Int :=
  if okFir f = true then (if okWay l = true then (shotL f l, 0) else ([], 53)) else ([], 52)
/-! rules -/
structure Rul where
  row : Int
  win : Int
  many : Int
  total : Int
def okRul (r : Rul) : Bool := decide (1 ≤ r.row ∧ r.row ≤ 12 ∧ 1 ≤ r.win ∧ r.win ≤ 12 ∧ 1 ≤ r.many ∧ r.many ≤ r.win ∧ 1 ≤ r.total ∧ r.total ≤ 256)
def chkRul (r : Rul) : Int := if okRul r = true then 0 else 54
def okRes (l : List Int) (most : Int) : Bool := decide (l.length ≤ 256) && l.all fun n => decide (0 ≤ n ∧ n ≤ most)
def errJ (r : Rul) (l : List Int) (most : Int) : Int := if okRul r = true then (if okRes l most = true then 0 else 55) else 54
def cnt (l : List Int) : Nat := l.countP (· = 1)
/-- How many are bad from one on up to another one. -/
def badS (l : List Int) (fr to : Int) : Int := cnt ((l.take to.toNat).drop fr.toNat)
def brkS (r : Rul) (l : List Int) (i : Nat) : Int :=
  if badS l ((i : Int) + 1 - r.row) ((i : Int) + 1) = r.row then 1 else if r.many ≤ badS l ((i : Int) + 1 - r.win) ((i : Int) + 1) then 2 else if r.total ≤ badS l 0 ((i : Int) + 1) then 3 else 0
/-- The first shot, among the last k, that breaks a rule; and the rule. -/
def judgeTo (r : Rul) (l : List Int) : Nat → Int × Int
  | 0 => (l.length, 0)
  | k + 1 => if brkS r l (l.length - (k + 1)) = 0 then judgeTo r l k else ((l.length - (k + 1) : Nat), brkS r l (l.length - (k + 1)))
def judgeS (r : Rul) (l : List Int) : Int × Int := judgeTo r l l.length
/-- The state after a shot: the last twelve results as bits. -/
def nextS (s : Nat) (x : Nat) : Nat := (2 * s + x) % 4096
def bitS (s k : Nat) : Nat := s / 2 ^ k % 2
def onesS (s : Nat) : Nat → Nat
  | 0 => 0
  | k + 1 => onesS s k + bitS s k
/-- May a state be, by the rules of rows and windows? -/
def mayBe (r : Rul) (s : Nat) : Bool := decide ((onesS s r.row.toNat : Int) < r.row) && decide ((onesS s r.win.toNat : Int) < r.many)
def stateS (l : List Int) : Nat := l.foldl (fun s x => nextS s x.toNat) 0
/-- The most bad ones among n further shots, of which at most left may be bad. -/
def bestS (r : Rul) : Nat → Nat → Nat → Nat
  | 0, _, _ => 0
  | n + 1, s, left =>
    max (bestS r n (nextS s 0) left) (if mayBe r (nextS s 1) = true ∧ 1 ≤ left then 1 + bestS r n (nextS s 1) (left - 1) else 0)
def allowS (r : Rul) (l : List Int) (n : Int) : Int := bestS r n.toNat (stateS l) (r.total - 1 - cnt l).toNat
def allowR (r : Rul) (l : List Int) (n : Int) : Int × Int :=
  if errJ r l 1 = 0 then (if 0 ≤ n ∧ n ≤ 64 then (if (judgeS r l).2 = 0 then (allowS r l n, 0) else (0, 4)) else (0, 7)) else (0, errJ r l 1)
/-! repeats -/
structure Clm where
  rule : Int
  fr : Int
deriving DecidableEq
/-- What is kept of the results: each bad one, unless it breaks a rule. -/
def keepTo (r : Rul) (l : List Int) : Nat → List Int
  | 0 => []
  | k + 1 => if brkS r (keepTo r l k ++ [l.getD k 0]) k = 0 then keepTo r l k ++ [l.getD k 0] else keepTo r l k ++ [0]
structure Spn where
  fr : Int
  to : Int
  most : Int
def spanS (r : Rul) (l : List Int) (c : Clm) : Option Spn :=
  if c.rule = 1 then (if 0 ≤ c.fr ∧ c.fr ≤ (l.length : Int) - r.row then some ⟨c.fr, c.fr + r.row, r.row - 1⟩ else none)
  else if c.rule = 2 then (if 0 ≤ c.fr ∧ c.fr ≤ (l.length : Int) - min r.win l.length then some ⟨c.fr, c.fr + min r.win l.length, r.many - 1⟩ else none)
  else if c.rule = 3 then (if c.fr = 0 then some ⟨0, l.length, r.total - 1⟩ else none)
  else none
end Go.Proofs.YtcmbmmpihiekhaaGreat
