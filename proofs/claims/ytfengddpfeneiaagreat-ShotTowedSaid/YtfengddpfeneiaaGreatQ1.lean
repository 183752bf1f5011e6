/-
  What the chapter on shots says, as plain functions on lists of numbers. Nothing of the program stands here.
-/
import Derived.Test.YtfengddpfeneiaaGreatBase
namespace Go.Proofs.YtfengddpfeneiaaGreat
open Go.RowKit
set_option linter.unusedSimpArgs false
set_option linter.unusedVariables false

structure Gun where
  vol : Int
  time : Int
  late : Bnd
deriving DecidableEq
def Gun.cells (g : Gun) : List Value := [.int .i64 g.vol, .int .i64 g.time, .int .i64 g.late.lo, .int .i64 g.late.hi]
theorem SlAt.gun {w : World} {B n c k : Nat} {A : Option Addr} {xs : List Gun} {x : Gun} (h : SlAt w B 4 Gun.cells A n c xs) (hk : xs[k]? = some x) :
    ∃ b off, A = some ⟨b, off, none⟩ ∧ B ≤ b ∧ b < w.heap.size ∧ w.cell? ⟨b, off + k * 4, none⟩ = some (.int .i64 x.vol) ∧ w.cell? ⟨b, off + k * 4 + 1, none⟩ = some (.int .i64 x.time) ∧ w.cell? ⟨b, off + k * 4 + 2, none⟩ = some (.int .i64 x.late.lo) ∧ w.cell? ⟨b, off + k * 4 + 3, none⟩ = some (.int .i64 x.late.hi) := by
  obtain ⟨b, off, hA, hB, hb, hc⟩ := h.at_ hk
  exact ⟨b, off, hA, hB, hb, hc 0 _ rfl, hc 1 _ rfl, hc 2 _ rfl, hc 3 _ rfl⟩
def gun0 : Gun := ⟨0, 0, ⟨0, 0⟩⟩
structure Arr where
  sh : List Int
  gs : List Gun
def okGun (g : Gun) : Bool := decide (1 ≤ g.vol ∧ g.vol ≤ 1000 ∧ 0 ≤ g.time ∧ g.time ≤ 16 ∧ -16 ≤ g.late.lo ∧ g.late.lo ≤ g.late.hi ∧ g.late.hi ≤ 16)
def arrLen (a : Arr) : Prop := 1 ≤ a.sh.length ∧ a.sh.length ≤ 32 ∧ 1 ≤ a.gs.length ∧ a.gs.length ≤ 8
instance (a : Arr) : Decidable (arrLen a) := by unfold arrLen; infer_instance
def okArr (a : Arr) : Bool := decide (arrLen a) && a.sh.all (okNum 1000) && a.gs.all okGun
def chkArr (a : Arr) : Int := if okArr a = true then 0 else 50
/-- What a gun gives in sample t, if it is late by d. -/
def elS (g : Gun) (t d : Int) : Int := t - 16 - g.time - d
def giveS (sh : List Int) (g : Gun) (t d : Int) : Int :=
  if 0 ≤ elS g t d ∧ elS g t d ≤ (sh.length : Int) - 1 then g.vol * sh.getD (elS g t d).toNat 0 else 0
def sigTo (a : Arr) (ds loss : List Int) (t : Int) : Nat → Int
  | 0 => 0
  | k + 1 => sigTo a ds loss t k + (if loss.contains (k : Int) = true then 0 else giveS a.sh (a.gs.getD k gun0) t (ds.getD k 0))
def sigAt (a : Arr) (ds loss : List Int) (t : Nat) : Int := sigTo a ds loss t a.gs.length
def sigL (a : Arr) (ds loss : List Int) : List Int := (List.range (a.sh.length + 48)).map (sigAt a ds loss)
def okDel (a : Arr) (ds : List Int) : Bool := decide (ds.length = a.gs.length) && ds.all (okNum 16)
def errA (a : Arr) (ds : List Int) : Int := if okArr a = true then (if okDel a ds = true then 0 else 51) else 50
def sigR (a : Arr) (ds : List Int) : List Int × Int := if errA a ds = 0 then (sigL a ds [], 0) else ([], errA a ds)
/-- Between what a gun gives in sample t, with the first k + 1 of its delays. -/
def betTo (sh : List Int) (g : Gun) (t : Int) : Nat → Bnd
  | 0 => still (giveS sh g t g.late.lo)
  | k + 1 => ⟨min (betTo sh g t k).lo (giveS sh g t (g.late.lo + k)), max (betTo sh g t k).hi (giveS sh g t (g.late.lo + k))⟩
def betS (sh : List Int) (g : Gun) (t : Int) : Bnd := betTo sh g t (g.late.hi + 1 - g.late.lo).toNat
def encTo (a : Arr) (t : Int) : Nat → Bnd
  | 0 => ⟨0, 0⟩
  | k + 1 => plusB (encTo a t k) (betS a.sh (a.gs.getD k gun0) t)
def encAtS (a : Arr) (t : Nat) : Bnd := encTo a t a.gs.length
def encA (a : Arr) : List Bnd := (List.range (a.sh.length + 48)).map (encAtS a)
def encAR (a : Arr) : List Bnd × Int := if okArr a = true then (encA a, 0) else ([], 50)
def onL (a : Arr) : List Int := List.replicate a.gs.length 0
def magI (n : Int) : Int := max n (-n)
def misTo (x y : List Int) : Nat → Int
  | 0 => 0
  | k + 1 => misTo x y k + magI (x.getD k 0 - y.getD k 0)
/-- How far a signature is from the planned one. -/
def misL (a : Arr) (l : List Int) : Int := misTo l (sigL a (onL a) []) (a.sh.length + 48)
def misS (a : Arr) (ds loss : List Int) : Int := misL a (sigL a ds loss)
def misR (a : Arr) (ds : List Int) : Int × Int := if errA a ds = 0 then (misS a ds [], 0) else (0, errA a ds)

/-! the worst delays -/
def widS (g : Gun) : Nat := (g.late.hi + 1 - g.late.lo).toNat
def manyTo (a : Arr) : Nat → Nat
  | 0 => 1
  | k + 1 => manyTo a k * widS (a.gs.getD k gun0)
/-- The delays that follow, in order; none: these are the last ones. -/
def nextD : List Gun → List Int → Option (List Int)
  | g :: gs, d :: ds =>
    match nextD gs ds with
    | some r => some (d :: r)
    | none => if d < g.late.hi then some ((d + 1) :: gs.map (·.late.lo)) else none
  | _, _ => none
def allD : List Gun → List (List Int)
  | [] => [[]]
  | g :: gs => (List.range (widS g)).flatMap fun (k : Nat) => (allD gs).map fun r => (g.late.lo + (k : Int)) :: r
def better (a : Arr) (b : List Int × Int) (l : List Int) : List Int × Int := if b.2 < misS a l [] then (l, misS a l []) else b
def worstS (a : Arr) : List Int × Int := (allD a.gs).foldl (better a) ([], -1)
def worstR (a : Arr) : List Int × Int × Int :=
  if okArr a = true then (if manyTo a a.gs.length ≤ 4096 then ((worstS a).1, (worstS a).2, 0) else ([], 0, 3)) else ([], 0, 50)

/-! losses -/
def hasAll (l : List Int) (loss : List Int) : Bool := l.all fun i => loss.contains i
def holdsOne (out : List (List Int)) (loss : List Int) : Bool := out.any fun l => hasAll l loss
/-- All that a search adds: lists of so many more guns, from one on. -/
def srchS (a : Arr) (limit : Int) : Nat → Nat → List Int → List (List Int) → List (List Int)
  | 0, _, loss, out => if holdsOne out loss = true then out else if limit < misS a (onL a) loss then out ++ [loss] else out
  | m + 1, fr, loss, out => (List.range' fr (a.gs.length - fr)).foldl (fun o i => srchS a limit m (i + 1) (loss ++ [(i : Int)]) o) out
def lossTo (a : Arr) (limit : Int) : Nat → List (List Int)
  | 0 => []
  | n + 1 => srchS a limit (n + 1) 0 [] (lossTo a limit n)
def lossS (a : Arr) (limit most : Int) : List (List Int) := lossTo a limit (min most ((a.gs.length : Int) - 1)).toNat
def lossR (a : Arr) (limit most : Int) : List (List Int) × Int :=
  if okArr a = true then (if 0 ≤ limit ∧ 1 ≤ most ∧ most ≤ 3 then (lossS a limit most, 0) else ([], 7)) else ([], 50)

/-! firing -/
structure Fir where
  start : Int
  every : Int
  srcs : Int
  shots : Int
  charge : Int
structure Sht where
  tick : Int
  src : Int
  weak : Bool
deriving DecidableEq
def Sht.cells (x : Sht) : List Value := [.int .i64 x.tick, .int .i64 x.src, .bool x.weak]
theorem SlAt.sht {w : World} {B n c k : Nat} {A : Option Addr} {xs : List Sht} {x : Sht} (h : SlAt w B 3 Sht.cells A n c xs) (hk : xs[k]? = some x) :
    ∃ b off, A = some ⟨b, off, none⟩ ∧ B ≤ b ∧ b < w.heap.size ∧ w.cell? ⟨b, off + k * 3, none⟩ = some (.int .i64 x.tick) ∧ w.cell? ⟨b, off + k * 3 + 1, none⟩ = some (.int .i64 x.src) ∧ w.cell? ⟨b, off + k * 3 + 2, none⟩ = some (.bool x.weak) := by
  obtain ⟨b, off, hA, hB, hb, hc⟩ := h.at_ hk
  exact ⟨b, off, hA, hB, hb, hc 0 _ rfl, hc 1 _ rfl, hc 2 _ rfl⟩
def okFir (f : Fir) : Bool := decide (0 ≤ f.start ∧ f.start ≤ 1048576 ∧ 1 ≤ f.every ∧ f.every ≤ 1000 ∧ 1 ≤ f.srcs ∧ f.srcs ≤ 4 ∧ 1 ≤ f.shots ∧ f.shots ≤ 64 ∧ 0 ≤ f.charge ∧ f.charge ≤ 1000)
def chkFir (f : Fir) : Int := if okFir f = true then 0 else 52
def dueS (f : Fir) (n : Nat) : Int := f.start + n * f.every
/-- The first tick whose distance is at least far; -1: none. -/
def reachS : List Int → Int → Nat → Int
  | [], _, _ => -1
  | x :: xs, far, k => if far ≤ x then k else reachS xs far (k + 1)
def tickS (f : Fir) (way : List Int) (n : Nat) : Int := reachS way (dueS f n) 0
def weakS (f : Fir) (way : List Int) (n : Nat) : Bool :=
  decide (0 ≤ tickS f way n) && decide (f.srcs ≤ n) && decide (tickS f way n - tickS f way (n - f.srcs.toNat) < f.charge)
def shotS (f : Fir) (way : List Int) (n : Nat) : Sht := ⟨tickS f way n, (n : Int) % f.srcs, weakS f way n⟩
def shotL (f : Fir) (way : List Int) : List Sht := (List.range f.shots.toNat).map (shotS f way)
def sorted : List Int → Bool
  | [] => true
  | [_] => true
  | x :: y :: l => decide (x ≤ y) && sorted (y :: l)
def okWay (l : List Int) : Bool := decide (1 ≤ l.length ∧ l.length ≤ 512) && sorted l && l.all fun x => decide (0 ≤ x ∧ x ≤ 1048576)
def fireR (f : Fir) (l : List Int) : List Sht × Int :=
  if okFir f = true then (if okWay l = true then (shotL f l, 0) else ([], 53)) else ([], 52)
def okDist (b : Bnd) : Bool := decide (0 ≤ b.lo ∧ b.lo ≤ b.hi ∧ b.hi ≤ 1048576)
def okDists (l : List Bnd) : Bool := decide (1 ≤ l.length ∧ l.length ≤ 512) && l.all okDist
/-- The evened lows: the greatest low so far. -/
def lowT (b : List Bnd) : Nat → Int
  | 0 => (b.getD 0 ⟨0, 0⟩).lo
  | t + 1 => max (b.getD (t + 1) ⟨0, 0⟩).lo (lowT b t)
/-- The evened highs: the least high from here on. -/
def highL : List Bnd → Int → Int
  | [], h => h
  | x :: l, h => min h (highL l x.hi)
def highT (b : List Bnd) (t : Nat) : Int := highL (b.drop (t + 1)) (b.getD t ⟨0, 0⟩).hi
def lowsL (b : List Bnd) : List Int := (List.range b.length).map (lowT b)
def highsL (b : List Bnd) : List Int := (List.range b.length).map (highT b)
def okEven (b : List Bnd) : Bool := (List.range b.length).all fun t => decide (lowT b t ≤ highT b t)
def errT (f : Fir) (b : List Bnd) : Int := if okFir f = true then (if okDists b = true then (if okEven b = true then 0 else 4) else 53) else 52
def timeS (f : Fir) (b : List Bnd) (n : Nat) : Bnd := ⟨reachS (highsL b) (dueS f n) 0, reachS (lowsL b) (dueS f n) 0⟩
def timeL (f : Fir) (b : List Bnd) : List Bnd := (List.range f.shots.toNat).map (timeS f b)
def timeR (f : Fir) (b : List Bnd) : List Bnd × Int := if errT f b = 0 then (timeL f b, 0) else ([], errT f b)
def sureS (f : Fir) (b : List Bnd) (n : Nat) : Bool :=
  decide (f.srcs ≤ n) && !decide ((timeS f b n).hi = -1) && decide ((timeS f b n).hi - (timeS f b (n - f.srcs.toNat)).lo < f.charge)
def mayS (f : Fir) (b : List Bnd) (n : Nat) : Bool :=
  decide (f.srcs ≤ n) && !decide ((timeS f b n).lo = -1) && decide (0 < f.charge) && (decide ((timeS f b (n - f.srcs.toNat)).hi = -1) || decide ((timeS f b n).lo - (timeS f b (n - f.srcs.toNat)).hi < f.charge))
def sureL (f : Fir) (b : List Bnd) : List Bool := (List.range f.shots.toNat).map (sureS f b)
def mayL (f : Fir) (b : List Bnd) : List Bool := (List.range f.shots.toNat).map (mayS f b)
def weakR (f : Fir) (b : List Bnd) : List Bool × List Bool × Int := if errT f b = 0 then (sureL f b, mayL f b, 0) else ([], [], errT f b)
def paceW (v : Int) : List Int := (List.range 512).map fun (t : Nat) => v * (t : Int)
def anyWeak (f : Fir) (v : Int) : Bool := (shotL f (paceW v)).any (·.weak)
def paceTo (f : Fir) : Nat → Int × Int
  | 0 => (0, 4)
  | v + 1 => if anyWeak f ((v : Int) + 1) = true then paceTo f v else ((v : Int) + 1, 0)
def paceR (f : Fir) : Int × Int := if okFir f = true then paceTo f 1000 else (0, 52)

/-! rules -/
structure Rul where
  row : Int
  win : Int
  many : Int
  total : Int
def okRul (r : Rul) : Bool := decide (1 ≤ r.row ∧ r.row ≤ 12 ∧ 1 ≤ r.win ∧ r.win ≤ 12 ∧ 1 ≤ r.many ∧ r.many ≤ r.win ∧ 1 ≤ r.total ∧ r.total ≤ 256)
def chkRul (r : Rul) : Int := if okRul r = true then 0 else 54
def okRes (l : List Int) (most : Int) : Bool := decide (l.length ≤ 256) && l.all fun n => decide (0 ≤ n ∧ n ≤ most)
def errJ (r : Rul) (l : List Int) (most : Int) : Int := if okRul r = true then (if okRes l most = true then 0 else 55) else 54
def cnt (l : List Int) : Nat := l.countP (· = 1)
/-- How many are bad from one on up to another one. -/
def badS (l : List Int) (fr to : Int) : Int := cnt ((l.take to.toNat).drop fr.toNat)
def brkS (r : Rul) (l : List Int) (i : Nat) : Int :=
  if badS l ((i : Int) + 1 - r.row) ((i : Int) + 1) = r.row then 1 else if r.many ≤ badS l ((i : Int) + 1 - r.win) ((i : Int) + 1) then 2 else if r.total ≤ badS l 0 ((i : Int) + 1) then 3 else 0
/-- The first shot, among the last k, that breaks a rule; and the rule. -/
def judgeTo (r : Rul) (l : List Int) : Nat → Int × Int
  | 0 => (l.length, 0)
  | k + 1 => if brkS r l (l.length - (k + 1)) = 0 then judgeTo r l k else ((l.length - (k + 1) : Nat), brkS r l (l.length - (k + 1)))
def judgeS (r : Rul) (l : List Int) : Int × Int := judgeTo r l l.length
def judgeR (r : Rul) (l : List Int) : Int × Int × Int := if errJ r l 1 = 0 then ((judgeS r l).1, (judgeS r l).2, 0) else (0, 0, errJ r l 1)
def knownL (l : List Int) (n : Int) : List Int := l.map fun x => if x = 2 then n else x
def foreS (r : Rul) (l : List Int) : Bnd := ⟨(judgeS r (knownL l 1)).1, (judgeS r (knownL l 0)).1⟩
def foreR (r : Rul) (l : List Int) : Bnd × Int := if errJ r l 2 = 0 then (foreS r l, 0) else (⟨0, 0⟩, errJ r l 2)
/-- The state after a shot: the last twelve results as bits. -/
def nextS (s : Nat) (x : Nat) : Nat := (2 * s + x) % 4096
def bitS (s k : Nat) : Nat := s / 2 ^ k % 2
def onesS (s : Nat) : Nat → Nat
  | 0 => 0
  | k + 1 => onesS s k + bitS s k
/-- May a state be, by the rules of rows and windows? -/
def mayBe (r : Rul) (s : Nat) : Bool := decide ((onesS s r.row.toNat : Int) < r.row) && decide ((onesS s r.win.toNat : Int) < r.many)
def stateS (l : List Int) : Nat := l.foldl (fun s x => nextS s x.toNat) 0
/-- The most bad ones among n further shots, of which at most left may be bad. -/
def bestS (r : Rul) : Nat → Nat → Nat → Nat
  | 0, _, _ => 0
  | n + 1, s, left =>
    max (bestS r n (nextS s 0) left) (if mayBe r (nextS s 1) = true ∧ 1 ≤ left then 1 + bestS r n (nextS s 1) (left - 1) else 0)
def allowS (r : Rul) (l : List Int) (n : Int) : Int := bestS r n.toNat (stateS l) (r.total - 1 - cnt l).toNat
def allowR (r : Rul) (l : List Int) (n : Int) : Int × Int :=
  if errJ r l 1 = 0 then (if 0 ≤ n ∧ n ≤ 64 then (if (judgeS r l).2 = 0 then (allowS r l n, 0) else (0, 4)) else (0, 7)) else (0, errJ r l 1)
/-! repeats -/
structure Clm where
  rule : Int
  fr : Int
deriving DecidableEq
def Clm.cells (x : Clm) : List Value := [.int .i64 x.rule, .int .i64 x.fr]
theorem SlAt.clm {w : World} {B n c k : Nat} {A : Option Addr} {xs : List Clm} {x : Clm} (h : SlAt w B 2 Clm.cells A n c xs) (hk : xs[k]? = some x) :
    ∃ b off, A = some ⟨b, off, none⟩ ∧ B ≤ b ∧ b < w.heap.size ∧ w.cell? ⟨b, off + k * 2, none⟩ = some (.int .i64 x.rule) ∧ w.cell? ⟨b, off + k * 2 + 1, none⟩ = some (.int .i64 x.fr) := by
  obtain ⟨b, off, hA, hB, hb, hc⟩ := h.at_ hk
  exact ⟨b, off, hA, hB, hb, hc 0 _ rfl, hc 1 _ rfl⟩
/-- What is kept of the results: each bad one, unless it breaks a rule. -/
def keepTo (r : Rul) (l : List Int) : Nat → List Int
  | 0 => []
  | k + 1 => if brkS r (keepTo r l k ++ [l.getD k 0]) k = 0 then keepTo r l k ++ [l.getD k 0] else keepTo r l k ++ [0]
def repL (r : Rul) (l : List Int) : List Int := ((List.range l.length).filter fun i => l.getD i 0 != (keepTo r l l.length).getD i 0).map fun (i : Nat) => (i : Int)
def repR (r : Rul) (l : List Int) : List Int × Int := if errJ r l 1 = 0 then (repL r l, 0) else ([], errJ r l 1)
structure Spn where
  fr : Int
  to : Int
  most : Int
def spanS (r : Rul) (l : List Int) (c : Clm) : Option Spn :=
  if c.rule = 1 then (if 0 ≤ c.fr ∧ c.fr ≤ (l.length : Int) - r.row then some ⟨c.fr, c.fr + r.row, r.row - 1⟩ else none)
  else if c.rule = 2 then (if 0 ≤ c.fr ∧ c.fr ≤ (l.length : Int) - min r.win l.length then some ⟨c.fr, c.fr + min r.win l.length, r.many - 1⟩ else none)
  else if c.rule = 3 then (if c.fr = 0 then some ⟨0, l.length, r.total - 1⟩ else none)
  else none
/-- What the first k claims of a proof sum up to; none: one is wrong. -/
def claimTo (r : Rul) (l : List Int) : List Clm → Option Int
  | [] => some 0
  | c :: cs =>
    match spanS r l c, claimTo r l cs with
    | some s, some n => some (n + (badS l s.fr s.to - s.most))
    | _, _ => none
def coverS (r : Rul) (l : List Int) (i : Nat) : List Clm → Int
  | [] => 0
  | c :: cs =>
    coverS r l i cs + (match spanS r l c with
    | some s => if s.fr ≤ i ∧ (i : Int) < s.to then 1 else 0
    | none => 0)
/-- How much too often the first k shots that are bad are covered. -/
def overTo (r : Rul) (l : List Int) (p : List Clm) : Nat → Int
  | 0 => 0
  | k + 1 => overTo r l p k + (if l.getD k 0 = 1 then max 0 (coverS r l k p - 1) else 0)
def boundR (r : Rul) (l : List Int) (p : List Clm) : Int × Int :=
  if errJ r l 1 = 0 then (if p.length ≤ 1024 then (match claimTo r l p with | some n => (n - overTo r l p l.length, 0) | none => (0, 56)) else (0, 56)) else (0, errJ r l 1)
end Go.Proofs.YtfengddpfeneiaaGreat
