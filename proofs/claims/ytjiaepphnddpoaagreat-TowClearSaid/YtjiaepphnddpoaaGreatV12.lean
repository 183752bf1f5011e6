/-
  Own texts for one claim, joined: G13 Ord W14 G14 R13 R25 G15.
-/
import Derived.ChangeKeysEq
import Derived.Deep.QuietTactic
import Derived.BigQuiet
import Derived.Deep.RegionHeld3
import Derived.StillTailTactics
import Derived.Shelf.Abstract
import Derived.Test.YtjiaepphnddpoaaGreatChecked
import Derived.Shelf.Abstract
import Derived.Deep.QuietTactic
import Derived.BigQuiet
import Derived.Deep.RegionHeld3
import Derived.StillTailTactics
import Derived.Deep.AppendLies
import Derived.WalkMore
import Derived.WalkKit
import Derived.WalkSpells
import Derived.WalkLawsBesides
import Derived.Lib.Hide
import Derived.OrdersHeld
import Derived.StillTail
import Derived.StillTailTactics
import Derived.RangeFuncNested
import Derived.RangeFuncBound
import Derived.RangeFuncCalls
import Derived.RangeFuncLeaves
import Derived.Shelf.Abstract
import Derived.Shelf.RegionOpen
import Derived.OwnWalkIn
import Derived.TacticsInMore
import Derived.LoopNIn
import Derived.LoopIn
import Derived.OrdersIn
import Derived.Deep.Quiet
import Derived.Deep.QuietTactic
import Derived.BigQuiet
import Derived.Deep.AppendLies
import Derived.WalkMore
import Derived.Maps.Own
import Derived.Maps.Views
import Derived.WideKeyPair
import Derived.Carry
import Derived.Deep.RegionHeld3
import Derived.Deep.RegionWith
import Derived.BigRegionIn
import Derived.Deep.AppendLies
import Derived.Deep.QuietTactic
import Derived.LoopN
import Derived.Deep.RegionWith
import Derived.BigQuiet
import Derived.Deep.AppendLies
import Derived.Laws.AppendOwnNone
import Derived.Test.YtjiaepphnddpoaaGreatV01
import Derived.Test.YtjiaepphnddpoaaGreatV02
import Derived.Test.YtjiaepphnddpoaaGreatV03
import Derived.Test.YtjiaepphnddpoaaGreatV04
import Derived.Test.YtjiaepphnddpoaaGreatV05
import Derived.Test.YtjiaepphnddpoaaGreatV06
import Derived.Test.YtjiaepphnddpoaaGreatV07
import Derived.Test.YtjiaepphnddpoaaGreatV08
import Derived.Test.YtjiaepphnddpoaaGreatV09
import Derived.Test.YtjiaepphnddpoaaGreatV10
import Derived.Test.YtjiaepphnddpoaaGreatV11
namespace Go.Proofs.YtjiaepphnddpoaaGreat
open Go.RowKit Go.Shelf
set_option linter.unusedSimpArgs false
set_option linter.unusedVariables false
def minO : Option Bnd → Bnd → Option Bnd
  | none, g => some g
  | some b, g => some ⟨min b.lo g.lo, min b.hi g.hi⟩
def apIn (o : Option Bnd) (x : Reg) (ys : List Reg) (j : Nat) : Option Bnd := ((ys.take j).map (gapS x)).foldl minO o
def apTo (xs ys : List Reg) (i : Nat) : Option Bnd := (xs.take i).foldl (fun o x => apIn o x ys ys.length) none
def appO (xs ys : List Reg) : Option Bnd := apTo xs ys xs.length
def appS (xs ys : List Reg) : Bnd := optB (appO xs ys)
theorem apIn_succ (o : Option Bnd) (x : Reg) {ys : List Reg} {j : Nat} {y : Reg} (h : ys[j]? = some y) : apIn o x ys (j + 1) = minO (apIn o x ys j) (gapS x y) := by
  unfold apIn
  rw [List.take_add_one, h, List.map_append, List.foldl_append]; rfl
theorem apTo_succ {xs : List Reg} (ys : List Reg) {i : Nat} {x : Reg} (h : xs[i]? = some x) : apTo xs ys (i + 1) = apIn (apTo xs ys i) x ys ys.length := by
  unfold apTo
  rw [List.take_add_one, h, List.foldl_append]; rfl
def geZ : Option Bnd → Prop
  | none => True
  | some b => 0 ≤ b.lo
theorem sqsS_ge (r : Reg) : 0 ≤ (sqsS r).lo := by
  unfold sqsS
  dsimp only
  have : ∀ (L : List RRow) (o : Option Bnd), geZ o → geZ ((L.map sqB).foldl (pickO ltLo) o) := by
    intro L
    induction L with
    | nil => intro o h; exact h
    | cons q L ih =>
      intro o h
      refine ih _ ?_
      have hq : 0 ≤ (sqB q).lo := by
        unfold sqB
        dsimp only
        have h1 : ∀ n : Int, 0 ≤ n * n := fun n => by
          rcases Int.le_total 0 n with h3 | h3
          · exact Int.mul_nonneg h3 h3
          · have := Int.mul_nonneg (show 0 ≤ -n by omega) (show 0 ≤ -n by omega)
            rw [Int.neg_mul_neg] at this; exact this
        have := h1 q.x
        have := h1 (max q.fr (min 0 q.to))
        omega
      cases o with
      | none => exact hq
      | some c =>
        unfold pickO
        dsimp only
        split
        · exact hq
        · exact h
  have h := this (rowsL r) none trivial
  unfold pckAll sqL
  generalize (List.map sqB (rowsL r)).foldl (pickO ltLo) none = o at *
  cases o with
  | none => exact Int.le_refl _
  | some b => exact h
theorem gapS_ge (a b : Reg) : 0 ≤ (gapS a b).lo := sqsS_ge _
theorem minO_ge {o : Option Bnd} {g : Bnd} (h : geZ o) (hg : 0 ≤ g.lo) : geZ (minO o g) := by
  cases o with
  | none => exact hg
  | some b => show 0 ≤ min b.lo g.lo; have : 0 ≤ b.lo := h; omega
theorem apIn_ge (x : Reg) (ys : List Reg) : ∀ (j : Nat) (o : Option Bnd), geZ o → geZ (apIn o x ys j) := by
  intro j o h
  unfold apIn
  generalize ys.take j = L
  induction L generalizing o with
  | nil => exact h
  | cons y L ih => exact ih _ (minO_ge h (gapS_ge x y))
theorem apTo_ge (xs ys : List Reg) (i : Nat) : geZ (apTo xs ys i) := by
  unfold apTo
  generalize xs.take i = L
  have : ∀ (L : List Reg) (o : Option Bnd), geZ o → geZ (L.foldl (fun o x => apIn o x ys ys.length) o) := by
    intro L
    induction L with
    | nil => intro o h; exact h
    | cons y L ih => intro o h; exact ih _ (apIn_ge y ys _ o h)
  exact this L none trivial
theorem minO_some (o : Option Bnd) (g : Bnd) : ∃ B, minO o g = some B := by cases o <;> exact ⟨_, rfl⟩
theorem appO_some {xs ys : List Reg} (hx : 0 < xs.length) (hy : 0 < ys.length) : appO xs ys = some (appS xs ys) := by
  have h1 : ∃ B, appO xs ys = some B := by
    unfold appO
    obtain ⟨x, hx2⟩ := some_of_lt rfl (show xs.length - 1 < xs.length by omega)
    obtain ⟨y, hy2⟩ := some_of_lt rfl (show ys.length - 1 < ys.length by omega)
    rw [show xs.length = xs.length - 1 + 1 by omega, apTo_succ ys hx2, show ys.length = ys.length - 1 + 1 by omega, apIn_succ _ x hy2]
    exact minO_some _ _
  obtain ⟨B, hB⟩ := h1
  unfold appS
  rw [hB]; rfl
def outL : Option Bnd → Int
  | none => -1
  | some b => b.lo
def outH : Option Bnd → Int
  | none => 0
  | some b => b.hi
def Good (xs : List Reg) : Prop := ∀ r ∈ xs, okReg r = true ∧ tightO r = some r
set_option maxRecDepth 100000 in
set_option maxHeartbeats 2000000 in
theorem approach_any (xs ys : List Reg) (P Q : Option Addr) (np cp nq cq : Nat) (w : World) (hgx : Good xs) (hgy : Good ys) (hx0 : 0 < np) (hy0 : 0 < nq) (hP : SlAt w 0 8 Reg.cells P np cp xs) (hQ : SlAt w 0 8 Reg.cells Q nq cq ys) :
    Calls Tryz.prog 88 #[.slice P np cp, .slice Q nq cq] w fun e w' => e = .returned (.agg #[.int .i64 (appS xs ys).lo, .int .i64 (appS xs ys).hi]) ∧ Below w.heap.size w w' := by
  have hmin := min2_int
  have hxl := Lib.hid hP.len
  have hyl := Lib.hid hQ.len
  have hle1 := hP.le
  have hle2 := hQ.le
  have hsome := appO_some (xs := xs) (ys := ys) (by have := hxl.out; omega) (by have := hyl.out; omega)
  obtain ⟨B, hB⟩ : ∃ B, appS xs ys = B := ⟨_, rfl⟩
  rw [hB] at hsome ⊢
  clear hB
  replace hsome := Lib.hid hsome
  obtain ⟨w1, hw1⟩ : ∃ w1, w1 = (w.alloc (.cells #[.int .i64 0, .int .i64 0] 24)).alloc (.cells #[.int .i64 (-1), .int .i64 0] 24) := ⟨_, rfl⟩
  have k4 : Blk w1 w.heap.size 24 #[.int .i64 0, .int .i64 0] := by rw [hw1]; exact (Blk.new _ _ _).alloc _
  have k5 : Blk w1 (w.heap.size + 1) 24 #[.int .i64 (-1), .int .i64 0] := by rw [hw1]; exact Blk.newAt (by simp)
  have b : Below w.heap.size w w1 := by rw [hw1]; exact ((Below.refl _ _).alloc (Nat.le_refl _) _).alloc (by simp) _
  go_enter Tryz.func88, Tryz.ntmps88
  go_wp2_with fail
  rw [← hw1]
  clear hw1
  go_loopw [15] (fun i wr => ∃ k : Nat, i = .int .i64 k ∧ k ≤ np ∧ Blk wr w.heap.size 24 #[.int .i64 0, .int .i64 0] ∧ Blk wr (w.heap.size + 1) 24 #[.int .i64 (outL (apTo xs ys k)), .int .i64 (outH (apTo xs ys k))] ∧ Below w.heap.size w wr) (fun i wr => np - (intOf i).toNat)
  case atStart => exact ⟨0, rfl, Nat.zero_le _, k4, k5, b⟩
  case round =>
    clear k4 k5 b
    obtain ⟨k, rfl, hk, k4, k5, b⟩ := hrel
    by_cases hlt : k < np
    · have hk0 : (0 : Int) ≤ (k : Int) := by omega
      have hk1 : (k : Int) < (np : Int) := by omega
      obtain ⟨x, hx⟩ := some_of_lt hxl.out hlt
      have hxg := hgx x (List.mem_of_getElem? hx)
      have hstep := Lib.hid (apTo_succ ys hx)
      obtain ⟨o0, ho0⟩ : ∃ o, apTo xs ys k = o := ⟨_, rfl⟩
      have hge : geZ o0 := by rw [← ho0]; exact apTo_ge xs ys k
      rw [ho0] at k5 hstep
      obtain ⟨bP, oP, hA, -, hbP, z0, z1, z2, z3, z4, z5, z6, z7⟩ := (hP.keep b.size (fun _ _ h => b.cell h)).reg hx
      subst hA
      replace hx := Lib.hid hx
      replace ho0 := Lib.hid ho0
      replace hxg := Lib.hid hxg
      replace hge := Lib.hid hge
      go_wp2_with fail
      have k7 := Blk.new wr 45 #[.int .i64 x.x.lo, .int .i64 x.x.hi, .int .i64 x.y.lo, .int .i64 x.y.hi, .int .i64 x.s.lo, .int .i64 x.s.hi, .int .i64 x.d.lo, .int .i64 x.d.hi]
      have hgr : w.heap.size + 1 < wr.heap.size := k5.lt
      have hbel := (Below.refl wr.heap.size wr).alloc (Nat.le_refl _) (.cells #[.int .i64 x.x.lo, .int .i64 x.x.hi, .int .i64 x.y.lo, .int .i64 x.y.hi, .int .i64 x.s.lo, .int .i64 x.s.hi, .int .i64 x.d.lo, .int .i64 x.d.hi] 45)
      replace k4 := k4.below hbel
      replace k5 := k5.below hbel
      replace b := b.trans (hbel.mono b.size)
      clear hbel z0 z1 z2 z3 z4 z5 z6 z7
      generalize wr.alloc (.cells #[.int .i64 x.x.lo, .int .i64 x.x.hi, .int .i64 x.y.lo, .int .i64 x.y.hi, .int .i64 x.s.lo, .int .i64 x.s.hi, .int .i64 x.d.lo, .int .i64 x.d.hi] 45) = W at *
      generalize wr.heap.size = g7 at *
      go_loopw [21] (fun i wq => ∃ j : Nat, i = .int .i64 j ∧ j ≤ nq ∧ Blk wq w.heap.size 24 #[.int .i64 0, .int .i64 0] ∧ Blk wq (w.heap.size + 1) 24 #[.int .i64 (outL (apIn o0 x ys j)), .int .i64 (outH (apIn o0 x ys j))] ∧ Blk wq g7 45 #[.int .i64 x.x.lo, .int .i64 x.x.hi, .int .i64 x.y.lo, .int .i64 x.y.hi, .int .i64 x.s.lo, .int .i64 x.s.hi, .int .i64 x.d.lo, .int .i64 x.d.hi] ∧ Below w.heap.size w wq) (fun i wq => nq - (intOf i).toNat)
      case atStart => exact ⟨0, rfl, Nat.zero_le _, k4, k5, k7, b⟩
      case round =>
        clear k4 k5 k7 b
        obtain ⟨j, rfl, hj, k4, k5, k7, b⟩ := hrel
        by_cases hlj : j < nq
        · have hj0 : (0 : Int) ≤ (j : Int) := by omega
          have hj1 : (j : Int) < (nq : Int) := by omega
          obtain ⟨y, hy⟩ := some_of_lt hyl.out hlj
          have hyg := hgy y (List.mem_of_getElem? hy)
          have hnx := Lib.hid (apIn_succ o0 x hy)
          have hge2 := apIn_ge x ys j o0 hge.out
          have hg0 := gapS_ge x y
          have hgap := fun W => Gap_any x y x y W hxg.out.1 hyg.1 hxg.out.2 hyg.2
          obtain ⟨o, ho⟩ : ∃ o, apIn o0 x ys j = o := ⟨_, rfl⟩
          rw [ho] at k5 hnx hge2
          obtain ⟨G, hG⟩ : ∃ G, gapS x y = G := ⟨_, rfl⟩
          rw [hG] at hnx hg0
          simp only [hG, regA] at hgap
          obtain ⟨bQ, oQ, hA, -, hbQ, z0, z1, z2, z3, z4, z5, z6, z7⟩ := (hQ.keep b.size (fun _ _ h => b.cell h)).reg hy
          subst hA
          replace hy := Lib.hid hy
          replace ho := Lib.hid ho
          replace hyg := Lib.hid hyg
          replace hG := Lib.hid hG
          obtain ⟨c7, f7, l7⟩ := k7.rules
          go_wp2_with fail
          clear c7 f7 l7 z0 z1 z2 z3 z4 z5 z6 z7
          have hgq : w.heap.size + 1 < wr.heap.size := k5.lt
          have hbel := (Below.refl wr.heap.size wr).alloc (Nat.le_refl _) (.cells #[.int .i64 y.x.lo, .int .i64 y.x.hi, .int .i64 y.y.lo, .int .i64 y.y.hi, .int .i64 y.s.lo, .int .i64 y.s.hi, .int .i64 y.d.lo, .int .i64 y.d.hi] 45)
          replace k4 := k4.below hbel
          replace k5 := k5.below hbel
          replace k7 := k7.below hbel
          replace b := b.trans (hbel.mono b.size)
          clear hbel
          generalize wr.alloc (.cells #[.int .i64 y.x.lo, .int .i64 y.x.hi, .int .i64 y.y.lo, .int .i64 y.y.hi, .int .i64 y.s.lo, .int .i64 y.s.hi, .int .i64 y.d.lo, .int .i64 y.d.hi] 45) = W2 at *
          refine (hgap _).mono ?_
          rintro e W3 ⟨rfl, hbel⟩
          clear hgap
          replace k4 := k4.below hbel
          replace k5 := k5.below hbel
          replace k7 := k7.below hbel
          replace b := b.trans (hbel.mono b.size)
          clear hbel
          cases o with
          | none =>
            simp only [outL, outH] at k5
            replace hnx : Hid (apIn o0 x ys (j + 1) = some G) := hnx
            obtain ⟨c5, f5, l5⟩ := k5.rules
            have k4z := k4
            have k5z := k5
            have k7z := k7
            have bz := b
            clear k4 k5 k7 b
            replace k5z := (k5z.set_ 0 (.int .i64 (G.lo))).set_ 1 (.int .i64 (G.hi))
            simp only [List.setIfInBounds_toArray, List.set_cons_zero, List.set_cons_succ] at k5z
            replace k4z := (k4z.far (p := ⟨w.heap.size + 1, 0, none⟩) (by dsimp only; omega) (.int .i64 (G.lo))).far (p := ⟨w.heap.size + 1, 1, none⟩) (by dsimp only; omega) (.int .i64 (G.hi))
            replace k7z := (k7z.far (p := ⟨w.heap.size + 1, 0, none⟩) (by dsimp only; omega) (.int .i64 (G.lo))).far (p := ⟨w.heap.size + 1, 1, none⟩) (by dsimp only; omega) (.int .i64 (G.hi))
            replace bz := (bz.setCell (p := ⟨w.heap.size + 1, 0, none⟩) (by dsimp only; omega) (.int .i64 (G.lo))).setCell (p := ⟨w.heap.size + 1, 1, none⟩) (by dsimp only; omega) (.int .i64 (G.hi))
            replace k5z := (k5z.set_ 0 (.int .i64 (G.lo))).set_ 1 (.int .i64 (G.hi))
            simp only [List.setIfInBounds_toArray, List.set_cons_zero, List.set_cons_succ] at k5z
            replace k4z := (k4z.far (p := ⟨w.heap.size + 1, 0, none⟩) (by dsimp only; omega) (.int .i64 (G.lo))).far (p := ⟨w.heap.size + 1, 1, none⟩) (by dsimp only; omega) (.int .i64 (G.hi))
            replace k7z := (k7z.far (p := ⟨w.heap.size + 1, 0, none⟩) (by dsimp only; omega) (.int .i64 (G.lo))).far (p := ⟨w.heap.size + 1, 1, none⟩) (by dsimp only; omega) (.int .i64 (G.hi))
            replace bz := (bz.setCell (p := ⟨w.heap.size + 1, 0, none⟩) (by dsimp only; omega) (.int .i64 (G.lo))).setCell (p := ⟨w.heap.size + 1, 1, none⟩) (by dsimp only; omega) (.int .i64 (G.hi))
            replace k4z := k4z.alloc (.cells #[.int .i64 G.lo, .int .i64 G.hi] 24)
            replace k5z := k5z.alloc (.cells #[.int .i64 G.lo, .int .i64 G.hi] 24)
            replace k7z := k7z.alloc (.cells #[.int .i64 G.lo, .int .i64 G.hi] 24)
            replace bz := bz.alloc bz.size (.cells #[.int .i64 G.lo, .int .i64 G.hi] 24)
            go_wp2_with fail
            go_roundw
            case rel => exact ⟨j + 1, by go_num, by omega, k4z, by rw [hnx.out]; exact k5z, k7z, bz⟩
            case measure => simp [intOf]; omega
          | some B2 =>
            simp only [outL, outH] at k5
            replace hnx : Hid (apIn o0 x ys (j + 1) = some ⟨min B2.lo G.lo, min B2.hi G.hi⟩) := hnx
            have hBn : ¬ B2.lo < 0 := by have : 0 ≤ B2.lo := hge2; omega
            clear hge2
            obtain ⟨c5, f5, l5⟩ := k5.rules
            have k4z := k4
            have k5z := k5
            have k7z := k7
            have bz := b
            clear k4 k5 k7 b
            replace k5z := (k5z.set_ 0 (.int .i64 (min B2.lo G.lo))).set_ 1 (.int .i64 (min B2.hi G.hi))
            simp only [List.setIfInBounds_toArray, List.set_cons_zero, List.set_cons_succ] at k5z
            replace k4z := (k4z.far (p := ⟨w.heap.size + 1, 0, none⟩) (by dsimp only; omega) (.int .i64 (min B2.lo G.lo))).far (p := ⟨w.heap.size + 1, 1, none⟩) (by dsimp only; omega) (.int .i64 (min B2.hi G.hi))
            replace k7z := (k7z.far (p := ⟨w.heap.size + 1, 0, none⟩) (by dsimp only; omega) (.int .i64 (min B2.lo G.lo))).far (p := ⟨w.heap.size + 1, 1, none⟩) (by dsimp only; omega) (.int .i64 (min B2.hi G.hi))
            replace bz := (bz.setCell (p := ⟨w.heap.size + 1, 0, none⟩) (by dsimp only; omega) (.int .i64 (min B2.lo G.lo))).setCell (p := ⟨w.heap.size + 1, 1, none⟩) (by dsimp only; omega) (.int .i64 (min B2.hi G.hi))
            skip
            replace k4z := k4z.alloc (.cells #[.int .i64 G.lo, .int .i64 G.hi] 24)
            replace k5z := k5z.alloc (.cells #[.int .i64 G.lo, .int .i64 G.hi] 24)
            replace k7z := k7z.alloc (.cells #[.int .i64 G.lo, .int .i64 G.hi] 24)
            replace bz := bz.alloc bz.size (.cells #[.int .i64 G.lo, .int .i64 G.hi] 24)
            go_wp2_with fail
            go_roundw
            case rel => exact ⟨j + 1, by go_num, by omega, k4z, by rw [hnx.out]; exact k5z, k7z, bz⟩
            case measure => simp [intOf]; omega
        · obtain rfl : j = nq := by omega
          go_wp2_with fail
          go_roundw
          case rel => exact ⟨k + 1, by go_num, by omega, k4, by rw [hstep.out, hyl.out]; exact k5, b⟩
          case measure => simp [intOf]; omega
    · obtain rfl : np = k := by omega
      have hfin : apTo xs ys np = appO xs ys := by unfold appO; rw [hxl.out]
      rw [hfin] at k5
      rw [hsome.out] at k5
      simp only [outL, outH] at k5
      clear hfin
      have kz := (k4.set_ 0 (.int .i64 B.lo)).set_ 1 (.int .i64 B.hi)
      simp only [List.setIfInBounds_toArray, List.set_cons_zero, List.set_cons_succ] at kz
      have bz := (b.setCell (p := ⟨w.heap.size, 0, none⟩) (Nat.le_refl _) (.int .i64 B.lo)).setCell (p := ⟨w.heap.size, 1, none⟩) (Nat.le_refl _) (.int .i64 B.hi)
      obtain ⟨wz, hwz⟩ : ∃ q, q = (wr.setCell ⟨w.heap.size, 0, none⟩ (.int .i64 B.lo)).setCell ⟨w.heap.size, 1, none⟩ (.int .i64 B.hi) := ⟨_, rfl⟩
      rw [← hwz] at kz bz
      obtain ⟨c4, f4, l4⟩ := k4.rules
      obtain ⟨c5, f5, l5⟩ := k5.rules
      go_wp2
      rw [← hwz]
      clear hwz c4 f4 l4 c5 f5 l5
      obtain ⟨c4, f4, l4⟩ := kz.rules
      exact bodyPost_ret (v := .agg #[.int .i64 B.lo, .int .i64 B.hi]) (by simp [results, Tryz.results88, go_sem, c4]) rfl ⟨rfl, bz⟩
end Go.Proofs.YtjiaepphnddpoaaGreat
namespace Go.Proofs.YtjiaepphnddpoaaGreat
open Go.RowKit Go.Shelf
set_option linter.unusedSimpArgs false
set_option linter.unusedVariables false
section
variable {P : Program} {ops : Array Oper} {Q : Exit → Act → World → Prop} {md : Region.Mode} {S : World → Prop}
end
def OffA (g : Nat) (A : Option Addr) (n : Nat) : Prop := 0 < n → ∀ b off, A = some ⟨b, off, none⟩ → b ≠ g
theorem OffA.below {g n : Nat} {A : Option Addr} {α : Type} {w : World} {B s : Nat} {enc : α → List Value} {c : Nat} {xs : List α} (h : SlAt w B s enc A n c xs) (hg : w.heap.size ≤ g) : OffA g A n := by
  intro h0 b off e
  obtain ⟨b', off', e', -, hb, -⟩ := h.2.2.2 h0
  rw [e] at e'
  injection e' with e'
  injection e' with e1 e2 e3
  omega
theorem OffA.above {g n : Nat} {A : Option Addr} {α : Type} {w : World} {B s : Nat} {enc : α → List Value} {c : Nat} {xs : List α} (h : SlAt w B s enc A n c xs) (hg : g < B) : OffA g A n := by
  intro h0 b off e
  obtain ⟨b', off', e', hB, hb, -⟩ := h.2.2.2 h0
  rw [e] at e'
  injection e' with e'
  injection e' with e1 e2 e3
  omega
theorem OffA.zero (g : Nat) (A : Option Addr) : OffA g A 0 := fun h => absurd h (by omega)
theorem cell_eq {w w' : World} {b : Nat} (h : w'.heap[b]? = w.heap[b]?) (i : Nat) : w'.cell? ⟨b, i, none⟩ = w.cell? ⟨b, i, none⟩ := by
  unfold World.cell?; simp only [h]
end Go.Proofs.YtjiaepphnddpoaaGreat
namespace Go.Proofs.YtjiaepphnddpoaaGreat
open Go.RowKit Go.Shelf
set_option linter.unusedSimpArgs false
set_option linter.unusedVariables false
theorem flat_inv {α : Type} {enc : α → List Value} {s : Nat} (he : ∀ x, (enc x).length = s) : ∀ (xs : List α) (j : Nat) (u : Value), (xs.flatMap enc)[j]? = some u → ∃ k x r, xs[k]? = some x ∧ (enc x)[r]? = some u ∧ j = k * s + r
  | [], j, u, h => by simp at h
  | x :: xs, j, u, h => by
    rw [List.flatMap_cons] at h
    by_cases hj : j < s
    · rw [List.getElem?_append_left (by rw [he]; exact hj)] at h
      exact ⟨0, x, j, rfl, h, by omega⟩
    · rw [List.getElem?_append_right (by rw [he]; omega), he] at h
      obtain ⟨k, y, r, h1, h2, h3⟩ := flat_inv he xs (j - s) u h
      exact ⟨k + 1, y, r, h1, h2, by rw [Nat.add_mul]; omega⟩
theorem flat_set {α : Type} {enc : α → List Value} {s : Nat} (he : ∀ x, (enc x).length = s) {x y : α} {j : Nat} {u : Value} (hj : j < s) (hy : enc y = (enc x).set j u) : ∀ (xs : List α) (k : Nat), xs[k]? = some x → (xs.flatMap enc).set (k * s + j) u = (xs.set k y).flatMap enc
  | [], k, h => by simp at h
  | z :: xs, 0, h => by
    simp at h; subst h
    rw [List.set_cons_zero, List.flatMap_cons, List.flatMap_cons, hy, Nat.zero_mul, Nat.zero_add, List.set_append_left _ _ (by rw [he]; exact hj)]
  | z :: xs, k + 1, h => by
    rw [List.set_cons_succ, List.flatMap_cons, List.flatMap_cons, List.set_append_right _ _ (by rw [he, Nat.add_mul]; omega), he, show (k + 1) * s + j - s = k * s + j from by rw [Nat.add_mul]; omega, flat_set he hj hy xs k (by simpa using h)]
theorem SlAt.news {α : Type} {w : World} {B s : Nat} {enc : α → List Value} {n c b off : Nat} {xs : List α} (he : ∀ x, (enc x).length = s) (h : SlAt w B s enc (some ⟨b, off, none⟩) n c xs) (hn : 0 < n) : ∀ (j : Nat) (u : Value), (xs.flatMap enc)[j]? = some u → w.cell? ((⟨b, off, none⟩ : Addr).add j) = some u := by
  intro j u hu
  obtain ⟨k, x, r, h1, h2, rfl⟩ := flat_inv he xs j u hu
  obtain ⟨b', off', hA, -, -, hc⟩ := h.2.2.2 hn
  simp only [Option.some.injEq, Addr.mk.injEq] at hA
  obtain ⟨rfl, rfl, -⟩ := hA
  have e : (⟨b, off, none⟩ : Addr).add (k * s + r) = ⟨b, off + (k * s + r), none⟩ := by unfold Addr.add; split <;> simp_all
  rw [e]
  exact hc k x h1 r u h2
theorem SlAt.own {α : Type} {enc : α → List Value} {s : Nat} {w : World} {base : Nat} {e : TypeId} {g n pc : Nat} {ys : List Value} (h : w.ownsRow base e s (.slice (some ⟨g, 0, none⟩) n pc) n ys) (hn : n ≤ 17592186044416) (xs : List α) (hx : ys = xs.flatMap enc) (he : ∀ x, (enc x).length = s) (hl : xs.length = n) :
    SlAt w base s enc (some ⟨g, 0, none⟩) n pc xs := by
  obtain ⟨A, c, e1, h1⟩ := SlAt.of_own h hn xs hx he hl
  simp only [Value.slice.injEq] at e1
  obtain ⟨rfl, -, rfl⟩ := e1
  exact h1
theorem flat_len {α : Type} {enc : α → List Value} {s : Nat} (he : ∀ x, (enc x).length = s) (xs : List α) : (xs.flatMap enc).length = xs.length * s := by
  induction xs with
  | nil => simp
  | cons x xs ih => rw [List.flatMap_cons, List.length_append, ih, he, List.length_cons, Nat.add_mul]; omega
theorem own_none (w : World) (t : TypeId) (s : Nat) : (w.alloc (.cells #[] t)).ownsRow w.heap.size t s (.slice (some ⟨w.heap.size, 0, none⟩) 0 0) 0 [] :=
  ⟨by simp, .inr ⟨w.heap.size, 0, #[], rfl, Nat.le_refl _, heap_alloc_new w _, Nat.le_refl _, by unfold maxLen; omega, by simp, by simp⟩⟩
def noneB (p : Nat → Bool) (k : Nat) : Prop := ∀ m, m < k → p m = false
theorem noneB_succ {p : Nat → Bool} {k : Nat} (h : noneB p k) (hk : p k = false) : noneB p (k + 1) := fun m hm => by
  by_cases e : m < k
  · exact h m e
  · obtain rfl : m = k := by omega
    exact hk
theorem fstN_first {p : Nat → Bool} {k : Nat} (h : noneB p k) (hk : p k = true) : ∀ n, k < n → fstN p n = k
  | 0, hn => absurd hn (Nat.not_lt_zero _)
  | n + 1, hn => by
    rw [fstN_step]
    by_cases e : k = n
    · subst e
      rw [(fstN_none k).2 h, if_neg (by omega), if_pos hk]
    · rw [fstN_first h hk n (by omega), if_pos (by omega)]
end Go.Proofs.YtjiaepphnddpoaaGreat
namespace Go.Proofs.YtjiaepphnddpoaaGreat
open Go.RowKit Go.Shelf
set_option linter.unusedSimpArgs false
set_option linter.unusedVariables false
structure StD where
  s : Strm
  A : Option Addr
  n : Nat
  c : Nat
def StD.cells (d : StD) : List Value := [.int .i64 d.s.head, .slice d.A d.n d.c, .int .i64 d.s.lane.lo, .int .i64 d.s.lane.hi, .int .i64 d.s.bend]
structure BdD where
  bs : List Bnd
  O : Option Addr
  n : Nat
  c : Nat
def BdD.cells (d : BdD) : List Value := [.slice d.O d.n d.c]
structure TlD where
  t : StD
  b : BdD
def TlD.cells (d : TlD) : List Value := [.int .i64 d.t.s.head, .slice d.t.A d.t.n d.t.c, .int .i64 d.t.s.lane.lo, .int .i64 d.t.s.lane.hi, .int .i64 d.t.s.bend, .slice d.b.O d.b.n d.b.c]
def StOk (w : World) (d : StD) : Prop := SlAt w 0 5 Sec.cells d.A d.n d.c d.s.secs
def BdOk (w : World) (d : BdD) : Prop := SlAt w 0 2 Bnd.cells d.O d.n d.c d.bs
def SpL (w : World) (L : Option Addr) (n c : Nat) (ds : List StD) : Prop := SlAt w 0 5 StD.cells L n c ds ∧ ∀ d ∈ ds, StOk w d
def BpL (w : World) (L : Option Addr) (n c : Nat) (es : List BdD) : Prop := SlAt w 0 1 BdD.cells L n c es ∧ ∀ e ∈ es, BdOk w e
theorem SpL.below {w w' : World} {L : Option Addr} {n c : Nat} {ds : List StD} (h : SpL w L n c ds) (hb : Below w.heap.size w w') : SpL w' L n c ds := ⟨h.1.below hb, fun d hd => SlAt.below (h.2 d hd) hb⟩
theorem BpL.below {w w' : World} {L : Option Addr} {n c : Nat} {ds : List BdD} (h : BpL w L n c ds) (hb : Below w.heap.size w w') : BpL w' L n c ds := ⟨h.1.below hb, fun d hd => SlAt.below (h.2 d hd) hb⟩
theorem SlAt.std {w : World} {B n c k : Nat} {A : Option Addr} {xs : List StD} {d : StD} (h : SlAt w B 5 StD.cells A n c xs) (hk : xs[k]? = some d) :
    ∃ b off, A = some ⟨b, off, none⟩ ∧ B ≤ b ∧ b < w.heap.size ∧ w.cell? ⟨b, off + k * 5, none⟩ = some (.int .i64 d.s.head) ∧ w.cell? ⟨b, off + k * 5 + 1, none⟩ = some (.slice d.A d.n d.c)
      ∧ w.cell? ⟨b, off + k * 5 + 2, none⟩ = some (.int .i64 d.s.lane.lo) ∧ w.cell? ⟨b, off + k * 5 + 3, none⟩ = some (.int .i64 d.s.lane.hi) ∧ w.cell? ⟨b, off + k * 5 + 4, none⟩ = some (.int .i64 d.s.bend) := by
  obtain ⟨b, off, hA, hB, hb, hc⟩ := h.at_ hk
  exact ⟨b, off, hA, hB, hb, hc 0 _ rfl, hc 1 _ rfl, hc 2 _ rfl, hc 3 _ rfl, hc 4 _ rfl⟩
theorem SlAt.bdd {w : World} {B n c k : Nat} {A : Option Addr} {xs : List BdD} {d : BdD} (h : SlAt w B 1 BdD.cells A n c xs) (hk : xs[k]? = some d) :
    ∃ b off, A = some ⟨b, off, none⟩ ∧ B ≤ b ∧ b < w.heap.size ∧ w.cell? ⟨b, off + k, none⟩ = some (.slice d.O d.n d.c) := by
  obtain ⟨b, off, hA, hB, hb, hc⟩ := h.at_ hk
  refine ⟨b, off, hA, hB, hb, ?_⟩
  have := hc 0 _ rfl
  simpa using this
theorem SlAt.tld {w : World} {B n c k : Nat} {A : Option Addr} {xs : List TlD} {d : TlD} (h : SlAt w B 6 TlD.cells A n c xs) (hk : xs[k]? = some d) :
    ∃ b off, A = some ⟨b, off, none⟩ ∧ B ≤ b ∧ b < w.heap.size ∧ w.cell? ⟨b, off + k * 6, none⟩ = some (.int .i64 d.t.s.head) ∧ w.cell? ⟨b, off + k * 6 + 1, none⟩ = some (.slice d.t.A d.t.n d.t.c)
      ∧ w.cell? ⟨b, off + k * 6 + 2, none⟩ = some (.int .i64 d.t.s.lane.lo) ∧ w.cell? ⟨b, off + k * 6 + 3, none⟩ = some (.int .i64 d.t.s.lane.hi) ∧ w.cell? ⟨b, off + k * 6 + 4, none⟩ = some (.int .i64 d.t.s.bend) ∧ w.cell? ⟨b, off + k * 6 + 5, none⟩ = some (.slice d.b.O d.b.n d.b.c) := by
  obtain ⟨b, off, hA, hB, hb, hc⟩ := h.at_ hk
  exact ⟨b, off, hA, hB, hb, hc 0 _ rfl, hc 1 _ rfl, hc 2 _ rfl, hc 3 _ rfl, hc 4 _ rfl, hc 5 _ rfl⟩
def sprTo (ds : List StD) (es : List BdD) (k : Nat) : Bool := (List.range k).all fun i => match ds[i]?, es[i]? with | some d, some e => decide (errB d.s e.bs = 0) | _, _ => false
def sprOk (ds : List StD) (es : List BdD) : Bool := decide (1 ≤ ds.length ∧ ds.length ≤ 4 ∧ es.length = ds.length) && sprTo ds es ds.length
theorem sprTo_succ {ds : List StD} {es : List BdD} {k : Nat} {d : StD} {e : BdD} (hd : ds[k]? = some d) (he : es[k]? = some e) : sprTo ds es (k + 1) = (sprTo ds es k && decide (errB d.s e.bs = 0)) := by
  unfold sprTo
  rw [List.range_succ, List.all_append]
  simp [hd, he]
theorem sprTo_no {ds : List StD} {es : List BdD} {k : Nat} (h : sprTo ds es k = false) : ∀ n, k ≤ n → sprTo ds es n = false := by
  intro n hn
  obtain ⟨m, rfl⟩ : ∃ m, n = k + m := ⟨n - k, by omega⟩
  unfold sprTo at *
  rw [List.range_add, List.all_append, h, Bool.false_and]
theorem sprTo_at {ds : List StD} {es : List BdD} {k i : Nat} {d : StD} {e : BdD} (h : sprTo ds es k = true) (hi : i < k) (hd : ds[i]? = some d) (he : es[i]? = some e) : errB d.s e.bs = 0 := by
  unfold sprTo at h
  have := List.all_eq_true.1 h i (List.mem_range.2 hi)
  simp only [hd, he] at this
  exact of_decide_eq_true this
def zipT (ds : List StD) (es : List BdD) : List TlD := List.zipWith TlD.mk ds es
theorem zipT_take {ds : List StD} {es : List BdD} {k : Nat} {d : StD} {e : BdD} (hd : ds[k]? = some d) (he : es[k]? = some e) : (zipT ds es).take (k + 1) = (zipT ds es).take k ++ [⟨d, e⟩] := by
  unfold zipT
  rw [List.take_add_one]
  simp [List.getElem?_zipWith, hd, he]
theorem Tryz.infoTw : (Tryz.prog.info? 104).map (fun i => (i.zero, i.size, i.bytes)) = some (some (.agg #[.int .i64 0, .slice none 0 0, .int .i64 0, .int .i64 0, .int .i64 0, .slice none 0 0]), 6, 80) := by kernel_rfl
def RetSpr (ds : List StD) (es : List BdD) (w : World) (e : Ending) (w' : World) : Prop :=
  ∃ P n c, e = .returned (.tuple #[.slice P n c, .int .i64 (if sprOk ds es = true then 0 else 36)]) ∧ (sprOk ds es = true → n = ds.length ∧ SlAt w' w.heap.size 6 TlD.cells P n c (zipT ds es)) ∧ Below w.heap.size w w'
set_option maxRecDepth 100000 in
set_option maxHeartbeats 4000000 in
theorem spread_any (L M : Option Addr) (n c m cm : Nat) (ds : List StD) (es : List BdD) (w : World) (hL : SpL w L n c ds) (hM : BpL w M m cm es) :
    Calls Tryz.prog 87 #[.slice L n c, .slice M m cm] w (RetSpr ds es w) := by
  have hdl := Lib.hid hL.1.len
  have hel := Lib.hid hM.1.len
  have hw1 := fun W => within_any (n : Int) 1 4 W
  by_cases h1 : 1 ≤ n ∧ n ≤ 4
  · simp only [decide_eq_true (show 1 ≤ (n : Int) ∧ (n : Int) ≤ 4 by omega)] at hw1
    by_cases h2 : m = n
    · subst h2
      have hok : Hid (sprOk ds es = sprTo ds es m) := by
        show _ = _
        unfold sprOk
        rw [hdl.out, hel.out, decide_eq_true ⟨h1.1, h1.2, rfl⟩, Bool.true_and]
      go_enter Tryz.func87, Tryz.ntmps87
      go_wp2_with fail
      refine (hw1 _).mono ?_
      rintro e w' ⟨rfl, rfl⟩
      clear hw1
      go_wp2_with fail
      go_loopw [6, 24] (fun v i wr => ∃ k : Nat, i = .int .i64 k ∧ k ≤ m ∧ sprTo ds es k = true ∧ wr.ownsRow w.heap.size 104 6 v k (((zipT ds es).take k).flatMap TlD.cells) ∧ Below w.heap.size w wr) (fun v i wr => m - (intOf i).toNat)
      case atStart => exact ⟨0, rfl, Nat.zero_le _, rfl, ⟨rfl, .inl ⟨rfl, rfl⟩⟩, Below.refl _ _⟩
      case round =>
        obtain ⟨k, rfl, hk, hsp, hown, hb⟩ := hrel
        replace hsp := Lib.hid hsp
        by_cases hlt : k < m
        · have hk0 : (0 : Int) ≤ (k : Int) := by omega
          have hk1 : (k : Int) < (m : Int) := by omega
          obtain ⟨d, hd⟩ := some_of_lt hdl.out hlt
          obtain ⟨e, he⟩ := some_of_lt hel.out hlt
          have hst : StOk wr d := SlAt.below (hL.2 d (List.mem_of_getElem? hd)) hb
          have hbt : BdOk wr e := SlAt.below (hM.2 e (List.mem_of_getElem? he)) hb
          have hnx := Lib.hid (sprTo_succ hd he)
          have htk := Lib.hid (zipT_take hd he)
          obtain ⟨bL, oL, hA, -, hbL, z0, z1, z2, z3, z4⟩ := (hL.1.keep hb.size (fun _ _ h => hb.cell h)).std hd
          obtain ⟨bM, oM, hB, -, hbM0, y0⟩ := hM.1.bdd he
          replace y0 := (hb.cell (p := ⟨bM, oM + k, none⟩) hbM0).trans y0
          have hbM : bM < wr.heap.size := Nat.lt_of_lt_of_le hbM0 hb.size
          have hu6 : ∀ q, u6.ownBlock = some q → w.heap.size ≤ q ∧ q < wr.heap.size := fun q e => hown.lt q e
          subst hA
          subst hB
          replace hd := Lib.hid hd
          replace he := Lib.hid he
          have hck := fun W h1 h2 => checked_any d.s d.A e.O d.n d.c e.n e.c 0 0 e.bs W h1 h2
          go_wp2_with fail
          clear z0 z1 z2 z3 z4
          have k8 := Blk.new wr 26 #[.int .i64 d.s.head, .slice d.A d.n d.c, .int .i64 d.s.lane.lo, .int .i64 d.s.lane.hi, .int .i64 d.s.bend]
          have hs8 : wr.heap.size < (wr.alloc (.cells #[.int .i64 d.s.head, .slice d.A d.n d.c, .int .i64 d.s.lane.lo, .int .i64 d.s.lane.hi, .int .i64 d.s.bend] 26)).heap.size := by rw [World.size_alloc]; omega
          have hbel := (Below.refl wr.heap.size wr).alloc (Nat.le_refl _) (.cells #[.int .i64 d.s.head, .slice d.A d.n d.c, .int .i64 d.s.lane.lo, .int .i64 d.s.lane.hi, .int .i64 d.s.bend] 26)
          replace hst : StOk _ d := SlAt.below hst hbel
          replace hbt : BdOk _ e := SlAt.below hbt hbel
          replace y0 := (hbel.cell (p := ⟨bM, oM + k, none⟩) hbM).trans y0
          replace hbM := Nat.lt_of_lt_of_le hbM hbel.size
          have hown0 := hown
          replace hown := ownsRow_below hown hbel
          replace hb := hb.trans (hbel.mono hb.size)
          clear hbel
          generalize wr.alloc (.cells #[.int .i64 d.s.head, .slice d.A d.n d.c, .int .i64 d.s.lane.lo, .int .i64 d.s.lane.hi, .int .i64 d.s.bend] 26) = W at *
          generalize wr.heap.size = g8 at *
          refine wp_held_np (fun w' : World => (∀ j, w'.cell? ⟨g8, j, none⟩ = #[Value.int .i64 d.s.head, .slice d.A d.n d.c, .int .i64 d.s.lane.lo, .int .i64 d.s.lane.hi, .int .i64 d.s.bend][j]?) ∧ w'.cell? ⟨bM, oM + k, none⟩ = some (.slice e.O e.n e.c)) (by kernel_rfl) ?_
          have hSb : Hid (∀ W', Below W.heap.size W W' → (fun w' : World => (∀ j, w'.cell? ⟨g8, j, none⟩ = #[Value.int .i64 d.s.head, .slice d.A d.n d.c, .int .i64 d.s.lane.lo, .int .i64 d.s.lane.hi, .int .i64 d.s.bend][j]?) ∧ w'.cell? ⟨bM, oM + k, none⟩ = some (.slice e.O e.n e.c)) W') := by
            show ∀ _, _
            intro W' hb9
            exact ⟨(k8.below hb9).cell, (hb9.cell (p := ⟨bM, oM + k, none⟩) hbM).trans y0⟩
          have hb9 : Below W.heap.size W W.drew := (Below.refl _ _).drew
          have hS := hSb.out _ hb9
          generalize W.drew = wd at *
          by_cases her : errB d.s e.bs = 0
          · rw [decide_eq_true her, Bool.and_true] at hnx
            replace her := Lib.hid her
            refine held_take (i := 0) (v := ?_) 30 rfl rfl (by kernel_rfl) (by kernel_rfl) (by kernel_rfl) (fun _ _ _ h => h) (Or.inl ⟨by rfl, ?_⟩) hS ?_
            rotate_left 1
            · intro w' hSw
              try dsimp only at hSw
              obtain ⟨q0, q1⟩ := hSw
              go_simp
              all_goals with_reducible rfl
            try simp only [Act.put, List.setIfInBounds_toArray, List.set_cons_zero, List.set_cons_succ]
            refine held_take (i := 1) (v := ?_) 31 rfl rfl (by kernel_rfl) (by kernel_rfl) (by kernel_rfl) (fun _ _ _ h => h) (Or.inl ⟨by rfl, ?_⟩) hS ?_
            rotate_left 1
            · intro w' hSw
              try dsimp only at hSw
              obtain ⟨q0, q1⟩ := hSw
              go_simp
              all_goals with_reducible rfl
            try simp only [Act.put, List.setIfInBounds_toArray, List.set_cons_zero, List.set_cons_succ]
            refine held_take (i := 2) (v := ?_) 32 rfl rfl (by kernel_rfl) (by kernel_rfl) (by kernel_rfl) (fun _ _ _ h => h) (Or.inl ⟨by rfl, ?_⟩) hS ?_
            rotate_left 1
            · intro w' hSw
              try dsimp only at hSw
              obtain ⟨q0, q1⟩ := hSw
              go_simp
              all_goals with_reducible rfl
            try simp only [Act.put, List.setIfInBounds_toArray, List.set_cons_zero, List.set_cons_succ]
            refine held_take (i := 3) (v := ?_) 33 rfl rfl (by kernel_rfl) (by kernel_rfl) (by kernel_rfl) (fun _ _ _ h => h) (Or.inl ⟨by rfl, ?_⟩) hS ?_
            rotate_left 1
            · intro w' hSw
              try dsimp only at hSw
              obtain ⟨q0, q1⟩ := hSw
              go_simp
              all_goals with_reducible rfl
            try simp only [Act.put, List.setIfInBounds_toArray, List.set_cons_zero, List.set_cons_succ]
            refine held_take (i := 4) (v := ?_) 34 rfl rfl (by kernel_rfl) (by kernel_rfl) (by kernel_rfl) (fun _ _ _ h => h) (Or.inl ⟨by rfl, ?_⟩) hS ?_
            rotate_left 1
            · intro w' hSw
              try dsimp only at hSw
              obtain ⟨q0, q1⟩ := hSw
              go_simp
              all_goals with_reducible rfl
            try simp only [Act.put, List.setIfInBounds_toArray, List.set_cons_zero, List.set_cons_succ]
            refine wpAnyH_fin (f := fun a g => (((((a.put (some 35) (.tuple #[.agg #[.int .i64 d.s.head, .slice d.A d.n d.c, .int .i64 d.s.lane.lo, .int .i64 d.s.lane.hi, .int .i64 d.s.bend], .int .i64 0])).put (some 29) (.tuple #[.agg #[.int .i64 d.s.head, .slice d.A d.n d.c, .int .i64 d.s.lane.lo, .int .i64 d.s.lane.hi, .int .i64 d.s.bend], .int .i64 0])).put (some 36) (.agg #[.int .i64 d.s.head, .slice d.A d.n d.c, .int .i64 d.s.lane.lo, .int .i64 d.s.lane.hi, .int .i64 d.s.bend])).put (some 37) (.int .i64 0)).put (some 9) (.pointer (some ⟨g, 0, none⟩))).put (some 10) (.int .i64 0)) (B := fun g W' => Blk W' g 102 #[.int .i64 d.s.head, .slice d.A d.n d.c, .int .i64 d.s.lane.lo, .int .i64 d.s.lane.hi, .int .i64 d.s.bend] ∧ W.heap.size ≤ g ∧ Below W.heap.size W W') ?_ (fun hrest => ?_)
            · rintro g9 W3 ⟨k9, hg9, hb10⟩
              try simp only [Act.put, List.setIfInBounds_toArray, List.set_cons_zero, List.set_cons_succ]
              refine noPanic_normal ?_
              clear hS hck hb9
              replace hown := ownsRow_below hown hb10
              replace hb := hb.trans (hb10.mono hb.size)
              replace y0 := (hb10.cell (p := ⟨bM, oM + k, none⟩) hbM).trans y0
              clear hSb hb10 k8 hst hbt hbL hbM
              go_wp2_with fail
              refine wp_held_np (fun w' : World => (∀ j, w'.cell? ⟨g9, j, none⟩ = #[Value.int .i64 d.s.head, .slice d.A d.n d.c, .int .i64 d.s.lane.lo, .int .i64 d.s.lane.hi, .int .i64 d.s.bend][j]?) ∧ w'.cell? ⟨bM, oM + k, none⟩ = some (.slice e.O e.n e.c)) (by kernel_rfl) ?_
              replace k9 := k9.drew
              replace hown : W3.drew.ownsRow _ _ _ _ _ _ := hown
              replace hb := hb.drew
              replace y0 : W3.drew.cell? _ = _ := y0
              generalize W3.drew = W4 at *
              have hS : (fun w' : World => (∀ j, w'.cell? ⟨g9, j, none⟩ = #[Value.int .i64 d.s.head, .slice d.A d.n d.c, .int .i64 d.s.lane.lo, .int .i64 d.s.lane.hi, .int .i64 d.s.bend][j]?) ∧ w'.cell? ⟨bM, oM + k, none⟩ = some (.slice e.O e.n e.c)) W4 := ⟨k9.cell, y0⟩
              refine held_take (i := 0) (v := ?_) 40 rfl rfl (by kernel_rfl) (by kernel_rfl) (by kernel_rfl) (fun _ _ _ h => h) (Or.inl ⟨by rfl, ?_⟩) hS ?_
              rotate_left 1
              · intro w' hSw
                try dsimp only at hSw
                obtain ⟨q0, q1⟩ := hSw
                go_simp
                all_goals with_reducible rfl
              try simp only [Act.put, List.setIfInBounds_toArray, List.set_cons_zero, List.set_cons_succ]
              refine held_take (i := 1) (v := ?_) 41 rfl rfl (by kernel_rfl) (by kernel_rfl) (by kernel_rfl) (fun _ _ _ h => h) (Or.inl ⟨by rfl, ?_⟩) hS ?_
              rotate_left 1
              · intro w' hSw
                try dsimp only at hSw
                obtain ⟨q0, q1⟩ := hSw
                go_simp
                all_goals with_reducible rfl
              try simp only [Act.put, List.setIfInBounds_toArray, List.set_cons_zero, List.set_cons_succ]
              refine held_take (i := 2) (v := ?_) 42 rfl rfl (by kernel_rfl) (by kernel_rfl) (by kernel_rfl) (fun _ _ _ h => h) (Or.inl ⟨by rfl, ?_⟩) hS ?_
              rotate_left 1
              · intro w' hSw
                try dsimp only at hSw
                obtain ⟨q0, q1⟩ := hSw
                go_simp
                all_goals with_reducible rfl
              try simp only [Act.put, List.setIfInBounds_toArray, List.set_cons_zero, List.set_cons_succ]
              refine held_take (i := 3) (v := ?_) 43 rfl rfl (by kernel_rfl) (by kernel_rfl) (by kernel_rfl) (fun _ _ _ h => h) (Or.inl ⟨by rfl, ?_⟩) hS ?_
              rotate_left 1
              · intro w' hSw
                try dsimp only at hSw
                obtain ⟨q0, q1⟩ := hSw
                go_simp
                all_goals with_reducible rfl
              try simp only [Act.put, List.setIfInBounds_toArray, List.set_cons_zero, List.set_cons_succ]
              refine held_take (i := 4) (v := ?_) 44 rfl rfl (by kernel_rfl) (by kernel_rfl) (by kernel_rfl) (fun _ _ _ h => h) (Or.inl ⟨by rfl, ?_⟩) hS ?_
              rotate_left 1
              · intro w' hSw
                try dsimp only at hSw
                obtain ⟨q0, q1⟩ := hSw
                go_simp
                all_goals with_reducible rfl
              try simp only [Act.put, List.setIfInBounds_toArray, List.set_cons_zero, List.set_cons_succ]
              refine held_take (i := 5) (v := ?_) 45 rfl rfl (by kernel_rfl) (by kernel_rfl) (by kernel_rfl) (fun _ _ _ h => h) (Or.inl ⟨by rfl, ?_⟩) hS ?_
              rotate_left 1
              · intro w' hSw
                try dsimp only at hSw
                obtain ⟨q0, q1⟩ := hSw
                go_simp
                all_goals with_reducible rfl
              try simp only [Act.put, List.setIfInBounds_toArray, List.set_cons_zero, List.set_cons_succ]
              refine held_take (i := 6) (v := ?_) 46 rfl rfl (by kernel_rfl) (by kernel_rfl) (by kernel_rfl) (fun _ _ _ h => h) (Or.inl ⟨by rfl, ?_⟩) hS ?_
              rotate_left 1
              · intro w' hSw
                try dsimp only at hSw
                obtain ⟨q0, q1⟩ := hSw
                go_simp
                all_goals with_reducible rfl
              try simp only [Act.put, List.setIfInBounds_toArray, List.set_cons_zero, List.set_cons_succ]
              have hownf := hown.alloc (.cells #[.int .i64 d.s.head, .slice d.A d.n d.c, .int .i64 d.s.lane.lo, .int .i64 d.s.lane.hi, .int .i64 d.s.bend, .slice e.O e.n e.c] 104)
              have hbf := hb.alloc hb.size (.cells #[.int .i64 d.s.head, .slice d.A d.n d.c, .int .i64 d.s.lane.lo, .int .i64 d.s.lane.hi, .int .i64 d.s.bend, .slice e.O e.n e.c] 104)
              have hnews : ∀ (j : Nat) (u : Value), ([.int .i64 d.s.head, .slice d.A d.n d.c, .int .i64 d.s.lane.lo, .int .i64 d.s.lane.hi, .int .i64 d.s.bend, .slice e.O e.n e.c] : List Value)[j]? = some u → (W4.alloc (.cells #[.int .i64 d.s.head, .slice d.A d.n d.c, .int .i64 d.s.lane.lo, .int .i64 d.s.lane.hi, .int .i64 d.s.bend, .slice e.O e.n e.c] 104)).cell? ((⟨W4.heap.size, 0, none⟩ : Addr).add j) = some u :=
                World.news_of_block (cs := #[.int .i64 d.s.head, .slice d.A d.n d.c, .int .i64 d.s.lane.lo, .int .i64 d.s.lane.hi, .int .i64 d.s.bend, .slice e.O e.n e.c]) (World.alloc_heap_new W4 _)
              obtain ⟨i0, hi0, hz0, hz1, hz2⟩ := info_parts Tryz.infoTw
              have hbig1 : Hid (k + 1 ≤ maxLen) := by show k + 1 ≤ maxLen; unfold maxLen; omega
              have hbig2 : Hid ((k + 1) * 80 ≤ 140737488355328) := by show (k + 1) * 80 ≤ 140737488355328; omega
              have hSa : (fun w' : World => (∀ j, w'.cell? ⟨g9, j, none⟩ = #[Value.int .i64 d.s.head, .slice d.A d.n d.c, .int .i64 d.s.lane.lo, .int .i64 d.s.lane.hi, .int .i64 d.s.bend][j]?) ∧ w'.cell? ⟨bM, oM + k, none⟩ = some (.slice e.O e.n e.c)) (W4.alloc (.cells #[.int .i64 d.s.head, .slice d.A d.n d.c, .int .i64 d.s.lane.lo, .int .i64 d.s.lane.hi, .int .i64 d.s.bend, .slice e.O e.n e.c] 104)) := ⟨(k9.alloc _).cell, (World.cell?_alloc_lt _ _ _ (World.block_lt_of_cell? _ _ y0)).trans y0⟩
              refine held_one (i := 7) (by kernel_rfl) rfl rfl (fun K hK => ?_)
              go_simp
              refine hK _ _ hSa ?_
              clear hK K hS
              try simp only [Act.put, List.setIfInBounds_toArray, List.set_cons_zero, List.set_cons_succ]
              refine held_one (i := 8) (by kernel_rfl) rfl rfl (fun K hK => ?_)
              refine wp_append_lies _ _ _ 144 (by rfl) w.heap.size 104 i0 (.agg #[.int .i64 0, .slice none 0 0, .int .i64 0, .int .i64 0, .int .i64 0, .slice none 0 0]) 6 80 Tryz.underlying144 hi0 hz0 hz1 hz2 rfl (by omega) u6 k (((zipT ds es).take k).flatMap TlD.cells) (by rfl) hownf ⟨W4.heap.size, 0, none⟩ 1 1 [.int .i64 d.s.head, .slice d.A d.n d.c, .int .i64 d.s.lane.lo, .int .i64 d.s.lane.hi, .int .i64 d.s.bend, .slice e.O e.n e.c] (by rfl) rfl hnews (by simp [Value.oneCell']) (by omega) hbig1.out hbig2.out hbf.size (W4.heap.size + 1) (by simp) ?_
              intro g cap w7 hown7 hgrow hlies hlt7
              have hbg : Below w.heap.size _ w7 := ⟨hgrow.os, hgrow.tape, hgrow.output, hgrow.size, fun b hb2 => hgrow.block b (Nat.lt_of_lt_of_le hb2 hbf.size) (fun e => by have := (hownf.lt _ e.symm).1; omega)⟩
              have hbh := hbf.trans hbg
              have k9g := ((k9.alloc (.cells #[.int .i64 d.s.head, .slice d.A d.n d.c, .int .i64 d.s.lane.lo, .int .i64 d.s.lane.hi, .int .i64 d.s.bend, .slice e.O e.n e.c] 104)).grown hgrow (fun e => by have := hu6 _ e.symm; omega)).cell
              have y0g : w7.cell? ⟨bM, oM + k, none⟩ = some (.slice e.O e.n e.c) := by
                rw [← hSa.2]
                apply cell_eq
                exact hgrow.block bM (Nat.lt_of_lt_of_le hbM0 hbf.size) (fun e => by have := hu6 _ e.symm; omega)
              have hSe : (fun w' : World => (∀ j, w'.cell? ⟨g9, j, none⟩ = #[Value.int .i64 d.s.head, .slice d.A d.n d.c, .int .i64 d.s.lane.lo, .int .i64 d.s.lane.hi, .int .i64 d.s.bend][j]?) ∧ w'.cell? ⟨bM, oM + k, none⟩ = some (.slice e.O e.n e.c)) w7 := ⟨k9g, y0g⟩
              refine hK _ _ hSe ?_
              clear hK K
              have hS := hSe
              try simp only [Act.put, List.setIfInBounds_toArray, List.set_cons_zero, List.set_cons_succ]
              refine held_take (i := 9) (v := ?_) 6 rfl rfl (by kernel_rfl) (by kernel_rfl) (by kernel_rfl) (fun _ _ _ h => h) (Or.inl ⟨by rfl, ?_⟩) hS ?_
              rotate_left 1
              · intro w' hSw
                try dsimp only at hSw
                obtain ⟨q0, q1⟩ := hSw
                go_simp
                all_goals with_reducible rfl
              try simp only [Act.put, List.setIfInBounds_toArray, List.set_cons_zero, List.set_cons_succ]
              refine wpAnyH_done (by kernel_rfl) (noPanic_normal ?_) _
              clear hS hSe hSa
              go_wp2_with fail
              go_roundw
              case rel =>
                refine ⟨k + 1, by go_num, by omega, by rw [hnx.out]; exact hsp.out, ?_, hbh⟩
                rw [htk.out, List.flatMap_append]
                exact hown7
              case measure => simp [intOf]; omega
            · try simp only [Act.put, List.setIfInBounds_toArray, List.set_cons_zero, List.set_cons_succ] at hrest
              refine held_two (i := 5) (j := 9) (by kernel_rfl) rfl rfl rfl rfl (fun K hK => ?_) (fun K hK => ?_)
              · skip
                go_simp
                refine (hck _ (SlAt.below hst hb9) (SlAt.below hbt hb9)).mono ?_
                rintro e X1 ⟨r1, r2, hbel⟩
                obtain rfl := r1 her.out
                clear r1 r2
                replace hb9 := hb9.trans (hbel.mono hb9.size)
                try replace k9 := k9.below hbel
                clear hS hbel
                have hS := hSb.out _ hb9
                refine hK _ _ hS ?_
                clear hK K
                try simp only [Act.put, List.setIfInBounds_toArray, List.set_cons_zero, List.set_cons_succ]
                refine held_take (i := 6) (v := ?_) 29 rfl rfl (by kernel_rfl) (by kernel_rfl) (by kernel_rfl) (fun _ _ _ h => h) (Or.inl ⟨by rfl, ?_⟩) hS ?_
                rotate_left 1
                · intro w' hSw
                  try dsimp only at hSw
                  obtain ⟨q0, q1⟩ := hSw
                  go_simp
                  all_goals with_reducible rfl
                try simp only [Act.put, List.setIfInBounds_toArray, List.set_cons_zero, List.set_cons_succ]
                refine held_take (i := 7) (v := ?_) 36 rfl rfl (by kernel_rfl) (by kernel_rfl) (by kernel_rfl) (fun _ _ _ h => h) (Or.inl ⟨by rfl, ?_⟩) hS ?_
                rotate_left 1
                · intro w' hSw
                  try dsimp only at hSw
                  obtain ⟨q0, q1⟩ := hSw
                  go_simp
                  all_goals with_reducible rfl
                try simp only [Act.put, List.setIfInBounds_toArray, List.set_cons_zero, List.set_cons_succ]
                refine held_take (i := 8) (v := ?_) 37 rfl rfl (by kernel_rfl) (by kernel_rfl) (by kernel_rfl) (fun _ _ _ h => h) (Or.inl ⟨by rfl, ?_⟩) hS ?_
                rotate_left 1
                · intro w' hSw
                  try dsimp only at hSw
                  obtain ⟨q0, q1⟩ := hSw
                  go_simp
                  all_goals with_reducible rfl
                try simp only [Act.put, List.setIfInBounds_toArray, List.set_cons_zero, List.set_cons_succ]
                refine held_one (i := 9) (by kernel_rfl) rfl rfl (fun K hK => ?_)
                go_simp
                have hgg := hb9.size
                have k9 := Blk.new X1 102 #[.int .i64 0, .slice none 0 0, .int .i64 0, .int .i64 0, .int .i64 0]
                replace hb9 := hb9.alloc hb9.size (.cells #[.int .i64 0, .slice none 0 0, .int .i64 0, .int .i64 0, .int .i64 0] 102)
                clear hS
                have hS := hSb.out _ hb9
                refine hK _ _ hS ?_
                clear hK K
                try simp only [Act.put, List.setIfInBounds_toArray, List.set_cons_zero, List.set_cons_succ]
                generalize X1.heap.size = g9 at *
                generalize X1.alloc (.cells #[.int .i64 0, .slice none 0 0, .int .i64 0, .int .i64 0, .int .i64 0] 102) = X2 at *
                refine held_one (i := 10) (by kernel_rfl) rfl rfl (fun K hK => ?_)
                have kz := ((((k9.set_ 0 (.int .i64 d.s.head)).set_ 1 (.slice d.A d.n d.c)).set_ 2 (.int .i64 d.s.lane.lo)).set_ 3 (.int .i64 d.s.lane.hi)).set_ 4 (.int .i64 d.s.bend)
                simp only [List.setIfInBounds_toArray, List.set_cons_zero, List.set_cons_succ] at kz
                have bz := ((((hb9.setCell (p := ⟨g9, 0, none⟩) (by dsimp only; omega) (.int .i64 d.s.head)).setCell (p := ⟨g9, 1, none⟩) (by dsimp only; omega) (.slice d.A d.n d.c)).setCell (p := ⟨g9, 2, none⟩) (by dsimp only; omega) (.int .i64 d.s.lane.lo)).setCell (p := ⟨g9, 3, none⟩) (by dsimp only; omega) (.int .i64 d.s.lane.hi)).setCell (p := ⟨g9, 4, none⟩) (by dsimp only; omega) (.int .i64 d.s.bend)
                obtain ⟨X3, hwz⟩ : ∃ x, x = ((((X2.setCell ⟨g9, 0, none⟩ (.int .i64 d.s.head)).setCell ⟨g9, 1, none⟩ (.slice d.A d.n d.c)).setCell ⟨g9, 2, none⟩ (.int .i64 d.s.lane.lo)).setCell ⟨g9, 3, none⟩ (.int .i64 d.s.lane.hi)).setCell ⟨g9, 4, none⟩ (.int .i64 d.s.bend) := ⟨_, rfl⟩
                rw [← hwz] at kz bz
                obtain ⟨c9, f9, l9⟩ := k9.rules
                go_simp
                rw [← hwz]
                clear hwz c9 f9 l9 hS
                have hS := hSb.out _ bz
                refine hK _ _ hS ?_
                clear hK K
                try simp only [Act.put, List.setIfInBounds_toArray, List.set_cons_zero, List.set_cons_succ]
                refine held_take (i := 11) (v := ?_) 10 rfl rfl (by kernel_rfl) (by kernel_rfl) (by kernel_rfl) (fun _ _ _ h => h) (Or.inl ⟨by rfl, ?_⟩) hS ?_
                rotate_left 1
                · intro w' hSw
                  try dsimp only at hSw
                  obtain ⟨q0, q1⟩ := hSw
                  go_simp
                  all_goals with_reducible rfl
                try simp only [Act.put, List.setIfInBounds_toArray, List.set_cons_zero, List.set_cons_succ]
                refine wpAnyH_done (by kernel_rfl) (hrest (g9) _ ⟨kz, hgg, bz⟩) _
              · skip
                go_simp
                have hgg := hb9.size
                have k9 := Blk.new wd 102 #[.int .i64 0, .slice none 0 0, .int .i64 0, .int .i64 0, .int .i64 0]
                replace hb9 := hb9.alloc hb9.size (.cells #[.int .i64 0, .slice none 0 0, .int .i64 0, .int .i64 0, .int .i64 0] 102)
                clear hS
                have hS := hSb.out _ hb9
                refine hK _ _ hS ?_
                clear hK K
                try simp only [Act.put, List.setIfInBounds_toArray, List.set_cons_zero, List.set_cons_succ]
                generalize wd.heap.size = g9 at *
                generalize wd.alloc (.cells #[.int .i64 0, .slice none 0 0, .int .i64 0, .int .i64 0, .int .i64 0] 102) = X4 at *
                refine held_one (i := 5) (by kernel_rfl) rfl rfl (fun K hK => ?_)
                go_simp
                refine (hck _ (SlAt.below hst hb9) (SlAt.below hbt hb9)).mono ?_
                rintro e X5 ⟨r1, r2, hbel⟩
                obtain rfl := r1 her.out
                clear r1 r2
                replace hb9 := hb9.trans (hbel.mono hb9.size)
                try replace k9 := k9.below hbel
                clear hS hbel
                have hS := hSb.out _ hb9
                refine hK _ _ hS ?_
                clear hK K
                try simp only [Act.put, List.setIfInBounds_toArray, List.set_cons_zero, List.set_cons_succ]
                refine held_take (i := 6) (v := ?_) 29 rfl rfl (by kernel_rfl) (by kernel_rfl) (by kernel_rfl) (fun _ _ _ h => h) (Or.inl ⟨by rfl, ?_⟩) hS ?_
                rotate_left 1
                · intro w' hSw
                  try dsimp only at hSw
                  obtain ⟨q0, q1⟩ := hSw
                  go_simp
                  all_goals with_reducible rfl
                try simp only [Act.put, List.setIfInBounds_toArray, List.set_cons_zero, List.set_cons_succ]
                refine held_take (i := 7) (v := ?_) 36 rfl rfl (by kernel_rfl) (by kernel_rfl) (by kernel_rfl) (fun _ _ _ h => h) (Or.inl ⟨by rfl, ?_⟩) hS ?_
                rotate_left 1
                · intro w' hSw
                  try dsimp only at hSw
                  obtain ⟨q0, q1⟩ := hSw
                  go_simp
                  all_goals with_reducible rfl
                try simp only [Act.put, List.setIfInBounds_toArray, List.set_cons_zero, List.set_cons_succ]
                refine held_take (i := 8) (v := ?_) 37 rfl rfl (by kernel_rfl) (by kernel_rfl) (by kernel_rfl) (fun _ _ _ h => h) (Or.inl ⟨by rfl, ?_⟩) hS ?_
                rotate_left 1
                · intro w' hSw
                  try dsimp only at hSw
                  obtain ⟨q0, q1⟩ := hSw
                  go_simp
                  all_goals with_reducible rfl
                try simp only [Act.put, List.setIfInBounds_toArray, List.set_cons_zero, List.set_cons_succ]
                refine held_one (i := 10) (by kernel_rfl) rfl rfl (fun K hK => ?_)
                have kz := ((((k9.set_ 0 (.int .i64 d.s.head)).set_ 1 (.slice d.A d.n d.c)).set_ 2 (.int .i64 d.s.lane.lo)).set_ 3 (.int .i64 d.s.lane.hi)).set_ 4 (.int .i64 d.s.bend)
                simp only [List.setIfInBounds_toArray, List.set_cons_zero, List.set_cons_succ] at kz
                have bz := ((((hb9.setCell (p := ⟨g9, 0, none⟩) (by dsimp only; omega) (.int .i64 d.s.head)).setCell (p := ⟨g9, 1, none⟩) (by dsimp only; omega) (.slice d.A d.n d.c)).setCell (p := ⟨g9, 2, none⟩) (by dsimp only; omega) (.int .i64 d.s.lane.lo)).setCell (p := ⟨g9, 3, none⟩) (by dsimp only; omega) (.int .i64 d.s.lane.hi)).setCell (p := ⟨g9, 4, none⟩) (by dsimp only; omega) (.int .i64 d.s.bend)
                obtain ⟨X6, hwz⟩ : ∃ x, x = ((((X5.setCell ⟨g9, 0, none⟩ (.int .i64 d.s.head)).setCell ⟨g9, 1, none⟩ (.slice d.A d.n d.c)).setCell ⟨g9, 2, none⟩ (.int .i64 d.s.lane.lo)).setCell ⟨g9, 3, none⟩ (.int .i64 d.s.lane.hi)).setCell ⟨g9, 4, none⟩ (.int .i64 d.s.bend) := ⟨_, rfl⟩
                rw [← hwz] at kz bz
                obtain ⟨c9, f9, l9⟩ := k9.rules
                go_simp
                rw [← hwz]
                clear hwz c9 f9 l9 hS
                have hS := hSb.out _ bz
                refine hK _ _ hS ?_
                clear hK K
                try simp only [Act.put, List.setIfInBounds_toArray, List.set_cons_zero, List.set_cons_succ]
                refine held_take (i := 11) (v := ?_) 10 rfl rfl (by kernel_rfl) (by kernel_rfl) (by kernel_rfl) (fun _ _ _ h => h) (Or.inl ⟨by rfl, ?_⟩) hS ?_
                rotate_left 1
                · intro w' hSw
                  try dsimp only at hSw
                  obtain ⟨q0, q1⟩ := hSw
                  go_simp
                  all_goals with_reducible rfl
                try simp only [Act.put, List.setIfInBounds_toArray, List.set_cons_zero, List.set_cons_succ]
                refine wpAnyH_done (by kernel_rfl) (hrest (g9) _ ⟨kz, hgg, bz⟩) _
          · rw [decide_eq_false her, Bool.and_false] at hnx
            obtain ⟨er, hee⟩ : ∃ er, errB d.s e.bs = er := ⟨_, rfl⟩
            rw [hee] at her
            have her2 : (er != 0) = true := by rw [bne_iff_ne]; exact her
            simp only [hee] at hck
            replace her := Lib.hid her
            replace hee := Lib.hid hee
            refine held_take (i := 0) (v := ?_) 30 rfl rfl (by kernel_rfl) (by kernel_rfl) (by kernel_rfl) (fun _ _ _ h => h) (Or.inl ⟨by rfl, ?_⟩) hS ?_
            rotate_left 1
            · intro w' hSw
              try dsimp only at hSw
              obtain ⟨q0, q1⟩ := hSw
              go_simp
              all_goals with_reducible rfl
            try simp only [Act.put, List.setIfInBounds_toArray, List.set_cons_zero, List.set_cons_succ]
            refine held_take (i := 1) (v := ?_) 31 rfl rfl (by kernel_rfl) (by kernel_rfl) (by kernel_rfl) (fun _ _ _ h => h) (Or.inl ⟨by rfl, ?_⟩) hS ?_
            rotate_left 1
            · intro w' hSw
              try dsimp only at hSw
              obtain ⟨q0, q1⟩ := hSw
              go_simp
              all_goals with_reducible rfl
            try simp only [Act.put, List.setIfInBounds_toArray, List.set_cons_zero, List.set_cons_succ]
            refine held_take (i := 2) (v := ?_) 32 rfl rfl (by kernel_rfl) (by kernel_rfl) (by kernel_rfl) (fun _ _ _ h => h) (Or.inl ⟨by rfl, ?_⟩) hS ?_
            rotate_left 1
            · intro w' hSw
              try dsimp only at hSw
              obtain ⟨q0, q1⟩ := hSw
              go_simp
              all_goals with_reducible rfl
            try simp only [Act.put, List.setIfInBounds_toArray, List.set_cons_zero, List.set_cons_succ]
            refine held_take (i := 3) (v := ?_) 33 rfl rfl (by kernel_rfl) (by kernel_rfl) (by kernel_rfl) (fun _ _ _ h => h) (Or.inl ⟨by rfl, ?_⟩) hS ?_
            rotate_left 1
            · intro w' hSw
              try dsimp only at hSw
              obtain ⟨q0, q1⟩ := hSw
              go_simp
              all_goals with_reducible rfl
            try simp only [Act.put, List.setIfInBounds_toArray, List.set_cons_zero, List.set_cons_succ]
            refine held_take (i := 4) (v := ?_) 34 rfl rfl (by kernel_rfl) (by kernel_rfl) (by kernel_rfl) (fun _ _ _ h => h) (Or.inl ⟨by rfl, ?_⟩) hS ?_
            rotate_left 1
            · intro w' hSw
              try dsimp only at hSw
              obtain ⟨q0, q1⟩ := hSw
              go_simp
              all_goals with_reducible rfl
            try simp only [Act.put, List.setIfInBounds_toArray, List.set_cons_zero, List.set_cons_succ]
            refine wpAnyH_fin (f := fun a g => (((((a.put (some 35) (.tuple #[.agg #[.int .i64 0, .slice none 0 0, .int .i64 0, .int .i64 0, .int .i64 0], .int .i64 er])).put (some 29) (.tuple #[.agg #[.int .i64 0, .slice none 0 0, .int .i64 0, .int .i64 0, .int .i64 0], .int .i64 er])).put (some 36) (.agg #[.int .i64 0, .slice none 0 0, .int .i64 0, .int .i64 0, .int .i64 0])).put (some 37) (.int .i64 er)).put (some 9) (.pointer (some ⟨g, 0, none⟩))).put (some 10) (.int .i64 er)) (B := fun g W' => Blk W' g 102 #[.int .i64 0, .slice none 0 0, .int .i64 0, .int .i64 0, .int .i64 0] ∧ W.heap.size ≤ g ∧ Below W.heap.size W W') ?_ (fun hrest => ?_)
            · rintro g9 W3 ⟨k9, hg9, hb10⟩
              try simp only [Act.put, List.setIfInBounds_toArray, List.set_cons_zero, List.set_cons_succ]
              refine noPanic_normal ?_
              clear hS hck hb9 hSb
              replace hb := hb.trans (hb10.mono hb.size)
              have hno : Hid (sprOk ds es = false) := by show _ = _; rw [hok.out]; exact sprTo_no hnx.out m (by omega)
              go_wp2
              go_ret2
              exact ⟨none, 0, 0, by rw [hno.out]; rfl, (fun h => by rw [hno.out] at h; cases h), hb⟩
            · try simp only [Act.put, List.setIfInBounds_toArray, List.set_cons_zero, List.set_cons_succ] at hrest
              refine held_two (i := 5) (j := 9) (by kernel_rfl) rfl rfl rfl rfl (fun K hK => ?_) (fun K hK => ?_)
              · skip
                go_simp
                refine (hck _ (SlAt.below hst hb9) (SlAt.below hbt hb9)).mono ?_
                rintro e X7 ⟨r1, r2, hbel⟩
                obtain rfl := r2 her.out
                clear r1 r2
                replace hb9 := hb9.trans (hbel.mono hb9.size)
                try replace k9 := k9.below hbel
                clear hS hbel
                have hS := hSb.out _ hb9
                refine hK _ _ hS ?_
                clear hK K
                try simp only [Act.put, List.setIfInBounds_toArray, List.set_cons_zero, List.set_cons_succ]
                refine held_take (i := 6) (v := ?_) 29 rfl rfl (by kernel_rfl) (by kernel_rfl) (by kernel_rfl) (fun _ _ _ h => h) (Or.inl ⟨by rfl, ?_⟩) hS ?_
                rotate_left 1
                · intro w' hSw
                  try dsimp only at hSw
                  obtain ⟨q0, q1⟩ := hSw
                  go_simp
                  all_goals with_reducible rfl
                try simp only [Act.put, List.setIfInBounds_toArray, List.set_cons_zero, List.set_cons_succ]
                refine held_take (i := 7) (v := ?_) 36 rfl rfl (by kernel_rfl) (by kernel_rfl) (by kernel_rfl) (fun _ _ _ h => h) (Or.inl ⟨by rfl, ?_⟩) hS ?_
                rotate_left 1
                · intro w' hSw
                  try dsimp only at hSw
                  obtain ⟨q0, q1⟩ := hSw
                  go_simp
                  all_goals with_reducible rfl
                try simp only [Act.put, List.setIfInBounds_toArray, List.set_cons_zero, List.set_cons_succ]
                refine held_take (i := 8) (v := ?_) 37 rfl rfl (by kernel_rfl) (by kernel_rfl) (by kernel_rfl) (fun _ _ _ h => h) (Or.inl ⟨by rfl, ?_⟩) hS ?_
                rotate_left 1
                · intro w' hSw
                  try dsimp only at hSw
                  obtain ⟨q0, q1⟩ := hSw
                  go_simp
                  all_goals with_reducible rfl
                try simp only [Act.put, List.setIfInBounds_toArray, List.set_cons_zero, List.set_cons_succ]
                refine held_one (i := 9) (by kernel_rfl) rfl rfl (fun K hK => ?_)
                go_simp
                have hgg := hb9.size
                have k9 := Blk.new X7 102 #[.int .i64 0, .slice none 0 0, .int .i64 0, .int .i64 0, .int .i64 0]
                replace hb9 := hb9.alloc hb9.size (.cells #[.int .i64 0, .slice none 0 0, .int .i64 0, .int .i64 0, .int .i64 0] 102)
                clear hS
                have hS := hSb.out _ hb9
                refine hK _ _ hS ?_
                clear hK K
                try simp only [Act.put, List.setIfInBounds_toArray, List.set_cons_zero, List.set_cons_succ]
                generalize X7.heap.size = g9 at *
                generalize X7.alloc (.cells #[.int .i64 0, .slice none 0 0, .int .i64 0, .int .i64 0, .int .i64 0] 102) = X8 at *
                refine held_one (i := 10) (by kernel_rfl) rfl rfl (fun K hK => ?_)
                have kz := ((((k9.set_ 0 (.int .i64 0)).set_ 1 (.slice none 0 0)).set_ 2 (.int .i64 0)).set_ 3 (.int .i64 0)).set_ 4 (.int .i64 0)
                simp only [List.setIfInBounds_toArray, List.set_cons_zero, List.set_cons_succ] at kz
                have bz := ((((hb9.setCell (p := ⟨g9, 0, none⟩) (by dsimp only; omega) (.int .i64 0)).setCell (p := ⟨g9, 1, none⟩) (by dsimp only; omega) (.slice none 0 0)).setCell (p := ⟨g9, 2, none⟩) (by dsimp only; omega) (.int .i64 0)).setCell (p := ⟨g9, 3, none⟩) (by dsimp only; omega) (.int .i64 0)).setCell (p := ⟨g9, 4, none⟩) (by dsimp only; omega) (.int .i64 0)
                obtain ⟨X9, hwz⟩ : ∃ x, x = ((((X8.setCell ⟨g9, 0, none⟩ (.int .i64 0)).setCell ⟨g9, 1, none⟩ (.slice none 0 0)).setCell ⟨g9, 2, none⟩ (.int .i64 0)).setCell ⟨g9, 3, none⟩ (.int .i64 0)).setCell ⟨g9, 4, none⟩ (.int .i64 0) := ⟨_, rfl⟩
                rw [← hwz] at kz bz
                obtain ⟨c9, f9, l9⟩ := k9.rules
                go_simp
                rw [← hwz]
                clear hwz c9 f9 l9 hS
                have hS := hSb.out _ bz
                refine hK _ _ hS ?_
                clear hK K
                try simp only [Act.put, List.setIfInBounds_toArray, List.set_cons_zero, List.set_cons_succ]
                refine held_take (i := 11) (v := ?_) 10 rfl rfl (by kernel_rfl) (by kernel_rfl) (by kernel_rfl) (fun _ _ _ h => h) (Or.inl ⟨by rfl, ?_⟩) hS ?_
                rotate_left 1
                · intro w' hSw
                  try dsimp only at hSw
                  obtain ⟨q0, q1⟩ := hSw
                  go_simp
                  all_goals with_reducible rfl
                try simp only [Act.put, List.setIfInBounds_toArray, List.set_cons_zero, List.set_cons_succ]
                refine wpAnyH_done (by kernel_rfl) (hrest (g9) _ ⟨kz, hgg, bz⟩) _
              · skip
                go_simp
                have hgg := hb9.size
                have k9 := Blk.new wd 102 #[.int .i64 0, .slice none 0 0, .int .i64 0, .int .i64 0, .int .i64 0]
                replace hb9 := hb9.alloc hb9.size (.cells #[.int .i64 0, .slice none 0 0, .int .i64 0, .int .i64 0, .int .i64 0] 102)
                clear hS
                have hS := hSb.out _ hb9
                refine hK _ _ hS ?_
                clear hK K
                try simp only [Act.put, List.setIfInBounds_toArray, List.set_cons_zero, List.set_cons_succ]
                generalize wd.heap.size = g9 at *
                generalize wd.alloc (.cells #[.int .i64 0, .slice none 0 0, .int .i64 0, .int .i64 0, .int .i64 0] 102) = X10 at *
                refine held_one (i := 5) (by kernel_rfl) rfl rfl (fun K hK => ?_)
                go_simp
                refine (hck _ (SlAt.below hst hb9) (SlAt.below hbt hb9)).mono ?_
                rintro e X11 ⟨r1, r2, hbel⟩
                obtain rfl := r2 her.out
                clear r1 r2
                replace hb9 := hb9.trans (hbel.mono hb9.size)
                try replace k9 := k9.below hbel
                clear hS hbel
                have hS := hSb.out _ hb9
                refine hK _ _ hS ?_
                clear hK K
                try simp only [Act.put, List.setIfInBounds_toArray, List.set_cons_zero, List.set_cons_succ]
                refine held_take (i := 6) (v := ?_) 29 rfl rfl (by kernel_rfl) (by kernel_rfl) (by kernel_rfl) (fun _ _ _ h => h) (Or.inl ⟨by rfl, ?_⟩) hS ?_
                rotate_left 1
                · intro w' hSw
                  try dsimp only at hSw
                  obtain ⟨q0, q1⟩ := hSw
                  go_simp
                  all_goals with_reducible rfl
                try simp only [Act.put, List.setIfInBounds_toArray, List.set_cons_zero, List.set_cons_succ]
                refine held_take (i := 7) (v := ?_) 36 rfl rfl (by kernel_rfl) (by kernel_rfl) (by kernel_rfl) (fun _ _ _ h => h) (Or.inl ⟨by rfl, ?_⟩) hS ?_
                rotate_left 1
                · intro w' hSw
                  try dsimp only at hSw
                  obtain ⟨q0, q1⟩ := hSw
                  go_simp
                  all_goals with_reducible rfl
                try simp only [Act.put, List.setIfInBounds_toArray, List.set_cons_zero, List.set_cons_succ]
                refine held_take (i := 8) (v := ?_) 37 rfl rfl (by kernel_rfl) (by kernel_rfl) (by kernel_rfl) (fun _ _ _ h => h) (Or.inl ⟨by rfl, ?_⟩) hS ?_
                rotate_left 1
                · intro w' hSw
                  try dsimp only at hSw
                  obtain ⟨q0, q1⟩ := hSw
                  go_simp
                  all_goals with_reducible rfl
                try simp only [Act.put, List.setIfInBounds_toArray, List.set_cons_zero, List.set_cons_succ]
                refine held_one (i := 10) (by kernel_rfl) rfl rfl (fun K hK => ?_)
                have kz := ((((k9.set_ 0 (.int .i64 0)).set_ 1 (.slice none 0 0)).set_ 2 (.int .i64 0)).set_ 3 (.int .i64 0)).set_ 4 (.int .i64 0)
                simp only [List.setIfInBounds_toArray, List.set_cons_zero, List.set_cons_succ] at kz
                have bz := ((((hb9.setCell (p := ⟨g9, 0, none⟩) (by dsimp only; omega) (.int .i64 0)).setCell (p := ⟨g9, 1, none⟩) (by dsimp only; omega) (.slice none 0 0)).setCell (p := ⟨g9, 2, none⟩) (by dsimp only; omega) (.int .i64 0)).setCell (p := ⟨g9, 3, none⟩) (by dsimp only; omega) (.int .i64 0)).setCell (p := ⟨g9, 4, none⟩) (by dsimp only; omega) (.int .i64 0)
                obtain ⟨X12, hwz⟩ : ∃ x, x = ((((X11.setCell ⟨g9, 0, none⟩ (.int .i64 0)).setCell ⟨g9, 1, none⟩ (.slice none 0 0)).setCell ⟨g9, 2, none⟩ (.int .i64 0)).setCell ⟨g9, 3, none⟩ (.int .i64 0)).setCell ⟨g9, 4, none⟩ (.int .i64 0) := ⟨_, rfl⟩
                rw [← hwz] at kz bz
                obtain ⟨c9, f9, l9⟩ := k9.rules
                go_simp
                rw [← hwz]
                clear hwz c9 f9 l9 hS
                have hS := hSb.out _ bz
                refine hK _ _ hS ?_
                clear hK K
                try simp only [Act.put, List.setIfInBounds_toArray, List.set_cons_zero, List.set_cons_succ]
                refine held_take (i := 11) (v := ?_) 10 rfl rfl (by kernel_rfl) (by kernel_rfl) (by kernel_rfl) (fun _ _ _ h => h) (Or.inl ⟨by rfl, ?_⟩) hS ?_
                rotate_left 1
                · intro w' hSw
                  try dsimp only at hSw
                  obtain ⟨q0, q1⟩ := hSw
                  go_simp
                  all_goals with_reducible rfl
                try simp only [Act.put, List.setIfInBounds_toArray, List.set_cons_zero, List.set_cons_succ]
                refine wpAnyH_done (by kernel_rfl) (hrest (g9) _ ⟨kz, hgg, bz⟩) _
        · obtain rfl : m = k := by omega
          have hlen : (zipT ds es).length = m := by unfold zipT; rw [List.length_zipWith, hdl.out, hel.out]; omega
          rw [List.take_of_length_le (by rw [hlen]; exact Nat.le_refl _)] at hown
          obtain ⟨P, pc, rfl, hP⟩ := SlAt.of_own (enc := TlD.cells) hown (by omega) (zipT ds es) rfl (fun _ => rfl) hlen
          have hyes : Hid (sprOk ds es = true) := by show _ = _; rw [hok.out]; exact hsp.out
          clear hown hlen
          go_wp2
          go_ret2
          exact ⟨P, m, pc, by rw [hyes.out]; rfl, fun _ => ⟨hdl.out.symm, hP⟩, hb⟩
    · have hno : Hid (sprOk ds es = false) := by
        show _ = _
        unfold sprOk
        rw [hdl.out, hel.out, decide_eq_false (by omega), Bool.false_and]
      have hne : ((m : Int) != (n : Int)) = true := by rw [bne_iff_ne]; omega
      go_enter Tryz.func87, Tryz.ntmps87
      go_wp2_with fail
      refine (hw1 _).mono ?_
      rintro e w' ⟨rfl, rfl⟩
      go_wp2
      go_ret2
      exact ⟨none, 0, 0, by rw [hno.out]; rfl, (fun h => by rw [hno.out] at h; cases h), Below.refl _ _⟩
  · simp only [decide_eq_false (show ¬ (1 ≤ (n : Int) ∧ (n : Int) ≤ 4) by omega)] at hw1
    have hno : Hid (sprOk ds es = false) := by
      show _ = _
      unfold sprOk
      rw [hdl.out, hel.out, decide_eq_false (by omega), Bool.false_and]
    go_enter Tryz.func87, Tryz.ntmps87
    go_wp2_with fail
    refine (hw1 _).mono ?_
    rintro e w' ⟨rfl, rfl⟩
    go_wp2
    go_ret2
    exact ⟨none, 0, 0, by rw [hno.out]; rfl, (fun h => by rw [hno.out] at h; cases h), Below.refl _ _⟩
end Go.Proofs.YtjiaepphnddpoaaGreat
namespace Go.Proofs.YtjiaepphnddpoaaGreat
open Go.RowKit Go.Shelf
set_option linter.unusedSimpArgs false
set_option linter.unusedVariables false
structure Apart (g : Nat) (w w' : World) : Prop where
  low : Below g w w'
  far : ∀ b, g < b → b < w.heap.size → w'.heap[b]? = w.heap[b]?
theorem Apart.refl (g : Nat) (w : World) : Apart g w w := ⟨Below.refl _ _, fun _ _ _ => rfl⟩
theorem Apart.trans {g : Nat} {w w1 w2 : World} (h1 : Apart g w w1) (h2 : Apart g w1 w2) : Apart g w w2 :=
  ⟨h1.low.trans h2.low, fun b hb hl => (h2.far b hb (Nat.lt_of_lt_of_le hl h1.low.size)).trans (h1.far b hb hl)⟩
theorem Apart.set {g : Nat} {w w' : World} (h : Apart g w w') (i : Nat) (u : Value) : Apart g w (w'.setCell ⟨g, i, none⟩ u) :=
  ⟨h.low.setCell (p := ⟨g, i, none⟩) (Nat.le_refl g) u, fun b hb hl => (Below.heap_setCell w' ⟨g, i, none⟩ u b (by dsimp only; omega)).trans (h.far b hb hl)⟩
theorem Apart.set8 {g : Nat} {w w' : World} (h : Apart g w w') (v0 v1 v2 v3 v4 v5 v6 v7 : Value) : Apart g w (set8 w' g v0 v1 v2 v3 v4 v5 v6 v7) :=
  (((((((h.set 0 v0).set 1 v1).set 2 v2).set 3 v3).set 4 v4).set 5 v5).set 6 v6).set 7 v7
theorem wp_till_np {P : Program} {ops : Array Oper} {Q : Exit → Act → World → Prop} {id : Nat} {a : Act} {w : World} (S : World → Prop) (n0 : Nat) (hm : P.follows .mixedOrders = true)
    (h : anyTill P .any ops (noPanic Q) S n0 ops.size (Array.replicate ops.size false) a w.drew) : (Code.region id ops true).wp P Q a w :=
  Code.wp_mono (fun e a w q => by cases e <;> first | exact q | exact q.elim) (wp_region_any hm (wpAny_of_till _ _ _ _ h))
end Go.Proofs.YtjiaepphnddpoaaGreat
namespace Go.Proofs.YtjiaepphnddpoaaGreat
open Go.RowKit Go.Shelf
set_option linter.unusedSimpArgs false
set_option linter.unusedVariables false
theorem nodes_good {s : Strm} {bs : List Bnd} (h : errB s bs = 0) : Good (nodesL s bs) := by
  obtain ⟨h1, h2⟩ := errB_zero h
  intro r hr
  unfold nodesL at hr
  obtain ⟨i, hi, rfl⟩ := List.mem_map.1 hr
  obtain ⟨a, b, -⟩ := node_tight h1 h2 (List.mem_range.1 hi)
  exact ⟨b, tight_self a⟩
end Go.Proofs.YtjiaepphnddpoaaGreat
namespace Go.Proofs.YtjiaepphnddpoaaGreat
open Go.RowKit Go.Shelf
set_option linter.unusedSimpArgs false
set_option linter.unusedVariables false
theorem sprOk_iff {ds : List StD} {es : List BdD} (h : sprOk ds es = true) : (1 ≤ ds.length ∧ ds.length ≤ 4) ∧ es.length = ds.length ∧ sprTo ds es ds.length = true := by
  unfold sprOk at h
  simp only [Bool.and_eq_true, decide_eq_true_eq] at h
  exact ⟨⟨h.1.1, h.1.2.1⟩, h.1.2.2, h.2⟩
theorem zipT_at {ds : List StD} {es : List BdD} {k : Nat} {d : StD} {e : BdD} (hd : ds[k]? = some d) (he : es[k]? = some e) : (zipT ds es)[k]? = some ⟨d, e⟩ := by
  unfold zipT; simp [List.getElem?_zipWith, hd, he]
end Go.Proofs.YtjiaepphnddpoaaGreat
