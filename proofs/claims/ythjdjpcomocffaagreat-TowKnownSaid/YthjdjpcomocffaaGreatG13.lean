/-
  Walks: how near two rows of regions are to each other (package tow).
-/
import Derived.Test.YthjdjpcomocffaaGreatG12
namespace Go.Proofs.YthjdjpcomocffaaGreat
open Go.RowKit Go.Shelf
set_option linter.unusedSimpArgs false
set_option linter.unusedVariables false

def minO : Option Bnd → Bnd → Option Bnd
  | none, g => some g
  | some b, g => some ⟨min b.lo g.lo, min b.hi g.hi⟩
def apIn (o : Option Bnd) (x : Reg) (ys : List Reg) (j : Nat) : Option Bnd := ((ys.take j).map (gapS x)).foldl minO o
def apTo (xs ys : List Reg) (i : Nat) : Option Bnd := (xs.take i).foldl (fun o x => apIn o x ys ys.length) none
/-- How near two rows of regions are to each other. -/
def appO (xs ys : List Reg) : Option Bnd := apTo xs ys xs.length
def appS (xs ys : List Reg) : Bnd := optB (appO xs ys)
theorem apIn_zero (o : Option Bnd) (x : Reg) (ys : List Reg) : apIn o x ys 0 = o := rfl
theorem apIn_succ (o : Option Bnd) (x : Reg) {ys : List Reg} {j : Nat} {y : Reg} (h : ys[j]? = some y) : apIn o x ys (j + 1) = minO (apIn o x ys j) (gapS x y) := by
  unfold apIn
  rw [List.take_add_one, h, List.map_append, List.foldl_append]; rfl
theorem apTo_succ {xs : List Reg} (ys : List Reg) {i : Nat} {x : Reg} (h : xs[i]? = some x) : apTo xs ys (i + 1) = apIn (apTo xs ys i) x ys ys.length := by
  unfold apTo
  rw [List.take_add_one, h, List.foldl_append]; rfl
def geZ : Option Bnd → Prop
  | none => True
  | some b => 0 ≤ b.lo
theorem sqsS_ge (r : Reg) : 0 ≤ (sqsS r).lo := by
  unfold sqsS
  dsimp only
  have : ∀ (L : List RRow) (o : Option Bnd), geZ o → geZ ((L.map sqB).foldl (pickO ltLo) o) := by
    intro L
    induction L with
    | nil => intro o h; exact h
    | cons q L ih =>
      intro o h
      refine ih _ ?_
      have hq : 0 ≤ (sqB q).lo := by
        unfold sqB
        dsimp only
        have h1 : ∀ n : Int, 0 ≤ n * n := fun n => by
          rcases Int.le_total 0 n with h3 | h3
          · exact Int.mul_nonneg h3 h3
          · have := Int.mul_nonneg (show 0 ≤ -n by omega) (show 0 ≤ -n by omega)
            rw [Int.neg_mul_neg] at this; exact this
        have := h1 q.x
        have := h1 (max q.fr (min 0 q.to))
        omega
      cases o with
      | none => exact hq
      | some c =>
        unfold pickO
        dsimp only
        split
        · exact hq
        · exact h
  have h := this (rowsL r) none trivial
  unfold pckAll sqL
  generalize (List.map sqB (rowsL r)).foldl (pickO ltLo) none = o at *
  cases o with
  | none => exact Int.le_refl _
  | some b => exact h
theorem gapS_ge (a b : Reg) : 0 ≤ (gapS a b).lo := sqsS_ge _
theorem minO_ge {o : Option Bnd} {g : Bnd} (h : geZ o) (hg : 0 ≤ g.lo) : geZ (minO o g) := by
  cases o with
  | none => exact hg
  | some b => show 0 ≤ min b.lo g.lo; have : 0 ≤ b.lo := h; omega
theorem apIn_ge (x : Reg) (ys : List Reg) : ∀ (j : Nat) (o : Option Bnd), geZ o → geZ (apIn o x ys j) := by
  intro j o h
  unfold apIn
  generalize ys.take j = L
  induction L generalizing o with
  | nil => exact h
  | cons y L ih => exact ih _ (minO_ge h (gapS_ge x y))
theorem apTo_ge (xs ys : List Reg) (i : Nat) : geZ (apTo xs ys i) := by
  unfold apTo
  generalize xs.take i = L
  have : ∀ (L : List Reg) (o : Option Bnd), geZ o → geZ (L.foldl (fun o x => apIn o x ys ys.length) o) := by
    intro L
    induction L with
    | nil => intro o h; exact h
    | cons y L ih => intro o h; exact ih _ (apIn_ge y ys _ o h)
  exact this L none trivial
theorem minO_some (o : Option Bnd) (g : Bnd) : ∃ B, minO o g = some B := by cases o <;> exact ⟨_, rfl⟩
theorem appO_some {xs ys : List Reg} (hx : 0 < xs.length) (hy : 0 < ys.length) : appO xs ys = some (appS xs ys) := by
  have h1 : ∃ B, appO xs ys = some B := by
    unfold appO
    obtain ⟨x, hx2⟩ := some_of_lt rfl (show xs.length - 1 < xs.length by omega)
    obtain ⟨y, hy2⟩ := some_of_lt rfl (show ys.length - 1 < ys.length by omega)
    rw [show xs.length = xs.length - 1 + 1 by omega, apTo_succ ys hx2, show ys.length = ys.length - 1 + 1 by omega, apIn_succ _ x hy2]
    exact minO_some _ _
  obtain ⟨B, hB⟩ := h1
  unfold appS
  rw [hB]; rfl
/-- How the code keeps it: -1 before the first one. -/
def outL : Option Bnd → Int
  | none => -1
  | some b => b.lo
def outH : Option Bnd → Int
  | none => 0
  | some b => b.hi
/-- Regions that are tight. -/
def Good (xs : List Reg) : Prop := ∀ r ∈ xs, okReg r = true ∧ tightO r = some r
set_option maxRecDepth 100000 in
set_option maxHeartbeats 2000000 in
theorem approach_any (xs ys : List Reg) (P Q : Option Addr) (np cp nq cq : Nat) (w : World) (hgx : Good xs) (hgy : Good ys) (hx0 : 0 < np) (hy0 : 0 < nq) (hP : SlAt w 0 8 Reg.cells P np cp xs) (hQ : SlAt w 0 8 Reg.cells Q nq cq ys) :
    Calls Tryz.prog 49 #[.slice P np cp, .slice Q nq cq] w fun e w' => e = .returned (.agg #[.int .i64 (appS xs ys).lo, .int .i64 (appS xs ys).hi]) ∧ Below w.heap.size w w' := by
  have hmin := min2_int
  have hxl := Lib.hid hP.len
  have hyl := Lib.hid hQ.len
  have hle1 := hP.le
  have hle2 := hQ.le
  have hsome := appO_some (xs := xs) (ys := ys) (by have := hxl.out; omega) (by have := hyl.out; omega)
  obtain ⟨B, hB⟩ : ∃ B, appS xs ys = B := ⟨_, rfl⟩
  rw [hB] at hsome ⊢
  clear hB
  replace hsome := Lib.hid hsome
  obtain ⟨w1, hw1⟩ : ∃ w1, w1 = (w.alloc (.cells #[.int .i64 0, .int .i64 0] 24)).alloc (.cells #[.int .i64 (-1), .int .i64 0] 24) := ⟨_, rfl⟩
  have k4 : Blk w1 w.heap.size 24 #[.int .i64 0, .int .i64 0] := by rw [hw1]; exact (Blk.new _ _ _).alloc _
  have k5 : Blk w1 (w.heap.size + 1) 24 #[.int .i64 (-1), .int .i64 0] := by rw [hw1]; exact Blk.newAt (by simp)
  have b : Below w.heap.size w w1 := by rw [hw1]; exact ((Below.refl _ _).alloc (Nat.le_refl _) _).alloc (by simp) _
  go_enter Tryz.func49, Tryz.ntmps49
  go_wp2_with fail
  rw [← hw1]
  clear hw1
  go_loopw [15] (fun i wr => ∃ k : Nat, i = .int .i64 k ∧ k ≤ np ∧ Blk wr w.heap.size 24 #[.int .i64 0, .int .i64 0] ∧ Blk wr (w.heap.size + 1) 24 #[.int .i64 (outL (apTo xs ys k)), .int .i64 (outH (apTo xs ys k))] ∧ Below w.heap.size w wr) (fun i wr => np - (intOf i).toNat)
  case atStart => exact ⟨0, rfl, Nat.zero_le _, k4, k5, b⟩
  case round =>
    clear k4 k5 b
    obtain ⟨k, rfl, hk, k4, k5, b⟩ := hrel
    by_cases hlt : k < np
    · have hk0 : (0 : Int) ≤ (k : Int) := by omega
      have hk1 : (k : Int) < (np : Int) := by omega
      obtain ⟨x, hx⟩ := some_of_lt hxl.out hlt
      have hxg := hgx x (List.mem_of_getElem? hx)
      have hstep := Lib.hid (apTo_succ ys hx)
      obtain ⟨o0, ho0⟩ : ∃ o, apTo xs ys k = o := ⟨_, rfl⟩
      have hge : geZ o0 := by rw [← ho0]; exact apTo_ge xs ys k
      rw [ho0] at k5 hstep
      obtain ⟨bP, oP, hA, -, hbP, z0, z1, z2, z3, z4, z5, z6, z7⟩ := (hP.keep b.size (fun _ _ h => b.cell h)).reg hx
      subst hA
      replace hx := Lib.hid hx
      replace ho0 := Lib.hid ho0
      replace hxg := Lib.hid hxg
      replace hge := Lib.hid hge
      go_wp2_with fail
      have k7 := Blk.new wr 58 #[.int .i64 x.x.lo, .int .i64 x.x.hi, .int .i64 x.y.lo, .int .i64 x.y.hi, .int .i64 x.s.lo, .int .i64 x.s.hi, .int .i64 x.d.lo, .int .i64 x.d.hi]
      have hgr : w.heap.size + 1 < wr.heap.size := k5.lt
      have hbel := (Below.refl wr.heap.size wr).alloc (Nat.le_refl _) (.cells #[.int .i64 x.x.lo, .int .i64 x.x.hi, .int .i64 x.y.lo, .int .i64 x.y.hi, .int .i64 x.s.lo, .int .i64 x.s.hi, .int .i64 x.d.lo, .int .i64 x.d.hi] 58)
      replace k4 := k4.below hbel
      replace k5 := k5.below hbel
      replace b := b.trans (hbel.mono b.size)
      clear hbel z0 z1 z2 z3 z4 z5 z6 z7
      generalize wr.alloc (.cells #[.int .i64 x.x.lo, .int .i64 x.x.hi, .int .i64 x.y.lo, .int .i64 x.y.hi, .int .i64 x.s.lo, .int .i64 x.s.hi, .int .i64 x.d.lo, .int .i64 x.d.hi] 58) = W at *
      generalize wr.heap.size = g7 at *
      go_loopw [21] (fun i wq => ∃ j : Nat, i = .int .i64 j ∧ j ≤ nq ∧ Blk wq w.heap.size 24 #[.int .i64 0, .int .i64 0] ∧ Blk wq (w.heap.size + 1) 24 #[.int .i64 (outL (apIn o0 x ys j)), .int .i64 (outH (apIn o0 x ys j))] ∧ Blk wq g7 58 #[.int .i64 x.x.lo, .int .i64 x.x.hi, .int .i64 x.y.lo, .int .i64 x.y.hi, .int .i64 x.s.lo, .int .i64 x.s.hi, .int .i64 x.d.lo, .int .i64 x.d.hi] ∧ Below w.heap.size w wq) (fun i wq => nq - (intOf i).toNat)
      case atStart => exact ⟨0, rfl, Nat.zero_le _, k4, k5, k7, b⟩
      case round =>
        clear k4 k5 k7 b
        obtain ⟨j, rfl, hj, k4, k5, k7, b⟩ := hrel
        by_cases hlj : j < nq
        · have hj0 : (0 : Int) ≤ (j : Int) := by omega
          have hj1 : (j : Int) < (nq : Int) := by omega
          obtain ⟨y, hy⟩ := some_of_lt hyl.out hlj
          have hyg := hgy y (List.mem_of_getElem? hy)
          have hnx := Lib.hid (apIn_succ o0 x hy)
          have hge2 := apIn_ge x ys j o0 hge.out
          have hg0 := gapS_ge x y
          have hgap := fun W => Gap_any x y x y W hxg.out.1 hyg.1 hxg.out.2 hyg.2
          obtain ⟨o, ho⟩ : ∃ o, apIn o0 x ys j = o := ⟨_, rfl⟩
          rw [ho] at k5 hnx hge2
          obtain ⟨G, hG⟩ : ∃ G, gapS x y = G := ⟨_, rfl⟩
          rw [hG] at hnx hg0
          simp only [hG, regA] at hgap
          obtain ⟨bQ, oQ, hA, -, hbQ, z0, z1, z2, z3, z4, z5, z6, z7⟩ := (hQ.keep b.size (fun _ _ h => b.cell h)).reg hy
          subst hA
          replace hy := Lib.hid hy
          replace ho := Lib.hid ho
          replace hyg := Lib.hid hyg
          replace hG := Lib.hid hG
          obtain ⟨c7, f7, l7⟩ := k7.rules
          go_wp2_with fail
          clear c7 f7 l7 z0 z1 z2 z3 z4 z5 z6 z7
          have hgq : w.heap.size + 1 < wr.heap.size := k5.lt
          have hbel := (Below.refl wr.heap.size wr).alloc (Nat.le_refl _) (.cells #[.int .i64 y.x.lo, .int .i64 y.x.hi, .int .i64 y.y.lo, .int .i64 y.y.hi, .int .i64 y.s.lo, .int .i64 y.s.hi, .int .i64 y.d.lo, .int .i64 y.d.hi] 58)
          replace k4 := k4.below hbel
          replace k5 := k5.below hbel
          replace k7 := k7.below hbel
          replace b := b.trans (hbel.mono b.size)
          clear hbel
          generalize wr.alloc (.cells #[.int .i64 y.x.lo, .int .i64 y.x.hi, .int .i64 y.y.lo, .int .i64 y.y.hi, .int .i64 y.s.lo, .int .i64 y.s.hi, .int .i64 y.d.lo, .int .i64 y.d.hi] 58) = W2 at *
          refine (hgap _).mono ?_
          rintro e W3 ⟨rfl, hbel⟩
          clear hgap
          replace k4 := k4.below hbel
          replace k5 := k5.below hbel
          replace k7 := k7.below hbel
          replace b := b.trans (hbel.mono b.size)
          clear hbel
          cases o with
          | none =>
            simp only [outL, outH] at k5
            replace hnx : Hid (apIn o0 x ys (j + 1) = some G) := hnx
            obtain ⟨c5, f5, l5⟩ := k5.rules
            have k4z := k4
            have k5z := k5
            have k7z := k7
            have bz := b
            clear k4 k5 k7 b
            replace k5z := (k5z.set_ 0 (.int .i64 (G.lo))).set_ 1 (.int .i64 (G.hi))
            simp only [List.setIfInBounds_toArray, List.set_cons_zero, List.set_cons_succ] at k5z
            replace k4z := (k4z.far (p := ⟨w.heap.size + 1, 0, none⟩) (by dsimp only; omega) (.int .i64 (G.lo))).far (p := ⟨w.heap.size + 1, 1, none⟩) (by dsimp only; omega) (.int .i64 (G.hi))
            replace k7z := (k7z.far (p := ⟨w.heap.size + 1, 0, none⟩) (by dsimp only; omega) (.int .i64 (G.lo))).far (p := ⟨w.heap.size + 1, 1, none⟩) (by dsimp only; omega) (.int .i64 (G.hi))
            replace bz := (bz.setCell (p := ⟨w.heap.size + 1, 0, none⟩) (by dsimp only; omega) (.int .i64 (G.lo))).setCell (p := ⟨w.heap.size + 1, 1, none⟩) (by dsimp only; omega) (.int .i64 (G.hi))
            replace k5z := (k5z.set_ 0 (.int .i64 (G.lo))).set_ 1 (.int .i64 (G.hi))
            simp only [List.setIfInBounds_toArray, List.set_cons_zero, List.set_cons_succ] at k5z
            replace k4z := (k4z.far (p := ⟨w.heap.size + 1, 0, none⟩) (by dsimp only; omega) (.int .i64 (G.lo))).far (p := ⟨w.heap.size + 1, 1, none⟩) (by dsimp only; omega) (.int .i64 (G.hi))
            replace k7z := (k7z.far (p := ⟨w.heap.size + 1, 0, none⟩) (by dsimp only; omega) (.int .i64 (G.lo))).far (p := ⟨w.heap.size + 1, 1, none⟩) (by dsimp only; omega) (.int .i64 (G.hi))
            replace bz := (bz.setCell (p := ⟨w.heap.size + 1, 0, none⟩) (by dsimp only; omega) (.int .i64 (G.lo))).setCell (p := ⟨w.heap.size + 1, 1, none⟩) (by dsimp only; omega) (.int .i64 (G.hi))
            replace k4z := k4z.alloc (.cells #[.int .i64 G.lo, .int .i64 G.hi] 24)
            replace k5z := k5z.alloc (.cells #[.int .i64 G.lo, .int .i64 G.hi] 24)
            replace k7z := k7z.alloc (.cells #[.int .i64 G.lo, .int .i64 G.hi] 24)
            replace bz := bz.alloc bz.size (.cells #[.int .i64 G.lo, .int .i64 G.hi] 24)
            go_wp2_with fail
            go_roundw
            case rel => exact ⟨j + 1, by go_num, by omega, k4z, by rw [hnx.out]; exact k5z, k7z, bz⟩
            case measure => simp [intOf]; omega
          | some B2 =>
            simp only [outL, outH] at k5
            replace hnx : Hid (apIn o0 x ys (j + 1) = some ⟨min B2.lo G.lo, min B2.hi G.hi⟩) := hnx
            have hBn : ¬ B2.lo < 0 := by have : 0 ≤ B2.lo := hge2; omega
            clear hge2
            obtain ⟨c5, f5, l5⟩ := k5.rules
            have k4z := k4
            have k5z := k5
            have k7z := k7
            have bz := b
            clear k4 k5 k7 b
            replace k5z := (k5z.set_ 0 (.int .i64 (min B2.lo G.lo))).set_ 1 (.int .i64 (min B2.hi G.hi))
            simp only [List.setIfInBounds_toArray, List.set_cons_zero, List.set_cons_succ] at k5z
            replace k4z := (k4z.far (p := ⟨w.heap.size + 1, 0, none⟩) (by dsimp only; omega) (.int .i64 (min B2.lo G.lo))).far (p := ⟨w.heap.size + 1, 1, none⟩) (by dsimp only; omega) (.int .i64 (min B2.hi G.hi))
            replace k7z := (k7z.far (p := ⟨w.heap.size + 1, 0, none⟩) (by dsimp only; omega) (.int .i64 (min B2.lo G.lo))).far (p := ⟨w.heap.size + 1, 1, none⟩) (by dsimp only; omega) (.int .i64 (min B2.hi G.hi))
            replace bz := (bz.setCell (p := ⟨w.heap.size + 1, 0, none⟩) (by dsimp only; omega) (.int .i64 (min B2.lo G.lo))).setCell (p := ⟨w.heap.size + 1, 1, none⟩) (by dsimp only; omega) (.int .i64 (min B2.hi G.hi))
            skip
            replace k4z := k4z.alloc (.cells #[.int .i64 G.lo, .int .i64 G.hi] 24)
            replace k5z := k5z.alloc (.cells #[.int .i64 G.lo, .int .i64 G.hi] 24)
            replace k7z := k7z.alloc (.cells #[.int .i64 G.lo, .int .i64 G.hi] 24)
            replace bz := bz.alloc bz.size (.cells #[.int .i64 G.lo, .int .i64 G.hi] 24)
            go_wp2_with fail
            go_roundw
            case rel => exact ⟨j + 1, by go_num, by omega, k4z, by rw [hnx.out]; exact k5z, k7z, bz⟩
            case measure => simp [intOf]; omega
        · obtain rfl : j = nq := by omega
          go_wp2_with fail
          go_roundw
          case rel => exact ⟨k + 1, by go_num, by omega, k4, by rw [hstep.out, hyl.out]; exact k5, b⟩
          case measure => simp [intOf]; omega
    · obtain rfl : np = k := by omega
      have hfin : apTo xs ys np = appO xs ys := by unfold appO; rw [hxl.out]
      rw [hfin] at k5
      rw [hsome.out] at k5
      simp only [outL, outH] at k5
      clear hfin
      have kz := (k4.set_ 0 (.int .i64 B.lo)).set_ 1 (.int .i64 B.hi)
      simp only [List.setIfInBounds_toArray, List.set_cons_zero, List.set_cons_succ] at kz
      have bz := (b.setCell (p := ⟨w.heap.size, 0, none⟩) (Nat.le_refl _) (.int .i64 B.lo)).setCell (p := ⟨w.heap.size, 1, none⟩) (Nat.le_refl _) (.int .i64 B.hi)
      obtain ⟨wz, hwz⟩ : ∃ q, q = (wr.setCell ⟨w.heap.size, 0, none⟩ (.int .i64 B.lo)).setCell ⟨w.heap.size, 1, none⟩ (.int .i64 B.hi) := ⟨_, rfl⟩
      rw [← hwz] at kz bz
      obtain ⟨c4, f4, l4⟩ := k4.rules
      obtain ⟨c5, f5, l5⟩ := k5.rules
      go_wp2
      rw [← hwz]
      clear hwz c4 f4 l4 c5 f5 l5
      obtain ⟨c4, f4, l4⟩ := kz.rules
      exact bodyPost_ret (v := .agg #[.int .i64 B.lo, .int .i64 B.hi]) (by simp [results, Tryz.results49, go_sem, c4]) rfl ⟨rfl, bz⟩
end Go.Proofs.YthjdjpcomocffaaGreat
