/-
  Walks: shortest, floor, ceil, CheckHeading, extremes.
  Walks: the least and the greatest value of an expression in a region.
  The specification's package: numbers, Check.
  The specification's package: a step of offsets.
  The specification's package: a step of offsets, its loop.
  The specification's package: the ends of bounds, and so many times a number.
  The specification's package: the error of a streamer with bounds; the bounds after a step.
  The specification's package: the bounds after a step, walked.
  Small helpers of the statements: a number out of a list, numbers within bounds.
  Plain laws of steps: what is greater before a step is not less after it; what lies in bounds lies in those after a step. Nothing of the program stands here.
  The plain law of the fastest plan: it keeps the limits, none that keeps them is faster, and none as fast comes before it. Nothing of the program stands here.
  The plain law of the search through all plans: what it finds is the fastest plan. Nothing of the program stands here.
  Plain laws of regions: what a tight region has. Nothing of the program stands here.
  Small helpers of the statements: drifts, sums, lists compared, a list of one's own.
  Plain laws of the steps of a streamer within bounds. Nothing of the program stands here.
  Walks: the regions of all nodes.
  Walks: a region that is turned.
  Walks: Turned.
  Plain laws of nodes that lie straight, and of turned regions. Nothing of the program stands here.
  Walks in region: CheckPoint, first, inside, Has (of a place that lies in the region), Move.
-/
import Derived.Test.YtfengddpfeneiaaGreatUG
import Derived.Test.YtfengddpfeneiaaGreatUW
import Derived.Deep.QuietTactic
import Derived.Test.YtfengddpfeneiaaGreatBase
import Derived.Deep.AppendLies
import Derived.ChangeKeysEq
namespace Go.Proofs.YtfengddpfeneiaaGreat
open Go.RowKit Go.Shelf

set_option maxRecDepth 100000 in
set_option maxHeartbeats 1000000 in
theorem CheckHeading_any (h : Hdg) (w : World) :
    Calls Tryz.prog 24 #[.agg #[.int .i64 h.p, .int .i64 h.q, .int .i64 h.c]] w fun e w' => e = .returned (.int .i64 (chkHdg h)) ∧ Below w.heap.size w w' := by
  have hw1 := fun W => within_any h.c 1 1000 W
  have hw2 := fun W => within_any h.p (-h.c) h.c W
  have hw3 := fun W => within_any h.q (-h.c) h.c W
  have hv : Hid (chkHdg h = if okHdg h = true then 0 else 35) := rfl
  have hu : Hid (okHdg h = decide (1 ≤ h.c ∧ h.c ≤ 1000 ∧ -h.c ≤ h.p ∧ h.p ≤ h.c ∧ -h.c ≤ h.q ∧ h.q ≤ h.c ∧ h.p * h.p + h.q * h.q = h.c * h.c)) := rfl
  by_cases c1 : 1 ≤ h.c ∧ h.c ≤ 1000
  · simp only [decide_eq_true c1] at hw1
    by_cases c2 : -h.c ≤ h.p ∧ h.p ≤ h.c
    · simp only [decide_eq_true c2] at hw2
      by_cases c3 : -h.c ≤ h.q ∧ h.q ≤ h.c
      · simp only [decide_eq_true c3] at hw3
        have p1 : h.p * h.p ≤ 1000 * 1000 := by
          rcases Int.le_total 0 h.p with g | g
          · exact sq_le g (by omega)
          · have := sq_le (show 0 ≤ -h.p by omega) (show -h.p ≤ 1000 by omega); rwa [Int.neg_mul_neg] at this
        have p2 : h.q * h.q ≤ 1000 * 1000 := by
          rcases Int.le_total 0 h.q with g | g
          · exact sq_le g (by omega)
          · have := sq_le (show 0 ≤ -h.q by omega) (show -h.q ≤ 1000 by omega); rwa [Int.neg_mul_neg] at this
        have p3 : h.c * h.c ≤ 1000 * 1000 := sq_le (by omega) (by omega)
        have p4 : 0 ≤ h.p * h.p := by rcases Int.le_total 0 h.p with g | g; exact Int.mul_nonneg g g; exact Int.mul_nonneg_of_nonpos_of_nonpos g g
        have p5 : 0 ≤ h.q * h.q := by rcases Int.le_total 0 h.q with g | g; exact Int.mul_nonneg g g; exact Int.mul_nonneg_of_nonpos_of_nonpos g g
        have p6 : 0 ≤ h.c * h.c := Int.mul_nonneg (by omega) (by omega)
        have t1 := IntWalk.i64_in (h.p * h.p) (by omega)
        have t2 := IntWalk.i64_in (h.q * h.q) (by omega)
        have t3 := IntWalk.i64_in (h.c * h.c) (by omega)
        have t4 := IntWalk.i64_in (h.p * h.p + h.q * h.q) (by omega)
        have t5 := IntWalk.i64_in (-h.c) (by omega)
        by_cases c4 : h.p * h.p + h.q * h.q = h.c * h.c
        · replace c1 := Lib.hid c1
          replace c2 := Lib.hid c2
          replace c3 := Lib.hid c3
          have c4' : (h.p * h.p + h.q * h.q != h.c * h.c) = false := by simp [c4]
          replace c4 := Lib.hid c4
          go_enter Tryz.func24, Tryz.ntmps24
          go_wp2_with fail
          refine (hw1 _).mono ?_
          rintro e w' ⟨rfl, rfl⟩
          go_wp2_with fail
          refine (hw2 _).mono ?_
          rintro e w' ⟨rfl, rfl⟩
          go_wp2_with fail
          refine (hw3 _).mono ?_
          rintro e w' ⟨rfl, rfl⟩
          go_wp2
          go_ret
          exact ⟨ret_int (by rw [hv.out, hu.out, if_pos (by have := c1.out; have := c2.out; have := c3.out; have := c4.out; simp; omega)]), (Below.refl _ _).alloc (Nat.le_refl _) _⟩
        · replace c1 := Lib.hid c1
          replace c2 := Lib.hid c2
          replace c3 := Lib.hid c3
          have c4' : (h.p * h.p + h.q * h.q != h.c * h.c) = true := by simp [c4]
          replace c4 := Lib.hid c4
          go_enter Tryz.func24, Tryz.ntmps24
          go_wp2_with fail
          refine (hw1 _).mono ?_
          rintro e w' ⟨rfl, rfl⟩
          go_wp2_with fail
          refine (hw2 _).mono ?_
          rintro e w' ⟨rfl, rfl⟩
          go_wp2_with fail
          refine (hw3 _).mono ?_
          rintro e w' ⟨rfl, rfl⟩
          go_wp2
          go_ret
          exact ⟨ret_int (by rw [hv.out, hu.out, if_neg (by have := c4.out; simp; omega)]), (Below.refl _ _).alloc (Nat.le_refl _) _⟩
      · simp only [decide_eq_false c3] at hw3
        have t5 := IntWalk.i64_in (-h.c) (by omega)
        replace c1 := Lib.hid c1
        replace c2 := Lib.hid c2
        replace c3 := Lib.hid c3
        go_enter Tryz.func24, Tryz.ntmps24
        go_wp2_with fail
        refine (hw1 _).mono ?_
        rintro e w' ⟨rfl, rfl⟩
        go_wp2_with fail
        refine (hw2 _).mono ?_
        rintro e w' ⟨rfl, rfl⟩
        go_wp2_with fail
        refine (hw3 _).mono ?_
        rintro e w' ⟨rfl, rfl⟩
        go_wp2
        go_ret
        exact ⟨ret_int (by rw [hv.out, hu.out, if_neg (by have := c3.out; simp; omega)]), (Below.refl _ _).alloc (Nat.le_refl _) _⟩
    · simp only [decide_eq_false c2] at hw2
      have t5 := IntWalk.i64_in (-h.c) (by omega)
      replace c1 := Lib.hid c1
      replace c2 := Lib.hid c2
      go_enter Tryz.func24, Tryz.ntmps24
      go_wp2_with fail
      refine (hw1 _).mono ?_
      rintro e w' ⟨rfl, rfl⟩
      go_wp2_with fail
      refine (hw2 _).mono ?_
      rintro e w' ⟨rfl, rfl⟩
      go_wp2
      go_ret
      exact ⟨ret_int (by rw [hv.out, hu.out, if_neg (by have := c2.out; simp; omega)]), (Below.refl _ _).alloc (Nat.le_refl _) _⟩
  · simp only [decide_eq_false c1] at hw1
    replace c1 := Lib.hid c1
    go_enter Tryz.func24, Tryz.ntmps24
    go_wp2_with fail
    refine (hw1 _).mono ?_
    rintro e w' ⟨rfl, rfl⟩
    go_wp2
    go_ret
    exact ⟨ret_int (by rw [hv.out, hu.out, if_neg (by have := c1.out; simp; omega)]), (Below.refl _ _).alloc (Nat.le_refl _) _⟩
end Go.Proofs.YtfengddpfeneiaaGreat
namespace Go.Proofs.YtfengddpfeneiaaGreat
open Go.RowKit Go.Shelf

theorem smul_bd {a b A B : Int} (h1 : -A ≤ a) (h2 : a ≤ A) (h3 : -B ≤ b) (h4 : b ≤ B) : -(A * B) ≤ a * b ∧ a * b ≤ A * B := by
  have hA : 0 ≤ A := by omega
  have hB : 0 ≤ B := by omega
  rcases Int.le_total 0 a with ha | ha <;> rcases Int.le_total 0 b with hb | hb
  · have := Int.mul_le_mul h2 h4 hb hA
    have := Int.mul_nonneg ha hb
    have := Int.mul_nonneg hA hB
    omega
  · have h := Int.mul_le_mul h2 (show -b ≤ B by omega) (by omega) hA
    have h0 := Int.mul_nonneg ha (show 0 ≤ -b by omega)
    have := Int.mul_nonneg hA hB
    rw [Int.mul_neg] at h h0
    omega
  · have h := Int.mul_le_mul (show -a ≤ A by omega) h4 hb hA
    have h0 := Int.mul_nonneg (show 0 ≤ -a by omega) hb
    have := Int.mul_nonneg hA hB
    rw [Int.neg_mul] at h h0
    omega
  · have h := Int.mul_le_mul (show -a ≤ A by omega) (show -b ≤ B by omega) (by omega) hA
    have h0 := Int.mul_nonneg (show 0 ≤ -a by omega) (show 0 ≤ -b by omega)
    have := Int.mul_nonneg hA hB
    rw [Int.neg_mul_neg] at h h0
    omega
def optB (o : Option Bnd) : Bnd := o.getD ⟨0, 0⟩
end Go.Proofs.YtfengddpfeneiaaGreat
namespace Go.Proofs.YtfengddpfeneiaaGreat
set_option linter.unusedSimpArgs false
set_option linter.unusedVariables false
open Go.RowKit Go.Shelf

end Go.Proofs.YtfengddpfeneiaaGreat
namespace Go.Proofs.YtfengddpfeneiaaGreat
open Go.RowKit Go.Shelf

end Go.Proofs.YtfengddpfeneiaaGreat
namespace Go.Proofs.YtfengddpfeneiaaGreat
open Go.RowKit Go.Shelf

def stepTo (s : Strm) (o d : List Int) (k : Nat) : List Int := (List.range k).map fun i => eased s (s.sec i) (o.getD i s.head) (prev s.head o i) (d.getD i 0)
end Go.Proofs.YtfengddpfeneiaaGreat
namespace Go.Proofs.YtfengddpfeneiaaGreat
open Go.RowKit Go.Shelf
set_option linter.unusedSimpArgs false
set_option linter.unusedVariables false

end Go.Proofs.YtfengddpfeneiaaGreat
namespace Go.Proofs.YtfengddpfeneiaaGreat
open Go.RowKit Go.Shelf
set_option linter.unusedSimpArgs false
set_option linter.unusedVariables false

end Go.Proofs.YtfengddpfeneiaaGreat
namespace Go.Proofs.YtfengddpfeneiaaGreat
open Go.RowKit Go.Shelf
set_option linter.unusedSimpArgs false
set_option linter.unusedVariables false

end Go.Proofs.YtfengddpfeneiaaGreat
namespace Go.Proofs.YtfengddpfeneiaaGreat
open Go.RowKit Go.Shelf
set_option linter.unusedSimpArgs false
set_option linter.unusedVariables false

/-! Numbers within bounds, as others choose them. -/
def insB (bits : List Int) (fr : Int) (i : Nat) (b : Bnd) : Int := wrap64 (b.lo + restS (pickS bits (fr + i)) (wrap64 (wrap64 (b.hi - b.lo) + 1)))
def insTo (l : List Bnd) (bits : List Int) (fr : Int) (k : Nat) : List Int := (List.range k).map fun i => insB bits fr i (l.getD i ⟨0, 0⟩)
def insL (l : List Bnd) (bits : List Int) (fr : Int) : List Int := insTo l bits fr l.length
end Go.Proofs.YtfengddpfeneiaaGreat
namespace Go.Proofs.YtfengddpfeneiaaGreat
open Go.RowKit Go.Shelf

/-- A number lies in a bound. -/
def inB (x : Int) (b : Bnd) : Prop := b.lo ≤ x ∧ x ≤ b.hi
/-- So many numbers, each in its bound. -/
def Lies (xs : List Int) (bs : List Bnd) : Prop := xs.length = bs.length ∧ ∀ (i : Nat) (x : Int) (b : Bnd), xs[i]? = some x → bs[i]? = some b → inB x b
/-- So many numbers, none greater than the other one. -/
def LeL (xs ys : List Int) : Prop := xs.length = ys.length ∧ ∀ (i : Nat) (x y : Int), xs[i]? = some x → ys[i]? = some y → x ≤ y

theorem stepL_length (s : Strm) (o d : List Int) : (stepL s o d).length = o.length := eachL_length _ _ _
theorem encL_length (s : Strm) (bs : List Bnd) (d : Bnd) : (encL s bs d).length = bs.length := eachL_length _ _ _
theorem stepL_at (s : Strm) (o d : List Int) {i : Nat} (h : i < o.length) : (stepL s o d)[i]? = some (eased s (s.sec i) (o.getD i s.head) (prev s.head o i) (d.getD i 0)) := eachL_get _ _ _ h
theorem encL_at (s : Strm) (bs : List Bnd) (d : Bnd) {i : Nat} (h : i < bs.length) : (encL s bs d)[i]? = some (encB s d i (bs.getD i (still s.head)) (prev (still s.head) bs i)) := eachL_get _ _ _ h
theorem lt_of_at {α : Type} {l : List α} {i : Nat} {x : α} (h : l[i]? = some x) : i < l.length := (List.getElem?_eq_some_iff.1 h).1
theorem getD_of {α : Type} {l : List α} {i : Nat} {x : α} (d : α) (h : l[i]? = some x) : l.getD i d = x := by rw [List.getD_eq_getElem?_getD, h]; rfl
theorem Lies.getD {xs : List Int} {bs : List Bnd} (h : Lies xs bs) {i : Nat} (hi : i < bs.length) (n : Int) (b : Bnd) : (bs.getD i b).lo ≤ xs.getD i n ∧ xs.getD i n ≤ (bs.getD i b).hi :=
  h.2 i _ _ (getD_get n (by have := h.1; omega)) (getD_get b hi)
theorem LeL.getD {xs ys : List Int} (h : LeL xs ys) {i : Nat} (n : Int) : xs.getD i n ≤ ys.getD i n := by
  by_cases hi : i < xs.length
  · exact h.2 i _ _ (getD_get n hi) (getD_get n (by have := h.1; omega))
  · rw [List.getD_eq_getElem?_getD, List.getD_eq_getElem?_getD, List.getElem?_eq_none (by omega), List.getElem?_eq_none (by have := h.1; omega)]; exact Int.le_refl _
theorem Lies.prev {xs : List Int} {bs : List Bnd} (h : Lies xs bs) {i : Nat} (hi : i < bs.length) (n : Int) : (prev (still n) bs i).lo ≤ prev n xs i ∧ prev n xs i ≤ (prev (still n) bs i).hi := by
  cases i with
  | zero => exact ⟨Int.le_refl _, Int.le_refl _⟩
  | succ k => exact h.getD (by omega) n (still n)
theorem LeL.prev {xs ys : List Int} (h : LeL xs ys) (n : Int) (i : Nat) : prev n xs i ≤ prev n ys i := by
  cases i with
  | zero => exact Int.le_refl _
  | succ k => exact h.getD n
/-- Offsets that lie in bounds lie in those after a step. -/
theorem Lies.step {s : Strm} {o dr : List Int} {bs : List Bnd} {d : Bnd} (hs : okStrm s = true) (hl : bs.length = s.secs.length) (h : Lies o bs) (hd : ∀ i, i < bs.length → inB (dr.getD i 0) d) : Lies (stepL s o dr) (encL s bs d) := by
  refine ⟨by rw [stepL_length, encL_length]; exact h.1, fun i x b hx hb => ?_⟩
  have hi : i < bs.length := by have := lt_of_at hb; rwa [encL_length] at this
  rw [stepL_at s o dr (by have := h.1; omega)] at hx
  rw [encL_at s bs d hi] at hb
  cases hx
  cases hb
  have a := h.getD hi s.head (still s.head)
  have p := h.prev hi s.head
  have q := hd i hi
  exact ⟨eased_mono (ok_head hs) (ok_sec hs (by omega)) a.1 p.1 q.1, eased_mono (ok_head hs) (ok_sec hs (by omega)) a.2 p.2 q.2⟩
/-- More of anything before a step is not less after it. -/
theorem LeL.step {s : Strm} {o p d e : List Int} (hs : okStrm s = true) (hl : o.length = s.secs.length) (h1 : LeL o p) (h2 : LeL d e) : LeL (stepL s o d) (stepL s p e) := by
  refine ⟨by rw [stepL_length, stepL_length]; exact h1.1, fun i x y hx hy => ?_⟩
  have hi : i < o.length := by have := lt_of_at hx; rwa [stepL_length] at this
  rw [stepL_at s o d hi] at hx
  rw [stepL_at s p e (by have := h1.1; omega)] at hy
  cases hx
  cases hy
  exact eased_mono (ok_head hs) (ok_sec hs (by omega)) (h1.getD _) (h1.prev _ _) (h2.getD _)
/-! Bends and pulls. -/
theorem bend_in {x p : Int} {own bef : Bnd} (h1 : inB x own) (h2 : inB p bef) : inB (magS (x - p)) (bendB own bef) := by
  unfold inB magS bendB at *; dsimp only; omega
theorem bendL_length (s : Strm) (bs : List Bnd) : (bendL s bs).length = bs.length := eachL_length _ _ _
theorem bendL_at (s : Strm) (bs : List Bnd) {i : Nat} (h : i < bs.length) : (bendL s bs)[i]? = some (bendB (bs.getD i (still s.head)) (prev (still s.head) bs i)) := eachL_get _ _ _ h
/-- The bend of a section. -/
def bendAt (s : Strm) (o : List Int) (i : Nat) : Int := magS (o.getD i s.head - prev s.head o i)
theorem Lies.bend {s : Strm} {o : List Int} {bs : List Bnd} (h : Lies o bs) {i : Nat} (hi : i < bs.length) : inB (bendAt s o i) ((bendL s bs).getD i ⟨0, 0⟩) := by
  rw [getD_of _ (bendL_at s bs hi)]
  exact bend_in (h.getD hi _ _) (h.prev hi _)
/-- The sum of so many numbers from one on. -/
def sumFr (g : Nat → Int) (i : Nat) : Nat → Int
  | 0 => 0
  | m + 1 => g i + sumFr g (i + 1) m
theorem sumFr_succ (g : Nat → Int) (i m : Nat) : sumFr g i (m + 1) = g i + sumFr g (i + 1) m := rfl
theorem sumFr_mono {f g : Nat → Int} : ∀ (m i : Nat), (∀ j, i ≤ j → j < i + m → f j ≤ g j) → sumFr f i m ≤ sumFr g i m
  | 0, _, _ => Int.le_refl _
  | m + 1, i, h => by
    have h1 := h i (Nat.le_refl _) (by omega)
    have h2 := sumFr_mono (f := f) (g := g) m (i + 1) fun j a b => h j (by omega) (by omega)
    rw [sumFr_succ, sumFr_succ]; omega
theorem sumB_drop (Z : List Bnd) : ∀ (m i : Nat), i + m = Z.length → sumB (Z.drop i) = ⟨sumFr (fun j => (Z.getD j ⟨0, 0⟩).lo) i m, sumFr (fun j => (Z.getD j ⟨0, 0⟩).hi) i m⟩
  | 0, i, h => by rw [List.drop_eq_nil_of_le (by omega)]; rfl
  | m + 1, i, h => by
    have e := sumB_step (getD_get (⟨0, 0⟩ : Bnd) (l := Z) (i := i) (by omega))
    rw [e, sumB_drop Z m (i + 1) (by omega)]
    simp only [sumFr_succ]
    rw [Int.add_comm, Int.add_comm (sumFr _ _ _)]
theorem zip_getD (s : Strm) (L : List Bnd) (sl fa : Int) (hl : L.length = s.secs.length) {j : Nat} (hj : j < L.length) : (List.zipWith (ownPull sl fa) s.secs L).getD j ⟨0, 0⟩ = ownPull sl fa (s.sec j) (L.getD j ⟨0, 0⟩) := by
  rw [List.getD_eq_getElem?_getD, List.getElem?_zipWith, sec_at s (by omega), getD_get (⟨0, 0⟩ : Bnd) hj]; rfl
/-- The pull of a section. -/
def pullAt (s : Strm) (w : Int) (f : Nat → Int) (j : Nat) : Int := (s.sec j).drag * (w * w + f j)
theorem sq_mono {a b : Int} (h0 : 0 ≤ a) (h : a ≤ b) : a * a ≤ b * b := Int.mul_le_mul h h h0 (by omega)
theorem pullL_at (s : Strm) (bs : List Bnd) (v : Int) (cur : Bnd) (hl : bs.length = s.secs.length) {i : Nat} (hi : i < bs.length) :
    (pullL s bs v cur)[i]? = some ⟨sumFr (pullAt s (max 0 (v - cur.hi)) fun j => ((bendL s bs).getD j ⟨0, 0⟩).lo) i (bs.length - i), sumFr (pullAt s (max 0 (v - cur.lo)) fun j => ((bendL s bs).getD j ⟨0, 0⟩).hi) i (bs.length - i)⟩ := by
  unfold pullL
  rw [List.getElem?_map, List.getElem?_range hi]
  have e := sumB_drop (List.zipWith (ownPull (max 0 (v - cur.hi)) (max 0 (v - cur.lo))) s.secs (bendL s bs)) (bs.length - i) i (by rw [List.length_zipWith, bendL_length]; omega)
  have c : ∀ f g : Nat → Int, (∀ j, i ≤ j → j < i + (bs.length - i) → f j = g j) → sumFr f i (bs.length - i) = sumFr g i (bs.length - i) := fun f g h => Int.le_antisymm (sumFr_mono _ _ fun j a b => by rw [h j a b]; exact Int.le_refl _) (sumFr_mono _ _ fun j a b => by rw [h j a b]; exact Int.le_refl _)
  show some (sumB _) = _
  rw [e]
  congr 2
  · refine c _ _ fun j a b => ?_
    rw [zip_getD s _ _ _ (by rw [bendL_length]; exact hl) (by rw [bendL_length]; omega)]; rfl
  · refine c _ _ fun j a b => ?_
    rw [zip_getD s _ _ _ (by rw [bendL_length]; exact hl) (by rw [bendL_length]; omega)]; rfl
theorem pullAt_le {s : Strm} (hs : okStrm s = true) {j : Nat} (hj : j < s.secs.length) {w z : Int} {f g : Nat → Int} (hw : 0 ≤ w) (hz : w ≤ z) (hf : f j ≤ g j) : pullAt s w f j ≤ pullAt s z g j := by
  obtain ⟨k0, k1, k2, k3, k4, k5, k6, k7, k8, k9⟩ := of_decide_eq_true (ok_sec hs hj)
  have := sq_mono hw hz
  exact Int.mul_le_mul_of_nonneg_left (by omega) k6
/-- The pulls of offsets within bounds lie in theirs, with any current along the way. -/
theorem Lies.pull {s : Strm} {o : List Int} {bs : List Bnd} {v c : Int} {cur : Bnd} (hs : okStrm s = true) (hl : bs.length = s.secs.length) (h : Lies o bs) (hc : inB c cur) {i : Nat} (hi : i < bs.length) :
    inB (sumFr (pullAt s (max 0 (v - c)) (bendAt s o)) i (bs.length - i)) ((pullL s bs v cur).getD i ⟨0, 0⟩) := by
  rw [getD_of _ (pullL_at s bs v cur hl hi)]
  obtain ⟨c1, c2⟩ := hc
  exact ⟨sumFr_mono _ _ fun j a b => pullAt_le hs (by omega) (by omega) (by omega) (h.bend (by omega)).1, sumFr_mono _ _ fun j a b => pullAt_le hs (by omega) (by omega) (by omega) (h.bend (by omega)).2⟩
/-! The first step in which something holds. -/
/-! Narrower bounds. -/
def NarB (a b : Bnd) : Prop := b.lo ≤ a.lo ∧ a.hi ≤ b.hi
def NarL (xs ys : List Bnd) : Prop := xs.length = ys.length ∧ ∀ (i : Nat) (x y : Bnd), xs[i]? = some x → ys[i]? = some y → NarB x y
theorem NarB.refl (b : Bnd) : NarB b b := ⟨Int.le_refl _, Int.le_refl _⟩
theorem NarL.getD {xs ys : List Bnd} (h : NarL xs ys) {i : Nat} (n : Bnd) : NarB (xs.getD i n) (ys.getD i n) := by
  by_cases hi : i < xs.length
  · exact h.2 i _ _ (getD_get n hi) (getD_get n (by have := h.1; omega))
  · rw [List.getD_eq_getElem?_getD, List.getD_eq_getElem?_getD, List.getElem?_eq_none (by omega), List.getElem?_eq_none (by have := h.1; omega)]; exact NarB.refl _
theorem NarL.prev {xs ys : List Bnd} (h : NarL xs ys) (n : Bnd) (i : Nat) : NarB (prev n xs i) (prev n ys i) := by
  cases i with
  | zero => exact NarB.refl _
  | succ k => exact h.getD n
theorem NarL.enc {s : Strm} {bs cs : List Bnd} {d e : Bnd} (hs : okStrm s = true) (hl : bs.length = s.secs.length) (h : NarL bs cs) (hd : NarB d e) : NarL (encL s bs d) (encL s cs e) := by
  refine ⟨by rw [encL_length, encL_length]; exact h.1, fun i x y hx hy => ?_⟩
  have hi : i < bs.length := by have := lt_of_at hx; rwa [encL_length] at this
  rw [encL_at s bs d hi] at hx
  rw [encL_at s cs e (by have := h.1; omega)] at hy
  cases hx
  cases hy
  have a := h.getD (i := i) (still s.head)
  have p := h.prev (still s.head) i
  exact ⟨eased_mono (ok_head hs) (ok_sec hs (by omega)) a.1 p.1 hd.1, eased_mono (ok_head hs) (ok_sec hs (by omega)) a.2 p.2 hd.2⟩
/-- Narrower waters. -/
def NarW (l m : List Wat) : Prop := ∀ i, NarB (l.getD i wat0).acr (m.getD i wat0).acr ∧ (m.getD i wat0).alo.lo ≤ (l.getD i wat0).alo.lo
theorem NarL.encAt {s : Strm} {bs cs : List Bnd} {l m : List Wat} (hs : okStrm s = true) (hl : bs.length = s.secs.length) (h : NarL bs cs) (hw : NarW l m) : ∀ k, NarL (encAt s bs l k) (encAt s cs m k)
  | 0 => h
  | k + 1 => NarL.enc hs (by rw [encAt_len rfl]; exact hl) (NarL.encAt hs hl h hw k) (hw k).1
/-! Numbers within bounds, as others choose them. -/
theorem Lies.range {o : List Int} {l : List Bnd} (h : Lies o l) (hl : l.all (okBnd 16384) = true) : ∀ x ∈ o, -16384 ≤ x ∧ x ≤ 16384 := by
  intro x hx
  obtain ⟨i, hi⟩ := List.mem_iff_getElem?.1 hx
  have hlt := lt_of_at hi
  have hb := getD_get (⟨0, 0⟩ : Bnd) (l := l) (i := i) (by have := h.1; omega)
  have h1 := h.2 i x _ hi hb
  obtain ⟨a, b, c⟩ := of_decide_eq_true (List.all_eq_true.1 hl _ (List.mem_of_getElem? hb))
  unfold inB at h1
  omega
end Go.Proofs.YtfengddpfeneiaaGreat
namespace Go.Proofs.YtfengddpfeneiaaGreat

def sumL : List Int → Int
  | [] => 0
  | x :: l => x + sumL l
/-- A list comes before another one. -/
def earlierS : List Int → List Int → Bool
  | x :: l, y :: m => if x = y then earlierS l m else decide (x < y)
  | l, m => decide (l.length < m.length)
/-- The speeds of a plan. -/
def speedsOf (ch plan : List Int) : List Int := plan.map fun x => ch.getD x.toNat 0
def isPlan (ch plan : List Int) : Bool := plan.all fun x => decide (0 ≤ x ∧ x ≤ ch.length - 1)
/-- What Fastest says, where it is asked well. -/
structure FastSaid (s : Strm) (bs : List Bnd) (l : List Wat) (ch : List Int) (r : List Int × Int × Int) : Prop where
  bw : errBW s bs l = 0
  lim : 1 ≤ l.length ∧ l.length ≤ 6 ∧ 1 ≤ ch.length ∧ ch.length ≤ 4
  spd : okSpeeds ch = true
  run : (r.2.2 = 0 ∧ r.1.length = l.length ∧ isPlan ch r.1 = true ∧ keepsS s bs l (speedsOf ch r.1) = true ∧ sumL (speedsOf ch r.1) = r.2.1) ∨ r = ([], 0, 4)
  best : ∀ plan, plan.length = l.length → isPlan ch plan = true → keepsS s bs l (speedsOf ch plan) = true →
    r.2.2 = 0 ∧ sumL (speedsOf ch plan) ≤ r.2.1 ∧ (sumL (speedsOf ch plan) < r.2.1 ∨ earlierS plan r.1 = false)
end Go.Proofs.YtfengddpfeneiaaGreat
namespace Go.Proofs.YtfengddpfeneiaaGreat
set_option linter.unusedSimpArgs false
set_option linter.unusedVariables false

/-- The best plan so far, when one more is looked at. -/
def updF (K : List Int → Bool) (S : List Int → Int) (o : Option (List Int)) (p : List Int) : Option (List Int) :=
  if K p = true then (match o with | none => some p | some q => if S q < S p then some p else some q) else o
/-- All plans that begin so, with so many steps more. -/
def allP (m : Nat) : Nat → List Int → List (List Int)
  | 0, p => [p]
  | r + 1, p => (List.range m).flatMap fun i : Nat => allP m r (p ++ [(i : Int)])
def BestOf (K : List Int → Bool) (S : List Int → Int) (L : List (List Int)) : Option (List Int) → Prop
  | none => ∀ q ∈ L, K q = false
  | some p => p ∈ L ∧ K p = true ∧ ∀ q ∈ L, K q = true → S q < S p ∨ S q = S p ∧ (q = p ∨ earlierS p q = true)
/-- What the search has found when it has looked at the plans that begin so, too. -/
def searchS (s : Strm) (bs : List Bnd) (l : List Wat) (ch : List Int) (r : Nat) (p : List Int) (o : Option (List Int)) : Option (List Int) :=
  (allP ch.length r p).foldl (updF (fun p => keepsS s bs l (speedsOf ch p)) (fun p => sumL (speedsOf ch p))) o
def searchTo (s : Strm) (bs : List Bnd) (l : List Wat) (ch : List Int) (r : Nat) (p : List Int) (k : Nat) (o : Option (List Int)) : Option (List Int) :=
  (List.range k).foldl (fun o (i : Nat) => searchS s bs l ch r (p ++ [(i : Int)]) o) o
def foundR (ch : List Int) : Option (List Int) → List Int × Int × Int
  | none => ([], 0, 4)
  | some p => (p, sumL (speedsOf ch p), 0)
end Go.Proofs.YtfengddpfeneiaaGreat
namespace Go.Proofs.YtfengddpfeneiaaGreat

/-- A point lies in a region. -/
def inR (p : Pnt) (r : Reg) : Prop := inB p.x r.x ∧ inB p.y r.y ∧ inB (p.x + p.y) r.s ∧ inB (p.x - p.y) r.d
/-- A bound lies within another one. -/
theorem rowsTo_has {r : Reg} {q : RRow} : ∀ {n j : Nat}, j < n → q = rowB r (r.x.lo + j) → q.fr ≤ q.to → q ∈ rowsTo r n
  | 0, j, h, _, _ => absurd h (Nat.not_lt_zero _)
  | n + 1, j, h, e, hq => by
    rw [rowsTo, List.mem_append]
    by_cases hj : j < n
    · exact .inl (rowsTo_has hj e hq)
    · obtain rfl : j = n := by omega
      refine .inr ?_
      rw [← e, if_pos hq]; simp
theorem rowsL_iff {r : Reg} {q : RRow} : q ∈ rowsL r ↔ inB q.x r.x ∧ q = rowB r q.x ∧ q.fr ≤ q.to := by
  unfold rowsL
  constructor
  · intro h
    obtain ⟨j, hj, e, hq⟩ := rowsTo_mem h
    have ex : q.x = r.x.lo + j := by rw [e]; rfl
    unfold nX at hj
    exact ⟨⟨by omega, by omega⟩, by rw [ex]; exact e, hq⟩
  · rintro ⟨⟨h1, h2⟩, e, hq⟩
    refine rowsTo_has (j := (q.x - r.x.lo).toNat) (by unfold nX; omega) ?_ hq
    rw [show r.x.lo + ((q.x - r.x.lo).toNat : Int) = q.x by omega]; exact e
theorem ptsL_iff {r : Reg} {p : Pnt} : p ∈ ptsL r ↔ inR p r ∧ (p.y = (rowB r p.x).fr ∨ p.y = (rowB r p.x).to) := by
  unfold ptsL
  rw [List.mem_flatMap]
  constructor
  · rintro ⟨q, hq, hp⟩
    obtain ⟨⟨hx1, hx2⟩, e, hle⟩ := rowsL_iff.1 hq
    have hpx : p.x = q.x ∧ (p.y = q.fr ∨ p.y = q.to) := by
      unfold rowPts at hp
      split at hp
      · simp at hp; subst hp; exact ⟨rfl, .inl rfl⟩
      · simp at hp; rcases hp with rfl | rfl
        · exact ⟨rfl, .inl rfl⟩
        · exact ⟨rfl, .inr rfl⟩
    obtain ⟨px, py⟩ := hpx
    rw [e] at py hle
    rw [← px] at py hle hx1 hx2
    refine ⟨?_, py⟩
    unfold inR inB
    unfold rowB at py hle
    dsimp only at py hle
    omega
  · rintro ⟨⟨h1, h2, h3, h4⟩, hy⟩
    have hle : (rowB r p.x).fr ≤ p.y ∧ p.y ≤ (rowB r p.x).to := by
      unfold inB at *
      unfold rowB
      dsimp only
      omega
    refine ⟨rowB r p.x, rowsL_iff.2 ⟨h1, rfl, by omega⟩, ?_⟩
    have hx : (rowB r p.x).x = p.x := rfl
    obtain ⟨px, py⟩ := p
    unfold rowPts
    split
    · rename_i e
      simp only [List.mem_singleton, Pnt.mk.injEq]
      exact ⟨hx.symm, by dsimp only at hy e ⊢; omega⟩
    · simp only [List.mem_cons, Pnt.mk.injEq, List.not_mem_nil, or_false]
      rcases hy with hy | hy
      · exact .inl ⟨hx.symm, hy⟩
      · exact .inr ⟨hx.symm, hy⟩
/-- What a hull of points is. -/
structure Hull (l : List Pnt) (h : Reg) : Prop where
  has : ∀ p ∈ l, inR p h
  xlo : ∃ p ∈ l, p.x = h.x.lo
  xhi : ∃ p ∈ l, p.x = h.x.hi
  ylo : ∃ p ∈ l, p.y = h.y.lo
  yhi : ∃ p ∈ l, p.y = h.y.hi
  slo : ∃ p ∈ l, p.x + p.y = h.s.lo
  shi : ∃ p ∈ l, p.x + p.y = h.s.hi
  dlo : ∃ p ∈ l, p.x - p.y = h.d.lo
  dhi : ∃ p ∈ l, p.x - p.y = h.d.hi
theorem hull_one (p : Pnt) : Hull [p] (ofP p) := by
  have hh : ∀ q ∈ [p], inR q (ofP p) := by
    intro q hq
    simp at hq; subst hq
    exact ⟨⟨Int.le_refl _, Int.le_refl _⟩, ⟨Int.le_refl _, Int.le_refl _⟩, ⟨Int.le_refl _, Int.le_refl _⟩, ⟨Int.le_refl _, Int.le_refl _⟩⟩
  have hm : p ∈ [p] := List.mem_singleton.2 rfl
  exact ⟨hh, ⟨p, hm, rfl⟩, ⟨p, hm, rfl⟩, ⟨p, hm, rfl⟩, ⟨p, hm, rfl⟩, ⟨p, hm, rfl⟩, ⟨p, hm, rfl⟩, ⟨p, hm, rfl⟩, ⟨p, hm, rfl⟩⟩
theorem lo_add {l : List Pnt} {f : Pnt → Int} {a : Int} (p : Pnt) (h : ∃ q ∈ l, f q = a) : ∃ q ∈ l ++ [p], f q = min a (f p) := by
  obtain ⟨q, hq, e⟩ := h
  by_cases hlt : a ≤ f p
  · exact ⟨q, List.mem_append_left _ hq, by omega⟩
  · exact ⟨p, List.mem_append_right _ (List.mem_singleton.2 rfl), by omega⟩
theorem hi_add {l : List Pnt} {f : Pnt → Int} {a : Int} (p : Pnt) (h : ∃ q ∈ l, f q = a) : ∃ q ∈ l ++ [p], f q = max a (f p) := by
  obtain ⟨q, hq, e⟩ := h
  by_cases hlt : f p ≤ a
  · exact ⟨q, List.mem_append_left _ hq, by omega⟩
  · exact ⟨p, List.mem_append_right _ (List.mem_singleton.2 rfl), by omega⟩
theorem hull_add {l : List Pnt} {h : Reg} (p : Pnt) (H : Hull l h) : Hull (l ++ [p]) (zipR spanB h (ofP p)) := by
  have hh : ∀ q ∈ l ++ [p], inR q (zipR spanB h (ofP p)) := by
    intro q hq
    rcases List.mem_append.1 hq with hq | hq
    · have := H.has q hq
      unfold inR inB zipR spanB ofP still at *; dsimp only at *; omega
    · simp at hq; subst hq
      unfold inR inB zipR spanB ofP still; dsimp only; omega
  exact ⟨hh, lo_add (f := fun p => p.x) p H.xlo, hi_add (f := fun p => p.x) p H.xhi, lo_add (f := fun p => p.y) p H.ylo, hi_add (f := fun p => p.y) p H.yhi,
    lo_add (f := fun p => p.x + p.y) p H.slo, hi_add (f := fun p => p.x + p.y) p H.shi, lo_add (f := fun p => p.x - p.y) p H.dlo, hi_add (f := fun p => p.x - p.y) p H.dhi⟩
theorem hull_fold : ∀ (m l : List Pnt) (h : Reg), Hull l h → ∃ k, m.foldl addP (some h) = some k ∧ Hull (l ++ m) k
  | [], l, h, H => ⟨h, rfl, by rw [List.append_nil]; exact H⟩
  | p :: m, l, h, H => by
    obtain ⟨k, e, K⟩ := hull_fold m (l ++ [p]) _ (hull_add p H)
    exact ⟨k, e, by simpa using K⟩
theorem hull_of : ∀ (l : List Pnt), l ≠ [] → ∃ h, hullL l = some h ∧ Hull l h
  | [], h => absurd rfl h
  | p :: m, _ => by
    obtain ⟨k, e, K⟩ := hull_fold m [p] _ (hull_one p)
    refine ⟨k, ?_, K⟩
    unfold hullL
    rw [List.foldl_cons]
    show m.foldl addP (some (zipR spanB (ofP p) (ofP p))) = some k
    rw [zipR_self]; exact e
/-- What a tight region is: it has the places of the region, and each of its bounds is met by one. -/
theorem tight_hull {r t : Reg} (h : tightO r = some t) : Hull (ptsL r) t := by
  have hne : ptsL r ≠ [] := by
    intro e
    rw [tightO, e] at h
    cases h
  obtain ⟨k, e, K⟩ := hull_of _ hne
  rw [tightO, e] at h
  cases h
  exact K
theorem tight_has {r : Reg} {p : Pnt} (h : inR p r) : ∃ t, tightO r = some t ∧ inR p t := by
  have hle : (rowB r p.x).fr ≤ p.y ∧ p.y ≤ (rowB r p.x).to := by
    unfold inR inB at h
    unfold rowB
    dsimp only
    omega
  have m1 : (⟨p.x, (rowB r p.x).fr⟩ : Pnt) ∈ ptsL r := ptsL_iff.2 ⟨by unfold inR inB at *; unfold rowB at *; dsimp only at *; omega, .inl rfl⟩
  have m2 : (⟨p.x, (rowB r p.x).to⟩ : Pnt) ∈ ptsL r := ptsL_iff.2 ⟨by unfold inR inB at *; unfold rowB at *; dsimp only at *; omega, .inr rfl⟩
  obtain ⟨t, e, T⟩ := hull_of _ (List.ne_nil_of_mem m1)
  refine ⟨t, e, ?_⟩
  have a := T.has _ m1
  have b := T.has _ m2
  unfold inR inB at *
  dsimp only at *
  omega
theorem tight_ok {r t : Reg} (hr : okReg r = true) (h : tightO r = some t) : okReg t = true := by
  have T := tight_hull h
  have hp : ∀ p ∈ ptsL r, -32768 ≤ p.x ∧ p.x ≤ 32768 ∧ -32768 ≤ p.y ∧ p.y ≤ 32768 := fun p hp => ptsL_mid hr hp
  obtain ⟨p1, m1, e1⟩ := T.xlo
  obtain ⟨p2, m2, e2⟩ := T.xhi
  obtain ⟨p3, m3, e3⟩ := T.ylo
  obtain ⟨p4, m4, e4⟩ := T.yhi
  obtain ⟨p5, m5, e5⟩ := T.slo
  obtain ⟨p6, m6, e6⟩ := T.shi
  obtain ⟨p7, m7, e7⟩ := T.dlo
  obtain ⟨p8, m8, e8⟩ := T.dhi
  have a1 := hp _ m1
  have a2 := hp _ m2
  have a3 := hp _ m3
  have a4 := hp _ m4
  have a5 := hp _ m5
  have a6 := hp _ m6
  have a7 := hp _ m7
  have a8 := hp _ m8
  have b := T.has _ m1
  unfold okReg okBnd
  unfold inR inB at b
  simp only [Bool.and_eq_true, decide_eq_true_eq]
  omega
end Go.Proofs.YtfengddpfeneiaaGreat
namespace Go.Proofs.YtfengddpfeneiaaGreat
open Go.RowKit Go.Shelf
set_option linter.unusedSimpArgs false
set_option linter.unusedVariables false

def drTo (b : Bnd) (bits : List Int) (fr : Int) (k : Nat) : List Int := (List.range k).map fun i => insB bits fr i b
/-! Sum -/
/-! Earlier -/
end Go.Proofs.YtfengddpfeneiaaGreat
namespace Go.Proofs.YtfengddpfeneiaaGreat
open Go.RowKit Go.Shelf
set_option linter.unusedSimpArgs false
set_option linter.unusedVariables false

end Go.Proofs.YtfengddpfeneiaaGreat
namespace Go.Proofs.YtfengddpfeneiaaGreat
open Go.RowKit Go.Shelf

def nodesTo (s : Strm) (bs : List Bnd) (k : Nat) : List Reg := (List.range k).map (nodeR s bs)
theorem Tryz.infoReg : (Tryz.prog.info? 42).map (fun i => (i.zero, i.size, i.bytes)) = some (some (.agg #[.int .i64 0, .int .i64 0, .int .i64 0, .int .i64 0, .int .i64 0, .int .i64 0, .int .i64 0, .int .i64 0]), 8, 64) := by kernel_rfl
theorem ownsRow_set8 {w : World} {base : Nat} {e : TypeId} {size : Nat} {v : Value} {n : Nat} {xs : List Value} {g : Nat} (h : w.ownsRow base e size v n xs) (hg : v.ownBlock ≠ some g) (v0 v1 v2 v3 v4 v5 v6 v7 : Value) : (set8 w g v0 v1 v2 v3 v4 v5 v6 v7).ownsRow base e size v n xs :=
  ownsRow_setCell (ownsRow_setCell (ownsRow_setCell (ownsRow_setCell (ownsRow_setCell (ownsRow_setCell (ownsRow_setCell (ownsRow_setCell h (p := ⟨g, 0, none⟩) hg v0) (p := ⟨g, 1, none⟩) hg v1) (p := ⟨g, 2, none⟩) hg v2) (p := ⟨g, 3, none⟩) hg v3) (p := ⟨g, 4, none⟩) hg v4) (p := ⟨g, 5, none⟩) hg v5) (p := ⟨g, 6, none⟩) hg v6) (p := ⟨g, 7, none⟩) hg v7
/-- A row of regions of the call's own. -/
def OwnRegs (w0 : World) (n : Nat) (L : List Reg) (e : Ending) (w' : World) : Prop :=
  ∃ O co, e = .returned (.slice O n co) ∧ SlAt w' w0.heap.size 8 Reg.cells O n co L ∧ Below w0.heap.size w0 w'
end Go.Proofs.YtfengddpfeneiaaGreat
namespace Go.Proofs.YtfengddpfeneiaaGreat
set_option linter.unusedSimpArgs false
set_option linter.unusedVariables false
open Go.RowKit Go.Shelf

def bigB (b : Bnd) : Prop := -1000000000 ≤ b.lo ∧ b.lo ≤ 1000000000 ∧ -1000000000 ≤ b.hi ∧ b.hi ≤ 1000000000
theorem extO_big {p q : Int} : ∀ (l : List RRow) (o : Option Bnd), (∀ w ∈ l, -1000000000 ≤ p * w.x + q * w.fr ∧ p * w.x + q * w.fr ≤ 1000000000 ∧ -1000000000 ≤ p * w.x + q * w.to ∧ p * w.x + q * w.to ≤ 1000000000) → (∀ b, o = some b → bigB b) →
    ∀ b, l.foldl (fun o w => addE o (p * w.x + q * w.fr, p * w.x + q * w.to)) o = some b → bigB b
  | [], o, _, ho, b, e => ho b e
  | w :: l, o, hl, ho, b, e => by
    refine extO_big l _ (fun v hv => hl v (List.mem_cons_of_mem _ hv)) (fun b' e' => ?_) b e
    have hw := hl w (List.mem_cons_self ..)
    cases o with
    | none =>
      simp only [addE, Option.some.injEq] at e'
      subst e'
      unfold bigB
      simp only
      omega
    | some g =>
      have hg := ho g rfl
      unfold bigB at hg
      simp only [addE, Option.some.injEq] at e'
      subst e'
      unfold bigB
      simp only
      omega
theorem extB_big {r : Reg} {p q : Int} (hr : okReg r = true) (hp : -2000 ≤ p ∧ p ≤ 2000) (hq : -2000 ≤ q ∧ q ≤ 2000) : bigB (extB r p q) := by
  unfold extB
  cases h : extO (rowsL r) p q with
  | none => simp [bigB]
  | some b =>
    refine extO_big (rowsL r) none (fun w hw => ?_) (fun _ e => by cases e) b h
    obtain ⟨j, hj, rfl, hle⟩ := rowsTo_mem hw
    simp only [okReg, Bool.and_eq_true, okBnd, decide_eq_true_eq] at hr
    obtain ⟨⟨⟨⟨x1, x2, x3⟩, ⟨y1, y2, y3⟩⟩, _⟩, _⟩ := hr
    have hx : j < (r.x.hi + 1 - r.x.lo).toNat := hj
    have e1 : (rowB r (r.x.lo + j)).fr = max r.y.lo (max (r.s.lo - (r.x.lo + j)) (r.x.lo + j - r.d.hi)) := rfl
    have e2 : (rowB r (r.x.lo + j)).to = min r.y.hi (min (r.s.hi - (r.x.lo + j)) (r.x.lo + j - r.d.lo)) := rfl
    have e3 : (rowB r (r.x.lo + j)).x = r.x.lo + j := rfl
    generalize rowB r (r.x.lo + j) = v at *
    have ha := smul_bd hp.1 hp.2 (show -32768 ≤ v.x by omega) (show v.x ≤ 32768 by omega)
    have hb1 := smul_bd hq.1 hq.2 (show -32768 ≤ v.fr by omega) (show v.fr ≤ 32768 by omega)
    have hb2 := smul_bd hq.1 hq.2 (show -32768 ≤ v.to by omega) (show v.to ≤ 32768 by omega)
    omega
def turnK (r : Reg) (h : Hdg) : Nat → Reg
  | 0 => noReg
  | 1 => { noReg with x := turnB r h.c h.p (-h.q) }
  | 2 => { noReg with x := turnB r h.c h.p (-h.q), y := turnB r h.c h.q h.p }
  | 3 => { noReg with x := turnB r h.c h.p (-h.q), y := turnB r h.c h.q h.p, s := turnB r h.c (h.p + h.q) (h.p - h.q) }
  | _ => turnedS r h
end Go.Proofs.YtfengddpfeneiaaGreat
namespace Go.Proofs.YtfengddpfeneiaaGreat
open Go.RowKit Go.Shelf

theorem okReg_iff {r : Reg} : okReg r = true ↔ (-32768 ≤ r.x.lo ∧ r.x.lo ≤ r.x.hi ∧ r.x.hi ≤ 32768) ∧ (-32768 ≤ r.y.lo ∧ r.y.lo ≤ r.y.hi ∧ r.y.hi ≤ 32768) ∧ (-65536 ≤ r.s.lo ∧ r.s.lo ≤ r.s.hi ∧ r.s.hi ≤ 65536) ∧ (-65536 ≤ r.d.lo ∧ r.d.lo ≤ r.d.hi ∧ r.d.hi ≤ 65536) := by
  simp only [okReg, okBnd, Bool.and_eq_true, decide_eq_true_eq, and_assoc]
/-! What is written into the result's own cells at the end. -/
end Go.Proofs.YtfengddpfeneiaaGreat
namespace Go.Proofs.YtfengddpfeneiaaGreat
open Go.RowKit Go.Shelf
set_option linter.unusedSimpArgs false
set_option linter.unusedVariables false

/-- How far a section that lies straight reaches back, rounded up or down. -/
def backS (up : Bool) (n m : Int) : Int :=
  if up = true ∧ rootS (n * n - m * m) * rootS (n * n - m * m) < n * n - m * m then rootS (n * n - m * m) + 1 else rootS (n * n - m * m)
/-- Where the nodes are if all sections lie straight. -/
def laidX (s : Strm) (o : List Int) (up : Bool) : Nat → Int
  | 0 => 0
  | k + 1 => laidX s o up k - backS up (s.sec k).len (bendAt s o k)
def laidTo (s : Strm) (o : List Int) (up : Bool) (k : Nat) : List Pnt := (List.range k).map fun i => ⟨laidX s o up (i + 1), o.getD i s.head⟩
def laidL (s : Strm) (o : List Int) (up : Bool) : List Pnt := laidTo s o up o.length
def laidB (s : Strm) (o : List Int) : Bool := (List.range o.length).all fun i => decide (bendAt s o i ≤ (s.sec i).len)
/-- What region.Has says. -/
def hasS (r : Reg) (p : Pnt) : Bool := decide (zipR cutB r (ofP p) = ofP p)
def hasR (r : Reg) (p : Pnt) : Bool × Int := if okReg r = true then (if okPnt p = true then (hasS r p, 0) else (false, 10)) else (false, 11)
/-- Each bound of a tight region is met by one of its places. -/
structure TightR (r : Reg) : Prop where
  xlo : ∃ p, inR p r ∧ p.x = r.x.lo
  xhi : ∃ p, inR p r ∧ p.x = r.x.hi
  ylo : ∃ p, inR p r ∧ p.y = r.y.lo
  yhi : ∃ p, inR p r ∧ p.y = r.y.hi
  slo : ∃ p, inR p r ∧ p.x + p.y = r.s.lo
  shi : ∃ p, inR p r ∧ p.x + p.y = r.s.hi
  dlo : ∃ p, inR p r ∧ p.x - p.y = r.d.lo
  dhi : ∃ p, inR p r ∧ p.x - p.y = r.d.hi
/-! The least and the greatest p x + q y. -/
structure ExtS (r : Reg) (p q : Int) (b : Bnd) : Prop where
  lo : ∃ v, inR v r ∧ p * v.x + q * v.y = b.lo
  hi : ∃ v, inR v r ∧ p * v.x + q * v.y = b.hi
  has : ∀ v, inR v r → inB (p * v.x + q * v.y) b
def ExtL (L : List RRow) (p q : Int) (b : Bnd) : Prop :=
  (∃ w ∈ L, p * w.x + q * w.fr = b.lo ∨ p * w.x + q * w.to = b.lo) ∧ (∃ w ∈ L, p * w.x + q * w.fr = b.hi ∨ p * w.x + q * w.to = b.hi) ∧ ∀ w ∈ L, inB (p * w.x + q * w.fr) b ∧ inB (p * w.x + q * w.to) b
theorem extL_add {L : List RRow} {p q : Int} {b : Bnd} (w : RRow) (h : ExtL L p q b) (c : Bnd) (hc : addE (some b) (p * w.x + q * w.fr, p * w.x + q * w.to) = some c) : ExtL (L ++ [w]) p q c := by
  obtain ⟨⟨w1, m1, e1⟩, ⟨w2, m2, e2⟩, h3⟩ := h
  have hm : w ∈ L ++ [w] := by simp
  simp only [addE, Option.some.injEq] at hc
  subst hc
  generalize ha : p * w.x + q * w.fr = a at *
  generalize hb : p * w.x + q * w.to = a' at *
  refine ⟨?_, ?_, fun v hv => ?_⟩
  · by_cases k1 : b.lo ≤ a ∧ b.lo ≤ a'
    · exact ⟨w1, List.mem_append_left _ m1, by dsimp only; omega⟩
    · exact ⟨w, hm, by dsimp only; omega⟩
  · by_cases k1 : a ≤ b.hi ∧ a' ≤ b.hi
    · exact ⟨w2, List.mem_append_left _ m2, by dsimp only; omega⟩
    · exact ⟨w, hm, by dsimp only; omega⟩
  · rcases List.mem_append.1 hv with hv | hv
    · have := h3 v hv
      unfold inB at *
      dsimp only
      omega
    · simp at hv; subst hv
      unfold inB
      dsimp only
      omega
theorem extL_one (w : RRow) (p q : Int) (c : Bnd) (hc : addE none (p * w.x + q * w.fr, p * w.x + q * w.to) = some c) : ExtL [w] p q c := by
  have hm : w ∈ [w] := by simp
  simp only [addE, Option.some.injEq] at hc
  subst hc
  refine ⟨⟨w, hm, by dsimp only; omega⟩, ⟨w, hm, by dsimp only; omega⟩, fun v hv => ?_⟩
  simp at hv; subst hv
  unfold inB
  dsimp only
  omega
theorem extL_fold (p q : Int) : ∀ (M L : List RRow) (b : Bnd), ExtL L p q b → ∃ c, M.foldl (fun o w => addE o (p * w.x + q * w.fr, p * w.x + q * w.to)) (some b) = some c ∧ ExtL (L ++ M) p q c
  | [], L, b, h => ⟨b, rfl, by rw [List.append_nil]; exact h⟩
  | w :: M, L, b, h => by
    obtain ⟨c, e, k⟩ := extL_fold p q M (L ++ [w]) _ (extL_add w h _ rfl)
    exact ⟨c, e, by simpa using k⟩
theorem extL_of (p q : Int) : ∀ L : List RRow, L ≠ [] → ∃ c, extO L p q = some c ∧ ExtL L p q c
  | [], h => absurd rfl h
  | w :: M, _ => by
    obtain ⟨c, e, k⟩ := extL_fold p q M [w] _ (extL_one w p q _ rfl)
    exact ⟨c, e, k⟩
theorem row_lin {q a b y : Int} (h1 : a ≤ y) (h2 : y ≤ b) : min (q * a) (q * b) ≤ q * y ∧ q * y ≤ max (q * a) (q * b) := by
  rcases Int.le_total 0 q with h | h
  · have := Int.mul_le_mul_of_nonneg_left h1 h
    have := Int.mul_le_mul_of_nonneg_left h2 h
    omega
  · have := Int.mul_le_mul_of_nonpos_left h h1
    have := Int.mul_le_mul_of_nonpos_left h h2
    omega
theorem row_of {r : Reg} {v : Pnt} (h : inR v r) : rowB r v.x ∈ rowsL r ∧ (rowB r v.x).fr ≤ v.y ∧ v.y ≤ (rowB r v.x).to := by
  have hle : (rowB r v.x).fr ≤ v.y ∧ v.y ≤ (rowB r v.x).to := by
    unfold inR inB at h
    unfold rowB
    dsimp only
    omega
  exact ⟨rowsL_iff.2 ⟨h.1, rfl, by omega⟩, hle.1, hle.2⟩
theorem row_ends {r : Reg} {w : RRow} (h : w ∈ rowsL r) : inR ⟨w.x, w.fr⟩ r ∧ inR ⟨w.x, w.to⟩ r := by
  obtain ⟨h1, h2, h3⟩ := rowsL_iff.1 h
  rw [h2] at h3
  have e1 : w.fr = (rowB r w.x).fr := by rw [← h2]
  have e2 : w.to = (rowB r w.x).to := by rw [← h2]
  rw [e1, e2]
  unfold inR inB at *
  unfold rowB at *
  dsimp only at *
  omega
theorem ext_spec {r : Reg} (p q : Int) (h : ∃ v, inR v r) : ExtS r p q (extB r p q) := by
  obtain ⟨v0, h0⟩ := h
  obtain ⟨c, e, ⟨w1, m1, e1⟩, ⟨w2, m2, e2⟩, h3⟩ := extL_of p q (rowsL r) (List.ne_nil_of_mem (row_of h0).1)
  unfold extB
  rw [e]
  show ExtS r p q c
  refine ⟨?_, ?_, fun v hv => ?_⟩
  · obtain ⟨a, b⟩ := row_ends m1
    rcases e1 with e1 | e1
    · exact ⟨_, a, e1⟩
    · exact ⟨_, b, e1⟩
  · obtain ⟨a, b⟩ := row_ends m2
    rcases e2 with e2 | e2
    · exact ⟨_, a, e2⟩
    · exact ⟨_, b, e2⟩
  · obtain ⟨hm, a, b⟩ := row_of hv
    have k := h3 _ hm
    have l := row_lin (q := q) a b
    have ex : (rowB r v.x).x = v.x := rfl
    rw [ex] at k
    unfold inB at *
    omega
def negB (b : Bnd) : Bnd := ⟨-b.hi, -b.lo⟩
def negR (r : Reg) : Reg := ⟨negB r.x, negB r.y, negB r.s, negB r.d⟩
/-! Where the nodes are in the plane. -/
def placeR (ship : Pnt) (h : Hdg) (r : Reg) : Reg × Int := if inPlane (turnedS r h) = true then moveR (turnedS r h) ship else (noReg, 7)
def whereE (ship : Pnt) (h : Hdg) (L : List Reg) : Nat → Int
  | 0 => 0
  | k + 1 => if whereE ship h L k = 0 then (placeR ship h (L.getD k noReg)).2 else whereE ship h L k
def whereTo (ship : Pnt) (h : Hdg) (L : List Reg) (k : Nat) : List Reg := (List.range k).map fun i => (placeR ship h (L.getD i noReg)).1
def whereN (ship : Pnt) (h : Hdg) (L : List Reg) : List Reg × Int := if whereE ship h L L.length = 0 then (whereTo ship h L L.length, 0) else ([], whereE ship h L L.length)
def whereR (s : Strm) (bs : List Bnd) (ship : Pnt) (h : Hdg) : List Reg × Int :=
  if errB s bs = 0 then (if okPnt ship = true then (if okHdg h = true then whereN ship h (nodesL s bs) else ([], 35)) else ([], 10)) else ([], errB s bs)
theorem okHdg_iff {h : Hdg} : okHdg h = true ↔ 1 ≤ h.c ∧ h.c ≤ 1000 ∧ -h.c ≤ h.p ∧ h.p ≤ h.c ∧ -h.c ≤ h.q ∧ h.q ≤ h.c ∧ h.p * h.p + h.q * h.q = h.c * h.c := by unfold okHdg; rw [decide_eq_true_eq]
/-- The place that two numbers choose. -/
def chosenP (t : Reg) (a b : Int) : Pnt :=
  let x := t.x.lo + restS a (t.x.hi - t.x.lo + 1)
  ⟨x, (rowB t x).fr + restS b ((rowB t x).to - (rowB t x).fr + 1)⟩
/-! A quarter turn. -/
def quarR (t : Reg) : Reg := ⟨negB t.y, t.x, t.d, negB t.s⟩
/-! Places within a distance. -/
def intoL (m n : Int) : Int := max (-m) (min n m)
def wideB (m n : Int) (b : Bnd) : Bnd := ⟨intoL m (b.lo - n), intoL m (b.hi + n)⟩
def wideR (n m : Int) (r : Reg) : Reg := ⟨wideB 32768 n r.x, wideB 32768 n r.y, wideB 65536 m r.s, wideB 65536 m r.d⟩
end Go.Proofs.YtfengddpfeneiaaGreat
namespace Go.Proofs.YtfengddpfeneiaaGreat
open Go.RowKit Go.Shelf
set_option linter.unusedSimpArgs false
set_option linter.unusedVariables false

set_option maxHeartbeats 400000 in
theorem into_any (m n : Int) (w : World) (h0 : 0 ≤ m) (h1 : m ≤ 1000000) :
    Calls Tryz.prog 63 #[.int .i64 m, .int .i64 n] w fun e w' => e = .returned (.int .i64 (intoL m n)) ∧ w = w' := by
  have hmax := max2_int
  have hmin := min2_int
  have t := IntWalk.i64_in (-m) (by omega)
  go_enter Tryz.func63, Tryz.ntmps63
  go_wp2
  go_ret
  exact ⟨rfl, rfl⟩
theorem into_in {m n : Int} (h : -m ≤ n ∧ n ≤ m) : intoL m n = n := by unfold intoL; omega
theorem into_out {m n : Int} (h0 : 0 ≤ m) (h : ¬ (-m ≤ n ∧ n ≤ m)) : ¬ intoL m n = n := by unfold intoL; omega
def inPl (n : Int) : Prop := -32768 ≤ n ∧ n ≤ 32768
set_option maxRecDepth 100000 in
set_option maxHeartbeats 1000000 in
theorem CheckPoint_any (p : Pnt) (w : World) :
    Calls Tryz.prog 23 #[.agg #[.int .i64 p.x, .int .i64 p.y]] w fun e w' => e = .returned (.int .i64 (chkPnt p)) ∧ Below w.heap.size w w' := by
  have i0 : ∀ (a b : Value) w, (Instr.index 64 (.agg #[a, b]) (.int .i64 0)).run Tryz.prog w = .ok a w := fun _ _ _ => by kernel_rfl
  have i1 : ∀ (a b : Value) w, (Instr.index 64 (.agg #[a, b]) (.int .i64 1)).run Tryz.prog w = .ok b w := fun _ _ _ => by kernel_rfl
  have hI := fun n W => into_any 32768 n W (by omega) (by omega)
  have hv1 : Hid (¬ inPl p.x → chkPnt p = 10) := by show _ → _; intro h; unfold inPl at h; unfold chkPnt okPnt; rw [if_neg]; simp; omega
  have hv2 : Hid (¬ inPl p.y → chkPnt p = 10) := by show _ → _; intro h; unfold inPl at h; unfold chkPnt okPnt; rw [if_neg]; simp; omega
  have hv0 : Hid (inPl p.x → inPl p.y → chkPnt p = 0) := by show _ → _ → _; intro h h'; unfold inPl at h h'; unfold chkPnt okPnt; rw [if_pos]; simp; omega
  obtain ⟨er, her⟩ : ∃ er, er = chkPnt p := ⟨_, rfl⟩
  rw [← her] at hv1 hv2 hv0 ⊢
  clear her
  have hb0 := (Below.refl w.heap.size w).alloc (Nat.le_refl _) (.cells #[.int .i64 p.x, .int .i64 p.y] 23)
  go_enter Tryz.func23, Tryz.ntmps23
  go_wp2_with fail
  generalize w.alloc (.cells #[.int .i64 p.x, .int .i64 p.y] 23) = W at *
  go_loopw [10] (fun j wr => ∃ k : Nat, j = jv k ∧ k ≤ 2 ∧ (1 ≤ k → inPl p.x) ∧ (2 ≤ k → inPl p.y) ∧ wr = W) (fun j wr => 2 - (intOf j).toNat)
  case atStart => exact ⟨0, rfl, by omega, fun h => by omega, fun h => by omega, (by trivial)⟩
  case round =>
    obtain ⟨k, rfl, hk, hx, hy, rfl⟩ := hrel
    replace hx := Lib.hid hx
    replace hy := Lib.hid hy
    match k, hk with
    | 0, _ =>
      rw [show jv 0 = .int .i64 0 from rfl]
      by_cases hq : inPl p.x
      · have e1 := into_in (m := 32768) (n := p.x) hq
        have hI1 := hI p.x
        simp only [e1] at hI1
        clear e1
        go_wp2_with fail
        refine (hI1 _).mono ?_
        rintro e w' ⟨rfl, rfl⟩
        go_wp2_with fail
        go_roundw
        case rel => exact ⟨1, rfl, by omega, fun _ => hq, fun h => by omega, (by trivial)⟩
        case measure => simp [intOf]
      · have e1 := into_out (m := 32768) (n := p.x) (by omega) hq
        have hI1 := hI p.x
        generalize intoL 32768 p.x = z at *
        have e2 : (z != p.x) = true := by rw [bne_iff_ne]; exact e1
        have hz := hv1.out hq
        go_wp2_with fail
        refine (hI1 _).mono ?_
        rintro e w' ⟨rfl, rfl⟩
        clear hI1
        replace hz := Lib.hid hz
        go_wp2
        go_ret
        exact ⟨ret_int hz.out.symm, hb0⟩
    | 1, _ =>
      rw [show jv 1 = .int .i64 1 from rfl]
      by_cases hq : inPl p.y
      · have e1 := into_in (m := 32768) (n := p.y) hq
        have hI1 := hI p.y
        simp only [e1] at hI1
        clear e1
        go_wp2_with fail
        refine (hI1 _).mono ?_
        rintro e w' ⟨rfl, rfl⟩
        go_wp2_with fail
        go_roundw
        case rel => exact ⟨2, rfl, by omega, fun _ => hx.out (by omega), fun _ => hq, (by trivial)⟩
        case measure => simp [intOf]
      · have e1 := into_out (m := 32768) (n := p.y) (by omega) hq
        have hI1 := hI p.y
        generalize intoL 32768 p.y = z at *
        have e2 : (z != p.y) = true := by rw [bne_iff_ne]; exact e1
        have hz := hv2.out hq
        go_wp2_with fail
        refine (hI1 _).mono ?_
        rintro e w' ⟨rfl, rfl⟩
        clear hI1
        replace hz := Lib.hid hz
        go_wp2
        go_ret
        exact ⟨ret_int hz.out.symm, hb0⟩
    | 2, _ =>
      rw [show jv 2 = .int .i64 2 from rfl]
      have hz := Lib.hid (hv0.out (hx.out (by omega)) (hy.out (by omega)))
      go_wp2
      go_ret
      exact ⟨ret_int hz.out.symm, hb0⟩
/-! The first error of several. -/
def firstE : List Int → Int
  | [] => 0
  | e :: l => if e = 0 then firstE l else e
def allZ (l : List Int) (k : Nat) : Prop := ∀ i, i < k → l.getD i 0 = 0
end Go.Proofs.YtfengddpfeneiaaGreat
