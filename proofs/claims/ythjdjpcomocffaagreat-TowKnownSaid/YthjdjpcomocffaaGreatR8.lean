/-
  The specification's package: Enclose; the bends.
  The specification's package: the pulls of bends.
  The specification's package: Bends; the pulls of bounds, and Pulls.
-/
import Derived.Test.YthjdjpcomocffaaGreatR5
namespace Go.Proofs.YthjdjpcomocffaaGreat
open Go.RowKit Go.Shelf
set_option linter.unusedSimpArgs false
set_option linter.unusedVariables false

end Go.Proofs.YthjdjpcomocffaaGreat
namespace Go.Proofs.YthjdjpcomocffaaGreat
open Go.RowKit Go.Shelf
set_option linter.unusedSimpArgs false
set_option linter.unusedVariables false

def sumI : List Int → Int
  | [] => 0
  | b :: bs => sumI bs + b
def ownI (sl : Int) (x : Sec) (b : Int) : Int := x.drag * (sl * sl + b)
def pullI (sl : Int) (secs : List Sec) (l : List Int) : List Int := (List.range l.length).map fun i => sumI ((List.zipWith (ownI sl) secs l).drop i)
def fillI (P : List Int) (k : Nat) : List Int := List.replicate k 0 ++ P.drop k
theorem fillI_set {P : List Int} {k : Nat} {y : Int} (h : P[k]? = some y) : (fillI P (k + 1)).set k y = fillI P k := by
  have hk : k < P.length := (List.getElem?_eq_some_iff.1 h).1
  have ey : P[k] = y := (List.getElem?_eq_some_iff.1 h).2
  unfold fillI
  rw [List.set_append_left _ _ (by rw [List.length_replicate]; omega), List.replicate_succ', List.set_append_right _ _ (by rw [List.length_replicate]; omega)]
  rw [List.length_replicate, Nat.sub_self, List.set_cons_zero, List.append_assoc, List.drop_eq_getElem_cons hk, ey]; rfl
theorem pullI_len (sl : Int) (secs : List Sec) (l : List Int) : (pullI sl secs l).length = l.length := by simp [pullI]
theorem pullI_get (sl : Int) (secs : List Sec) (l : List Int) {k : Nat} (hk : k < l.length) : (pullI sl secs l)[k]? = some (sumI ((List.zipWith (ownI sl) secs l).drop k)) := by simp [pullI, hk]
theorem sumI_step {Z : List Int} {k : Nat} {z : Int} (h : Z[k]? = some z) : sumI (Z.drop k) = sumI (Z.drop (k + 1)) + z := by
  have hk : k < Z.length := (List.getElem?_eq_some_iff.1 h).1
  have e : Z[k] = z := (List.getElem?_eq_some_iff.1 h).2
  rw [List.drop_eq_getElem_cons hk, e]; rfl
theorem sumI_bd : ∀ (Z : List Int) (M : Int), (∀ z ∈ Z, 0 ≤ z ∧ z ≤ M) → 0 ≤ sumI Z ∧ sumI Z ≤ Z.length * M
  | [], M, _ => by simp [sumI]
  | z :: Z, M, h => by
    obtain ⟨a1, a2⟩ := sumI_bd Z M (fun y hy => h y (List.mem_cons_of_mem _ hy))
    obtain ⟨b1, b2⟩ := h z (List.mem_cons_self ..)
    simp only [sumI, List.length_cons]
    have e : ((Z.length + 1 : Nat) : Int) * M = Z.length * M + M := by rw [Int.natCast_add, Int.add_mul]; simp
    rw [e]
    omega
theorem ownI_bd {x : Sec} {b sl : Int} (hx : okSec x = true) (h1 : 0 ≤ sl) (h2 : sl ≤ 150) (h5 : 0 ≤ b) (h6 : b ≤ 32768) : (0 ≤ sl * sl ∧ sl * sl ≤ 22500) ∧ 0 ≤ x.drag * (sl * sl + b) ∧ x.drag * (sl * sl + b) ≤ 60000000 := by
  obtain ⟨⟨r1, r2⟩, _, ⟨r3, r4⟩, _⟩ := ownPull_bd (b := ⟨b, b⟩) hx h1 h2 h1 h2 h5 h6 h5 h6
  exact ⟨⟨r1, r2⟩, r3, r4⟩
end Go.Proofs.YthjdjpcomocffaaGreat
namespace Go.Proofs.YthjdjpcomocffaaGreat
open Go.RowKit Go.Shelf
set_option linter.unusedSimpArgs false
set_option linter.unusedVariables false

theorem ok_pull {s : Strm} {l : List Bnd} (ho : okStrm s = true) (hl : okOffs s l = true) : (∀ x ∈ (bendL s l).map (·.lo), 0 ≤ x ∧ x ≤ 32768) ∧ (∀ x ∈ (bendL s l).map (·.hi), 0 ≤ x ∧ x ≤ 32768) := by
  have hh := ok_head ho
  have hla := okOffs_all hl
  constructor
  all_goals
    intro x hx
    obtain ⟨y, hy, rfl⟩ := List.mem_map.1 hx
    obtain ⟨k, hk⟩ := List.mem_iff_getElem?.1 hy
    have := bendL_bd hh hla hk
    omega
theorem sumB_lo : ∀ Z : List Bnd, (sumB Z).lo = sumI (Z.map (·.lo))
  | [] => rfl
  | z :: Z => by simp only [sumB, List.map_cons, sumI, sumB_lo Z]
theorem sumB_hi : ∀ Z : List Bnd, (sumB Z).hi = sumI (Z.map (·.hi))
  | [] => rfl
  | z :: Z => by simp only [sumB, List.map_cons, sumI, sumB_hi Z]
theorem zipB_lo (sl fa : Int) : ∀ (secs : List Sec) (bd : List Bnd), (List.zipWith (ownPull sl fa) secs bd).map (·.lo) = List.zipWith (ownI sl) secs (bd.map (·.lo))
  | [], _ => rfl
  | _ :: _, [] => rfl
  | x :: xs, b :: bs => by simp only [List.zipWith_cons_cons, List.map_cons, zipB_lo sl fa xs bs]; rfl
theorem zipB_hi (sl fa : Int) : ∀ (secs : List Sec) (bd : List Bnd), (List.zipWith (ownPull sl fa) secs bd).map (·.hi) = List.zipWith (ownI fa) secs (bd.map (·.hi))
  | [], _ => rfl
  | _ :: _, [] => rfl
  | x :: xs, b :: bs => by simp only [List.zipWith_cons_cons, List.map_cons, zipB_hi sl fa xs bs]; rfl
theorem pullZ_lo (sl fa : Int) (secs : List Sec) (bd : List Bnd) : (pullZ sl fa secs bd).map (·.lo) = pullI sl secs (bd.map (·.lo)) := by
  unfold pullZ pullI
  rw [List.map_map, List.length_map]
  refine List.map_congr_left fun i _ => ?_
  show (sumB ((List.zipWith (ownPull sl fa) secs bd).drop i)).lo = _
  rw [sumB_lo, List.map_drop, zipB_lo]
theorem pullZ_hi (sl fa : Int) (secs : List Sec) (bd : List Bnd) : (pullZ sl fa secs bd).map (·.hi) = pullI fa secs (bd.map (·.hi)) := by
  unfold pullZ pullI
  rw [List.map_map, List.length_map]
  refine List.map_congr_left fun i _ => ?_
  show (sumB ((List.zipWith (ownPull sl fa) secs bd).drop i)).hi = _
  rw [sumB_hi, List.map_drop, zipB_hi]
theorem pullL_len (s : Strm) (l : List Bnd) (v : Int) (cur : Bnd) : (pullL s l v cur).length = l.length := by simp [pullL]
end Go.Proofs.YthjdjpcomocffaaGreat
