/-
  Walks: the specification's approach, Approach.
-/
import Derived.Test.YthjdjpcomocffaaGreatR24
namespace Go.Proofs.YthjdjpcomocffaaGreat
open Go.RowKit Go.Shelf
set_option linter.unusedSimpArgs false
set_option linter.unusedVariables false

def apFr (o : Option Bnd) (xs ys : List Reg) (i : Nat) : Option Bnd := (xs.take i).foldl (fun o x => apIn o x ys ys.length) o
theorem apFr_succ (o : Option Bnd) {xs : List Reg} (ys : List Reg) {i : Nat} {x : Reg} (h : xs[i]? = some x) : apFr o xs ys (i + 1) = apIn (apFr o xs ys i) x ys ys.length := by
  unfold apFr
  rw [List.take_add_one, h, List.foldl_append]; rfl
theorem minO_same (g : Bnd) : minO (some g) g = some g := by
  unfold minO
  dsimp only
  congr 1
  exact bnd_ext (by dsimp only; omega) (by dsimp only; omega)
theorem apFr_first {xs ys : List Reg} {x y : Reg} (hx : xs[0]? = some x) (hy : ys[0]? = some y) : apFr (some (gapS x y)) xs ys xs.length = appO xs ys := by
  unfold appO apFr apTo
  cases xs with
  | nil => cases hx
  | cons x1 xs =>
    cases ys with
    | nil => cases hy
    | cons y1 ys =>
      simp at hx hy
      subst hx hy
      rw [List.take_of_length_le (Nat.le_refl _)]
      simp only [List.foldl_cons]
      congr 1
      unfold apIn
      rw [List.take_of_length_le (Nat.le_refl _)]
      simp only [List.map_cons, List.foldl_cons]
      rw [minO_same]
      rfl
theorem apIn_someR {o : Option Bnd} (x : Reg) (ys : List Reg) (j : Nat) (h : ∃ B, o = some B) : ∃ B, apIn o x ys j = some B := by
  unfold apIn
  generalize ys.take j = L
  induction L generalizing o with
  | nil => exact h
  | cons y L ih => exact ih (minO_some o _)
theorem apFr_someR {o : Option Bnd} (xs ys : List Reg) (i : Nat) (h : ∃ B, o = some B) : ∃ B, apFr o xs ys i = some B := by
  unfold apFr
  generalize xs.take i = L
  induction L generalizing o with
  | nil => exact h
  | cons x L ih => exact ih (apIn_someR x ys _ h)
/-- What stands in a spread that is one. -/
theorem nodes_good {s : Strm} {bs : List Bnd} (h : errB s bs = 0) : Good (nodesL s bs) := by
  obtain ⟨h1, h2⟩ := errB_zero h
  intro r hr
  unfold nodesL at hr
  obtain ⟨i, hi, rfl⟩ := List.mem_map.1 hr
  obtain ⟨a, b, -⟩ := node_tight h1 h2 (List.mem_range.1 hi)
  exact ⟨b, tight_self a⟩
theorem nodes_len (s : Strm) (bs : List Bnd) : (nodesL s bs).length = bs.length := by unfold nodesL; rw [List.length_map, List.length_range]
end Go.Proofs.YthjdjpcomocffaaGreat
