/-
  The specification's package: the ends of bounds, and so many times a number.
  The specification's package: the error of a streamer with bounds; the bounds after a step.
  The specification's package: the bounds after a step, walked.
-/
import Derived.Test.YthjdjpcomocffaaGreatR3
import Derived.Test.YthjdjpcomocffaaGreatW5
namespace Go.Proofs.YthjdjpcomocffaaGreat
open Go.RowKit Go.Shelf
set_option linter.unusedSimpArgs false
set_option linter.unusedVariables false

theorem mapTake_succ {α β : Type} (f : α → β) {l : List α} {k : Nat} {x : α} (hk : l[k]? = some x) : (l.take (k + 1)).map f = (l.take k).map f ++ [f x] := by
  rw [List.take_add_one, hk, List.map_append]; rfl
theorem rep_succ (x : Int) (k : Nat) : (List.replicate (k + 1) x).map (Value.int .i64 ·) = (List.replicate k x).map (Value.int .i64 ·) ++ [.int .i64 x] := by
  rw [List.replicate_succ', List.map_append]; rfl
end Go.Proofs.YthjdjpcomocffaaGreat
namespace Go.Proofs.YthjdjpcomocffaaGreat
open Go.RowKit Go.Shelf
set_option linter.unusedSimpArgs false
set_option linter.unusedVariables false

theorem errB_of {s : Strm} {l : List Bnd} (h : okStrm s = true) : errB s l = if (decide (l.length = s.secs.length) && l.all (okBnd 16384)) = true then 0 else 31 := by simp [errB, h, okOffs]
theorem bndTo_succ {m : Int} {l : List Bnd} {k : Nat} {x : Bnd} (hk : l[k]? = some x) : (l.take (k + 1)).all (okBnd m) = ((l.take k).all (okBnd m) && okBnd m x) := by
  rw [List.take_add_one, hk]; simp
theorem okOffs_get {s : Strm} {l : List Bnd} (h : okOffs s l = true) {x : Bnd} (hx : x ∈ l) : -16384 ≤ x.lo ∧ x.lo ≤ x.hi ∧ x.hi ≤ 16384 := by
  unfold okOffs at h
  simp only [Bool.and_eq_true, decide_eq_true_eq] at h
  exact of_decide_eq_true (List.all_eq_true.1 h.2 x hx)
theorem okNums_of {s : Strm} {l : List Int} {m : Int} (h : l.length = s.secs.length) (h2 : ∀ x ∈ l, -m ≤ x ∧ x ≤ m) : okNums s l m = true := by
  unfold okNums
  rw [h]
  simp only [decide_true, Bool.true_and, List.all_eq_true]
  intro x hx
  exact decide_eq_true (h2 x hx)
theorem okNums_lo {s : Strm} {l : List Bnd} (h : okOffs s l = true) : okNums s (l.map (·.lo)) 16384 = true := by
  refine okNums_of (by rw [List.length_map, okOffs_len h]) fun x hx => ?_
  obtain ⟨y, hy, rfl⟩ := List.mem_map.1 hx
  have := okOffs_get h hy
  omega
theorem encL_lo (s : Strm) (l : List Bnd) (d : Bnd) : (encL s l d).map (·.lo) = stepL s (l.map (·.lo)) (List.replicate l.length d.lo) := by
  unfold encL stepL eachL
  rw [List.map_map, List.length_map]
  refine List.map_congr_left fun i hi => ?_
  have hi2 : i < l.length := List.mem_range.1 hi
  have h1 : (l.map (·.lo)).getD i s.head = (l.getD i (still s.head)).lo := by
    rw [List.getD_eq_getElem?_getD, List.getD_eq_getElem?_getD, List.getElem?_map, List.getElem?_eq_getElem hi2]; rfl
  have h2 : prev s.head (l.map (·.lo)) i = (prev (still s.head) l i).lo := by
    cases i with
    | zero => rfl
    | succ q =>
      show (l.map (·.lo)).getD q s.head = (l.getD q (still s.head)).lo
      rw [List.getD_eq_getElem?_getD, List.getD_eq_getElem?_getD, List.getElem?_map, List.getElem?_eq_getElem (show q < l.length by omega)]; rfl
  have h3 : (List.replicate l.length d.lo).getD i 0 = d.lo := by
    rw [List.getD_eq_getElem?_getD, List.getElem?_replicate, if_pos hi2]; rfl
  show (encB s d i (l.getD i (still s.head)) (prev (still s.head) l i)).lo = _
  rw [h1, h2]
  show _ = eased s (s.sec i) _ _ ((List.replicate l.length d.lo).getD i 0)
  rw [h3]
  rfl
theorem okNums_hi {s : Strm} {l : List Bnd} (h : okOffs s l = true) : okNums s (l.map (·.hi)) 16384 = true := by
  refine okNums_of (by rw [List.length_map, okOffs_len h]) fun x hx => ?_
  obtain ⟨y, hy, rfl⟩ := List.mem_map.1 hx
  have := okOffs_get h hy
  omega
theorem encL_hi (s : Strm) (l : List Bnd) (d : Bnd) : (encL s l d).map (·.hi) = stepL s (l.map (·.hi)) (List.replicate l.length d.hi) := by
  unfold encL stepL eachL
  rw [List.map_map, List.length_map]
  refine List.map_congr_left fun i hi => ?_
  have hi2 : i < l.length := List.mem_range.1 hi
  have h1 : (l.map (·.hi)).getD i s.head = (l.getD i (still s.head)).hi := by
    rw [List.getD_eq_getElem?_getD, List.getD_eq_getElem?_getD, List.getElem?_map, List.getElem?_eq_getElem hi2]; rfl
  have h2 : prev s.head (l.map (·.hi)) i = (prev (still s.head) l i).hi := by
    cases i with
    | zero => rfl
    | succ q =>
      show (l.map (·.hi)).getD q s.head = (l.getD q (still s.head)).hi
      rw [List.getD_eq_getElem?_getD, List.getD_eq_getElem?_getD, List.getElem?_map, List.getElem?_eq_getElem (show q < l.length by omega)]; rfl
  have h3 : (List.replicate l.length d.hi).getD i 0 = d.hi := by
    rw [List.getD_eq_getElem?_getD, List.getElem?_replicate, if_pos hi2]; rfl
  show (encB s d i (l.getD i (still s.head)) (prev (still s.head) l i)).hi = _
  rw [h1, h2]
  show _ = eased s (s.sec i) _ _ ((List.replicate l.length d.hi).getD i 0)
  rw [h3]
  rfl
theorem okNums_rep {s : Strm} {l : List Bnd} {x : Int} (h : okOffs s l = true) (hx : -100 ≤ x ∧ x ≤ 100) : okNums s (List.replicate l.length x) 100 = true := by
  refine okNums_of (by rw [List.length_replicate, okOffs_len h]) fun y hy => ?_
  rw [List.eq_of_mem_replicate hy]
  exact hx
theorem encL_len (s : Strm) (l : List Bnd) (d : Bnd) : (encL s l d).length = l.length := by simp [encL, eachL]
end Go.Proofs.YthjdjpcomocffaaGreat
namespace Go.Proofs.YthjdjpcomocffaaGreat
open Go.RowKit Go.Shelf
set_option linter.unusedSimpArgs false
set_option linter.unusedVariables false

end Go.Proofs.YthjdjpcomocffaaGreat
