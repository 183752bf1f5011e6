/-
  The specification's package: Bends; the pulls of bounds, and Pulls.
-/
import Derived.Test.YtjiaepphnddpoaaGreatR9
namespace Go.Proofs.YtjiaepphnddpoaaGreat
open Go.RowKit Go.Shelf
set_option linter.unusedSimpArgs false
set_option linter.unusedVariables false

set_option maxRecDepth 100000 in
set_option maxHeartbeats 1000000 in
theorem Ralong_any (b : Bnd) (w : World) :
    Calls Tryz.prog 59 #[.agg #[.int .i64 b.lo, .int .i64 b.hi]] w fun e w' => e = .returned (.bool (okBnd 50 b)) ∧ Below w.heap.size w w' := by
  have hen := fun W => rends_any b (-50) 50 W
  go_enter Tryz.func59, Tryz.ntmps59
  go_wp2_with fail
  refine (hen _).mono ?_
  rintro e w3 ⟨rfl, hb1⟩
  go_wp2
  go_ret
  exact ⟨ret_bool (by simp [okBnd]), ((Below.refl _ _).alloc (Nat.le_refl _) _).trans (hb1.mono (by simp))⟩
theorem ok_pull {s : Strm} {l : List Bnd} (ho : okStrm s = true) (hl : okOffs s l = true) : (∀ x ∈ (bendL s l).map (·.lo), 0 ≤ x ∧ x ≤ 32768) ∧ (∀ x ∈ (bendL s l).map (·.hi), 0 ≤ x ∧ x ≤ 32768) := by
  have hh := ok_head ho
  have hla := okOffs_all hl
  constructor
  all_goals
    intro x hx
    obtain ⟨y, hy, rfl⟩ := List.mem_map.1 hx
    obtain ⟨k, hk⟩ := List.mem_iff_getElem?.1 hy
    have := bendL_bd hh hla hk
    omega
theorem sumB_lo : ∀ Z : List Bnd, (sumB Z).lo = sumI (Z.map (·.lo))
  | [] => rfl
  | z :: Z => by simp only [sumB, List.map_cons, sumI, sumB_lo Z]
theorem sumB_hi : ∀ Z : List Bnd, (sumB Z).hi = sumI (Z.map (·.hi))
  | [] => rfl
  | z :: Z => by simp only [sumB, List.map_cons, sumI, sumB_hi Z]
theorem zipB_lo (sl fa : Int) : ∀ (secs : List Sec) (bd : List Bnd), (List.zipWith (ownPull sl fa) secs bd).map (·.lo) = List.zipWith (ownI sl) secs (bd.map (·.lo))
  | [], _ => rfl
  | _ :: _, [] => rfl
  | x :: xs, b :: bs => by simp only [List.zipWith_cons_cons, List.map_cons, zipB_lo sl fa xs bs]; rfl
theorem zipB_hi (sl fa : Int) : ∀ (secs : List Sec) (bd : List Bnd), (List.zipWith (ownPull sl fa) secs bd).map (·.hi) = List.zipWith (ownI fa) secs (bd.map (·.hi))
  | [], _ => rfl
  | _ :: _, [] => rfl
  | x :: xs, b :: bs => by simp only [List.zipWith_cons_cons, List.map_cons, zipB_hi sl fa xs bs]; rfl
theorem pullZ_lo (sl fa : Int) (secs : List Sec) (bd : List Bnd) : (pullZ sl fa secs bd).map (·.lo) = pullI sl secs (bd.map (·.lo)) := by
  unfold pullZ pullI
  rw [List.map_map, List.length_map]
  refine List.map_congr_left fun i _ => ?_
  show (sumB ((List.zipWith (ownPull sl fa) secs bd).drop i)).lo = _
  rw [sumB_lo, List.map_drop, zipB_lo]
theorem pullZ_hi (sl fa : Int) (secs : List Sec) (bd : List Bnd) : (pullZ sl fa secs bd).map (·.hi) = pullI fa secs (bd.map (·.hi)) := by
  unfold pullZ pullI
  rw [List.map_map, List.length_map]
  refine List.map_congr_left fun i _ => ?_
  show (sumB ((List.zipWith (ownPull sl fa) secs bd).drop i)).hi = _
  rw [sumB_hi, List.map_drop, zipB_hi]
theorem pullL_len (s : Strm) (l : List Bnd) (v : Int) (cur : Bnd) : (pullL s l v cur).length = l.length := by simp [pullL]
end Go.Proofs.YtjiaepphnddpoaaGreat
