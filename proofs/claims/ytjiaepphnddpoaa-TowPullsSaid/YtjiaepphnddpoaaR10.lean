/-
  The specification's package: Bends; the pulls of bounds, and Pulls.
-/
import Derived.Test.YtjiaepphnddpoaaR9
namespace Go.Proofs.Ytjiaepphnddpoaa
open Go.RowKit Go.Shelf
set_option linter.unusedSimpArgs false
set_option linter.unusedVariables false

set_option maxRecDepth 100000 in
set_option maxHeartbeats 1000000 in
theorem Ralong_any (b : Bnd) (w : World) :
    Calls Try.prog 75 #[.agg #[.int .i64 b.lo, .int .i64 b.hi]] w fun e w' => e = .returned (.bool (okBnd 50 b)) ∧ Below w.heap.size w w' := by
  have hen := fun W => rends_any b (-50) 50 W
  go_enter Try.func75, Try.ntmps75
  go_wp2_with fail
  refine (hen _).mono ?_
  rintro e w3 ⟨rfl, hb1⟩
  go_wp2
  go_ret
  exact ⟨ret_bool (by simp [okBnd]), ((Below.refl _ _).alloc (Nat.le_refl _) _).trans (hb1.mono (by simp))⟩
theorem ok_pull {s : Strm} {l : List Bnd} (ho : okStrm s = true) (hl : okOffs s l = true) : (∀ x ∈ (bendL s l).map (·.lo), 0 ≤ x ∧ x ≤ 32768) ∧ (∀ x ∈ (bendL s l).map (·.hi), 0 ≤ x ∧ x ≤ 32768) := by
  have hh := ok_head ho
  have hla := okOffs_all hl
  constructor
  all_goals
    intro x hx
    obtain ⟨y, hy, rfl⟩ := List.mem_map.1 hx
    obtain ⟨k, hk⟩ := List.mem_iff_getElem?.1 hy
    have := bendL_bd hh hla hk
    omega
theorem sumB_lo : ∀ Z : List Bnd, (sumB Z).lo = sumI (Z.map (·.lo))
  | [] => rfl
  | z :: Z => by simp only [sumB, List.map_cons, sumI, sumB_lo Z]
theorem sumB_hi : ∀ Z : List Bnd, (sumB Z).hi = sumI (Z.map (·.hi))
  | [] => rfl
  | z :: Z => by simp only [sumB, List.map_cons, sumI, sumB_hi Z]
theorem zipB_lo (sl fa : Int) : ∀ (secs : List Sec) (bd : List Bnd), (List.zipWith (ownPull sl fa) secs bd).map (·.lo) = List.zipWith (ownI sl) secs (bd.map (·.lo))
  | [], _ => rfl
  | _ :: _, [] => rfl
  | x :: xs, b :: bs => by simp only [List.zipWith_cons_cons, List.map_cons, zipB_lo sl fa xs bs]; rfl
theorem zipB_hi (sl fa : Int) : ∀ (secs : List Sec) (bd : List Bnd), (List.zipWith (ownPull sl fa) secs bd).map (·.hi) = List.zipWith (ownI fa) secs (bd.map (·.hi))
  | [], _ => rfl
  | _ :: _, [] => rfl
  | x :: xs, b :: bs => by simp only [List.zipWith_cons_cons, List.map_cons, zipB_hi sl fa xs bs]; rfl
theorem pullZ_lo (sl fa : Int) (secs : List Sec) (bd : List Bnd) : (pullZ sl fa secs bd).map (·.lo) = pullI sl secs (bd.map (·.lo)) := by
  unfold pullZ pullI
  rw [List.map_map, List.length_map]
  refine List.map_congr_left fun i _ => ?_
  show (sumB ((List.zipWith (ownPull sl fa) secs bd).drop i)).lo = _
  rw [sumB_lo, List.map_drop, zipB_lo]
theorem pullZ_hi (sl fa : Int) (secs : List Sec) (bd : List Bnd) : (pullZ sl fa secs bd).map (·.hi) = pullI fa secs (bd.map (·.hi)) := by
  unfold pullZ pullI
  rw [List.map_map, List.length_map]
  refine List.map_congr_left fun i _ => ?_
  show (sumB ((List.zipWith (ownPull sl fa) secs bd).drop i)).hi = _
  rw [sumB_hi, List.map_drop, zipB_hi]
theorem pullL_len (s : Strm) (l : List Bnd) (v : Int) (cur : Bnd) : (pullL s l v cur).length = l.length := by simp [pullL]
set_option maxRecDepth 100000 in
set_option maxHeartbeats 1000000 in
theorem RBends_any (s : Strm) (A O : Option Addr) (n c no co B1 B : Nat) (l : List Bnd) (w : World) (hss : SlAt w B1 5 Sec.cells A n c s.secs) (hs : SlAt w B 2 Bnd.cells O no co l) :
    Calls Try.prog 26 #[.agg #[.int .i64 s.head, .slice A n c, .int .i64 s.lane.lo, .int .i64 s.lane.hi, .int .i64 s.bend], .slice O no co] w (RetSl 2 Bnd.cells (bendR s l) w) := by
  have hbg := fun W (hW : Below w.heap.size w W) => Rbegun_any s A O n c no co B1 B l W (hss.below hW) (hs.below hW)
  have hb0 := (Below.refl w.heap.size w).alloc (Nat.le_refl _) (.cells #[.int .i64 s.head, .slice A n c, .int .i64 s.lane.lo, .int .i64 s.lane.hi, .int .i64 s.bend] 26)
  have k0 := Blk.new w 26 #[.int .i64 s.head, .slice A n c, .int .i64 s.lane.lo, .int .i64 s.lane.hi, .int .i64 s.bend]
  by_cases h1 : errB s l = 0
  · simp only [h1] at hbg
    obtain ⟨e1, e2⟩ := errB_zero h1
    have hv : bendR s l = (bendL s l, 0) := by simp [bendR, h1]
    have hnn : n = no := by have := okOffs_len e2; have := hs.len; have := hss.len; omega
    subst hnn
    have hec := fun W (hW : Below w.heap.size w W) => Rbends_any s A O n c co B l W e1 e2 (hs.below hW)
    rw [hv]
    clear hv e1 e2 h1 hss hs
    replace hec := Lib.hid hec
    go_enter Try.func26, Try.ntmps26
    go_wp2_with fail
    refine (hbg _ hb0).mono ?_
    rintro e w2 ⟨rfl, hb1⟩
    have k3 := k0.below hb1
    have b1 := hb0.trans (hb1.mono (by simp))
    clear hb1 hbg k0 hb0
    obtain ⟨c3, f3, l3⟩ := k3.rules
    go_wp2_with fail
    refine (hec.out _ b1).mono ?_
    rintro e w4 ⟨P, pc, rfl, hr, hb1⟩
    go_wp2
    go_ret2
    exact ⟨P, n, pc, rfl, hr.mono b1.size, b1.trans (hb1.mono b1.size)⟩
  · have hv : bendR s l = ([], errB s l) := by simp [bendR, h1]
    rw [hv]
    generalize errB s l = er at *
    clear hv hss hs
    go_enter Try.func26, Try.ntmps26
    go_wp2_with fail
    refine (hbg _ hb0).mono ?_
    rintro e w2 ⟨rfl, hb1⟩
    have b1 := hb0.trans (hb1.mono (by simp))
    clear hb1 hbg k0 hb0
    go_wp2
    go_ret2
    exact RetSl.none_ b1
end Go.Proofs.Ytjiaepphnddpoaa
