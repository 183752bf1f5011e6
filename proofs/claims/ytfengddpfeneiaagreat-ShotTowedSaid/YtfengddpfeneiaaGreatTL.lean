/-
  Walks: paravaneref05.Ways.
  Walks: paravanelaw05.chosen; a chosen place lies between the extremes.
  A ship that heads along an axis: how far its nodes have come (the plain law of ShotTowed). Nothing of the program stands here.
-/
import Derived.Test.YtfengddpfeneiaaGreatTZ
import Derived.Test.YtfengddpfeneiaaGreatTM
import Derived.Test.YtfengddpfeneiaaGreatTG
namespace Go.Proofs.YtfengddpfeneiaaGreat
open Go.RowKit Go.Shelf
set_option linter.unusedSimpArgs false
set_option linter.unusedVariables false

theorem addP_some (o : Option Reg) (p : Pnt) : (addP o p).isSome = true := by cases o <;> rfl
theorem hull_some : ∀ (l : List Pnt) (o : Option Reg), (l.foldl addP o).isSome = (o.isSome || !l.isEmpty)
  | [], o => by simp
  | p :: l, o => by rw [List.foldl_cons, hull_some l, addP_some]; simp
theorem rowPts_ne (q : RRow) : (rowPts q).isEmpty = false := by unfold rowPts; split <;> rfl
theorem pts_ne : ∀ (l : List RRow), (l.flatMap rowPts).isEmpty = l.isEmpty
  | [] => rfl
  | q :: l => by
    rw [List.flatMap_cons]
    have h := rowPts_ne q
    cases hq : rowPts q with
    | nil => rw [hq] at h; cases h
    | cons a b => rfl
theorem has_tight (h : Hdg) (r : Reg) : hasPl h r = (tightO r).isSome := by
  unfold hasPl tightO hullL extO ptsL
  rw [hull_some, ext_some, pts_ne]
  simp
end Go.Proofs.YtfengddpfeneiaaGreat
namespace Go.Proofs.YtfengddpfeneiaaGreat
open Go.RowKit Go.Shelf
set_option linter.unusedSimpArgs false
set_option linter.unusedVariables false

end Go.Proofs.YtfengddpfeneiaaGreat
namespace Go.Proofs.YtfengddpfeneiaaGreat
open Go.RowKit
set_option linter.unusedSimpArgs false
set_option linter.unusedVariables false

def axis : Nat → Hdg
  | 0 => ⟨1, 0, 1⟩
  | 1 => ⟨0, 1, 1⟩
  | 2 => ⟨-1, 0, 1⟩
  | _ => ⟨0, -1, 1⟩
def axisR : Nat → Reg → Reg
  | 0, t => t
  | 1, t => quarR t
  | 2, t => negR t
  | _, t => quarR (negR t)
theorem turned_back {t : Reg} (h : TightR t) : turnedS t ⟨0, -1, 1⟩ = quarR (negR t) := by
  unfold turnedS
  dsimp only
  rw [turnB_one, turnB_one, turnB_one, turnB_one]
  obtain ⟨p1, i1, e1⟩ := h.xlo
  obtain ⟨p2, i2, e2⟩ := h.xhi
  obtain ⟨p3, i3, e3⟩ := h.ylo
  obtain ⟨p4, i4, e4⟩ := h.yhi
  obtain ⟨p5, i5, e5⟩ := h.slo
  obtain ⟨p6, i6, e6⟩ := h.shi
  obtain ⟨p7, i7, e7⟩ := h.dlo
  obtain ⟨p8, i8, e8⟩ := h.dhi
  unfold quarR negR negB
  dsimp only
  have x : extB t 0 (- -1) = ⟨- -t.y.lo, - -t.y.hi⟩ := ext_eq ⟨p3, i3, by dsimp only; omega⟩ ⟨p4, i4, by dsimp only; omega⟩ fun v hv => by unfold inR inB at *; dsimp only; omega
  have y : extB t (-1) 0 = ⟨-t.x.hi, -t.x.lo⟩ := ext_eq ⟨p2, i2, by dsimp only; omega⟩ ⟨p1, i1, by dsimp only; omega⟩ fun v hv => by unfold inR inB at *; dsimp only; omega
  have s : extB t (0 + -1) (0 - -1) = ⟨-t.d.hi, -t.d.lo⟩ := ext_eq ⟨p8, i8, by dsimp only; omega⟩ ⟨p7, i7, by dsimp only; omega⟩ fun v hv => by unfold inR inB at *; dsimp only; omega
  have d : extB t (0 - -1) (- -1 - 0) = ⟨- -t.s.lo, - -t.s.hi⟩ := ext_eq ⟨p5, i5, by dsimp only; omega⟩ ⟨p6, i6, by dsimp only; omega⟩ fun v hv => by unfold inR inB at *; dsimp only; omega
  rw [x, y, s, d]
theorem axis_turn {t : Reg} (h : TightR t) : ∀ i, turnedS t (axis i) = axisR i t
  | 0 => turned_none h
  | 1 => turned_quarter h
  | 2 => turned_half h
  | _ + 3 => turned_back h
theorem axis_tight {t : Reg} (h : TightR t) : ∀ i, TightR (axisR i t)
  | 0 => h
  | 1 => tight_quar h
  | 2 => tight_neg h
  | _ + 3 => tight_quar (tight_neg h)
theorem axis_ok {t : Reg} (h : okReg t = true) : ∀ i, okReg (axisR i t) = true
  | 0 => h
  | 1 => quar_ok h
  | 2 => negR_ok h
  | _ + 3 => quar_ok (negR_ok h)
theorem axis_hdg : ∀ i, okHdg (axis i) = true
  | 0 => by decide
  | 1 => by decide
  | 2 => by decide
  | _ + 3 => by show okHdg ⟨0, -1, 1⟩ = true; decide
/-- Where a ship is after k steps along an axis. -/
def goS (p : Pnt) (i : Nat) (k : Int) : Pnt := ⟨p.x + k * (axis i).p, p.y + k * (axis i).q⟩
theorem moved_ext {t : Reg} (h : TightR t) (p : Pnt) : ∀ (i : Nat), extB (zipR plusB (axisR i t) (ofP p)) (axis i).p (axis i).q = ⟨(axis i).p * p.x + (axis i).q * p.y + t.x.lo, (axis i).p * p.x + (axis i).q * p.y + t.x.hi⟩ := by
  obtain ⟨p1, i1, e1⟩ := h.xlo
  obtain ⟨p2, i2, e2⟩ := h.xhi
  intro i
  match i with
  | 0 =>
    refine ext_eq ⟨⟨p1.x + p.x, p1.y + p.y⟩, ?_, ?_⟩ ⟨⟨p2.x + p.x, p2.y + p.y⟩, ?_, ?_⟩ fun v hv => ?_
    all_goals (simp only [axis, axisR, zipR, plusB, ofP, still, inR, inB] at *; omega)
  | 1 =>
    refine ext_eq ⟨⟨-p1.y + p.x, p1.x + p.y⟩, ?_, ?_⟩ ⟨⟨-p2.y + p.x, p2.x + p.y⟩, ?_, ?_⟩ fun v hv => ?_
    all_goals (simp only [axis, axisR, zipR, plusB, ofP, still, inR, inB, quarR, negB] at *; omega)
  | 2 =>
    refine ext_eq ⟨⟨-p1.x + p.x, -p1.y + p.y⟩, ?_, ?_⟩ ⟨⟨-p2.x + p.x, -p2.y + p.y⟩, ?_, ?_⟩ fun v hv => ?_
    all_goals (simp only [axis, axisR, zipR, plusB, ofP, still, inR, inB, negR, negB] at *; omega)
  | _ + 3 =>
    refine ext_eq ⟨⟨p1.y + p.x, -p1.x + p.y⟩, ?_, ?_⟩ ⟨⟨p2.y + p.x, -p2.x + p.y⟩, ?_, ?_⟩ fun v hv => ?_
    all_goals (simp only [axis, axisR, zipR, plusB, ofP, still, inR, inB, quarR, negR, negB] at *; omega)
/-- The bounds of the way to a node of a ship that is k steps ahead. -/
theorem moved_way {t : Reg} (h : TightR t) (p : Pnt) (i : Nat) (k : Int) : wayB p (axis i) (zipR plusB (axisR i t) (ofP (goS p i k))) = ⟨max 0 (k + t.x.lo), max 0 (k + t.x.hi)⟩ := by
  unfold wayB spanW
  rw [moved_ext h]
  match i with
  | 0 => simp only [axis, goS, floorS_one, ceilS_one]; rw [Bnd.mk.injEq]; omega
  | 1 => simp only [axis, goS, floorS_one, ceilS_one]; rw [Bnd.mk.injEq]; omega
  | 2 => simp only [axis, goS, floorS_one, ceilS_one]; rw [Bnd.mk.injEq]; omega
  | _ + 3 => simp only [axis, goS, floorS_one, ceilS_one]; rw [Bnd.mk.injEq]; omega
theorem moved_in {t : Reg} {v p : Pnt} (hv : inR v t) : inR ⟨v.x + p.x, v.y + p.y⟩ (zipR plusB t (ofP p)) := by
  unfold inR inB zipR plusB ofP still at *
  dsimp only
  omega
theorem moved_ok {t : Reg} {p : Pnt} (h : TightR t) (hx : okBnd 32768 (zipR plusB t (ofP p)).x = true) (hy : okBnd 32768 (zipR plusB t (ofP p)).y = true) : okReg (zipR plusB t (ofP p)) = true ∧ ∃ v, inR v (zipR plusB t (ofP p)) := by
  obtain ⟨p1, i1, e1⟩ := h.xlo
  obtain ⟨p5, i5, e5⟩ := h.slo
  obtain ⟨p6, i6, e6⟩ := h.shi
  obtain ⟨p7, i7, e7⟩ := h.dlo
  obtain ⟨p8, i8, e8⟩ := h.dhi
  have a5 := moved_in (p := p) i5
  have a6 := moved_in (p := p) i6
  have a7 := moved_in (p := p) i7
  have a8 := moved_in (p := p) i8
  refine ⟨?_, _, moved_in i1⟩
  rw [okReg_iff]
  unfold okBnd at hx hy
  have hx := of_decide_eq_true hx
  have hy := of_decide_eq_true hy
  unfold inR inB zipR plusB ofP still at *
  dsimp only at *
  omega
/-- The place of a node of a ship that heads along an axis. -/
theorem place_axis {s : Strm} {bs : List Bnd} (hs : okStrm s = true) (hb : okOffs s bs = true) {ship : Pnt} (hp : okPnt ship = true) (i : Nat) {j : Nat} (hj : j < bs.length) :
    placeR ship (axis i) (nodeR s bs j) = insideR (zipR plusB (axisR i (nodeR s bs j)) (ofP ship)) := by
  obtain ⟨h1, h2, h3⟩ := node_tight hs hb hj
  unfold placeR
  rw [axis_turn h1, moveR_tight (axis_tight h1 i) (axis_ok h2 i) hp, if_pos (ok_plane (axis_ok h2 i))]
theorem whereE_axis {s : Strm} {bs : List Bnd} {ship : Pnt} (hs : okStrm s = true) (hb : okOffs s bs = true) (hp : okPnt ship = true) (i : Nat) : ∀ n, n ≤ bs.length → whereE ship (axis i) (nodesL s bs) n = 0 ∨ whereE ship (axis i) (nodesL s bs) n = 7
  | 0, _ => .inl rfl
  | n + 1, h => by
    rcases whereE_axis hs hb hp i n (by omega) with q | q
    · have hg : (nodesL s bs).getD n noReg = nodeR s bs n := by rw [List.getD_eq_getElem?_getD, nodesL_at s bs (by omega)]; rfl
      rw [whereE, if_pos q, hg, place_axis hs hb hp i (by omega)]
      rcases insideR_vals (zipR plusB (axisR i (nodeR s bs n)) (ofP ship)) with z | z
      · rw [z]; exact .inl rfl
      · rw [z]; exact .inr rfl
    · rw [whereE, if_neg (by rw [q]; decide)]; exact .inr q
def farL (s : Strm) (bs : List Bnd) (p : Pnt) (i : Nat) : List Reg := (List.range bs.length).map fun j => zipR plusB (axisR i (nodeR s bs j)) (ofP p)
def comeL (s : Strm) (bs : List Bnd) (k : Int) : List Bnd := (List.range bs.length).map fun j => ⟨max 0 (k + (nodeR s bs j).x.lo), max 0 (k + (nodeR s bs j).x.hi)⟩
theorem where_no {s : Strm} {bs : List Bnd} {p : Pnt} {h : Hdg} (he : errB s bs ≠ 0) : whereR s bs p h = ([], errB s bs) := by unfold whereR; rw [if_neg he]
theorem where_out {s : Strm} {bs : List Bnd} {p : Pnt} {h : Hdg} (he : errB s bs = 0) (hp : ¬ okPnt p = true) : whereR s bs p h = ([], 10) := by unfold whereR; rw [if_pos he, if_neg hp]
/-- Where says the nodes' regions, or that they are beyond the plane. -/
theorem where_axis {s : Strm} {bs : List Bnd} {p : Pnt} (he : errB s bs = 0) (hp : okPnt p = true) (i : Nat) :
    whereR s bs p (axis i) = ([], 7) ∨ (whereR s bs p (axis i) = (farL s bs p i, 0) ∧ ∀ j, j < bs.length → okReg (zipR plusB (axisR i (nodeR s bs j)) (ofP p)) = true ∧ ∃ v, inR v (zipR plusB (axisR i (nodeR s bs j)) (ofP p))) := by
  obtain ⟨hs, hb⟩ := errB_zero he
  have hl : (nodesL s bs).length = bs.length := by rw [nodesL, List.length_map, List.length_range]
  have hu : whereR s bs p (axis i) = whereN p (axis i) (nodesL s bs) := by unfold whereR; rw [if_pos he, if_pos hp, if_pos (axis_hdg i)]
  rw [hu]
  unfold whereN
  rw [hl]
  rcases whereE_axis hs hb hp i bs.length (Nat.le_refl _) with q | q
  · right
    rw [if_pos q]
    have one : ∀ j, j < bs.length → placeR p (axis i) ((nodesL s bs).getD j noReg) = (zipR plusB (axisR i (nodeR s bs j)) (ofP p), 0) ∧ okReg (zipR plusB (axisR i (nodeR s bs j)) (ofP p)) = true ∧ ∃ v, inR v (zipR plusB (axisR i (nodeR s bs j)) (ofP p)) := by
      intro j hj
      have hg : (nodesL s bs).getD j noReg = nodeR s bs j := by rw [List.getD_eq_getElem?_getD, nodesL_at s bs hj]; rfl
      have h0 := (whereE_zero bs.length).1 q j hj
      rw [hg] at h0 ⊢
      rw [place_axis hs hb hp i hj] at h0 ⊢
      obtain ⟨h1, h2, h3⟩ := node_tight hs hb hj
      have hm := moved_ok (p := p) (axis_tight h1 i)
      generalize zipR plusB (axisR i (nodeR s bs j)) (ofP p) = R at *
      unfold insideR at h0 ⊢
      by_cases hc : okBnd 32768 R.x = true ∧ okBnd 32768 R.y = true
      · rw [if_pos hc]
        exact ⟨rfl, hm hc.1 hc.2⟩
      · rw [if_neg hc] at h0
        exact absurd h0 (by decide)
    refine ⟨?_, fun j hj => (one j hj).2⟩
    rw [Prod.mk.injEq]
    refine ⟨?_, rfl⟩
    unfold whereTo farL
    exact List.map_congr_left fun j hj => by rw [(one j (List.mem_range.1 hj)).1]
  · left
    rw [if_neg (by rw [q]; decide), q]
/-- Ways says how far the nodes have come. -/
theorem come_said {s : Strm} {bs : List Bnd} {p : Pnt} (he : errB s bs = 0) (hp : okPnt p = true) (i : Nat) (k : Int)
    (ha : ∀ j, j < bs.length → okReg (zipR plusB (axisR i (nodeR s bs j)) (ofP (goS p i k))) = true ∧ ∃ v, inR v (zipR plusB (axisR i (nodeR s bs j)) (ofP (goS p i k)))) :
    waysR p (axis i) (farL s bs (goS p i k) i) = (comeL s bs k, 0) := by
  obtain ⟨hs, hb⟩ := errB_zero he
  have hlen : bs.length = s.secs.length := okOffs_len hb
  have hn8 := ok_head hs
  unfold headOk at hn8
  have hL : (farL s bs (goS p i k) i).length = bs.length := by simp [farL]
  have hall : (farL s bs (goS p i k) i).all okReg = true := by
    rw [List.all_eq_true]
    intro x hx
    obtain ⟨j, hj, rfl⟩ := List.mem_map.1 hx
    exact (ha j (List.mem_range.1 hj)).1
  have hall2 : (farL s bs (goS p i k) i).all (hasPl (axis i)) = true := by
    rw [List.all_eq_true]
    intro x hx
    obtain ⟨j, hj, rfl⟩ := List.mem_map.1 hx
    obtain ⟨v, hv⟩ := (ha j (List.mem_range.1 hj)).2
    obtain ⟨t, ht, -⟩ := tight_has hv
    rw [has_tight, ht]
    rfl
  unfold waysR waysT
  rw [if_pos hp, if_pos (axis_hdg i), hL, if_pos (by omega), if_pos hall, if_pos hall2, Prod.mk.injEq]
  refine ⟨?_, rfl⟩
  unfold farL comeL
  rw [List.map_map]
  exact List.map_congr_left fun j hj => moved_way (node_tight hs hb (List.mem_range.1 hj)).1 p i k
theorem goS_zero (p : Pnt) (i : Nat) : goS p i 0 = p := by unfold goS; rw [Int.zero_mul, Int.zero_mul, Int.add_zero, Int.add_zero]
theorem come_none {s : Strm} {bs : List Bnd} (he : errB s bs = 0) : comeL s bs 0 = (List.range bs.length).map fun _ => (⟨0, 0⟩ : Bnd) := by
  obtain ⟨hs, hb⟩ := errB_zero he
  unfold comeL
  refine List.map_congr_left fun j hj => ?_
  obtain ⟨h1, h2, h3⟩ := node_tight hs hb (List.mem_range.1 hj)
  rw [okReg_iff] at h2
  rw [Bnd.mk.injEq]
  omega
end Go.Proofs.YtfengddpfeneiaaGreat
