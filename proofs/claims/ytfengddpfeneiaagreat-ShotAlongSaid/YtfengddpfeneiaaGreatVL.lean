/-
  Walks: paravaneref05.Ways.
  Walks: paravanelaw05.chosen; a chosen place lies between the extremes.
  The law ShotAlong.
-/
import Derived.Test.YtfengddpfeneiaaGreatVZ
import Derived.Test.YtfengddpfeneiaaGreatVR
import Derived.Test.YtfengddpfeneiaaGreatVM
import Derived.Test.YtfengddpfeneiaaGreatVG
import Derived.Test.YtfengddpfeneiaaGreatS28
namespace Go.Proofs.YtfengddpfeneiaaGreat
open Go.RowKit Go.Shelf
set_option linter.unusedSimpArgs false
set_option linter.unusedVariables false

theorem addP_some (o : Option Reg) (p : Pnt) : (addP o p).isSome = true := by cases o <;> rfl
theorem hull_some : ∀ (l : List Pnt) (o : Option Reg), (l.foldl addP o).isSome = (o.isSome || !l.isEmpty)
  | [], o => by simp
  | p :: l, o => by rw [List.foldl_cons, hull_some l, addP_some]; simp
theorem rowPts_ne (q : RRow) : (rowPts q).isEmpty = false := by unfold rowPts; split <;> rfl
theorem pts_ne : ∀ (l : List RRow), (l.flatMap rowPts).isEmpty = l.isEmpty
  | [] => rfl
  | q :: l => by
    rw [List.flatMap_cons]
    have h := rowPts_ne q
    cases hq : rowPts q with
    | nil => rw [hq] at h; cases h
    | cons a b => rfl
theorem has_tight (h : Hdg) (r : Reg) : hasPl h r = (tightO r).isSome := by
  unfold hasPl tightO hullL extO ptsL
  rw [hull_some, ext_some, pts_ne]
  simp
end Go.Proofs.YtfengddpfeneiaaGreat
namespace Go.Proofs.YtfengddpfeneiaaGreat
open Go.RowKit Go.Shelf
set_option linter.unusedSimpArgs false
set_option linter.unusedVariables false

set_option maxRecDepth 100000 in
set_option maxHeartbeats 2000000 in
theorem chosen5_any (r t : Reg) (a b : Int) (w : World) (hr : okReg r = true) (ht : tightO r = some t) :
    Calls Tryz.prog 11 #[.agg (regA r), .int .i64 a, .int .i64 b] w fun e w' => e = .returned (.tuple #[.agg #[.int .i64 (chosenP t a b).x, .int .i64 (chosenP t a b).y], .bool true]) ∧ Below w.heap.size w w' := by
  have hti := fun W => Tight_any r W
  have e1 : tightR r = (t, 0) := by rw [tightR, if_pos hr, ht]; rfl
  simp only [e1] at hti
  have hok := okReg_iff.1 (tight_ok hr ht)
  have hT := tight_tight ht
  have hx := restS_bd a (many := t.x.hi - t.x.lo + 1) (by omega)
  have hrow := tight_row hT (x := t.x.lo + restS a (t.x.hi - t.x.lo + 1)) (by omega) (by omega)
  have hc : chosenP t a b = ⟨t.x.lo + restS a (t.x.hi - t.x.lo + 1), (rowB t (t.x.lo + restS a (t.x.hi - t.x.lo + 1))).fr + restS b ((rowB t (t.x.lo + restS a (t.x.hi - t.x.lo + 1))).to - (rowB t (t.x.lo + restS a (t.x.hi - t.x.lo + 1))).fr + 1)⟩ := rfl
  rw [hc]
  have hR1 := fun W => Rest_any a (t.x.hi - t.x.lo + 1) W (by omega)
  have u1 := IntWalk.i64_in (t.x.hi - t.x.lo) (by omega)
  have u2 := IntWalk.i64_in (t.x.hi - t.x.lo + 1) (by omega)
  have hfr : (rowB t (t.x.lo + restS a (t.x.hi - t.x.lo + 1))).fr = max t.y.lo (max (t.s.lo - (t.x.lo + restS a (t.x.hi - t.x.lo + 1))) (t.x.lo + restS a (t.x.hi - t.x.lo + 1) - t.d.hi)) := rfl
  have hto : (rowB t (t.x.lo + restS a (t.x.hi - t.x.lo + 1))).to = min t.y.hi (min (t.s.hi - (t.x.lo + restS a (t.x.hi - t.x.lo + 1))) (t.x.lo + restS a (t.x.hi - t.x.lo + 1) - t.d.lo)) := rfl
  have hxb : -32768 ≤ t.x.lo + restS a (t.x.hi - t.x.lo + 1) ∧ t.x.lo + restS a (t.x.hi - t.x.lo + 1) ≤ 32768 := by omega
  generalize rowB t (t.x.lo + restS a (t.x.hi - t.x.lo + 1)) = q at *
  generalize restS a (t.x.hi - t.x.lo + 1) = k at *
  obtain ⟨x, hX⟩ : ∃ x, t.x.lo + k = x := ⟨_, rfl⟩
  rw [hX] at hfr hto hxb ⊢
  obtain ⟨qx, fr, tq⟩ := q
  dsimp only at hfr hto hrow ⊢
  have hw3 : Hid (wrap64 (t.x.lo + k) = x) := by show _ = _; rw [hX]; unfold wrap64; omega
  replace hX := Lib.hid hX
  have v1 := IntWalk.i64_in (t.s.lo - x) (by omega)
  have v2 := IntWalk.i64_in (x - t.d.hi) (by omega)
  have v3 := IntWalk.i64_in (t.s.hi - x) (by omega)
  have v4 := IntWalk.i64_in (x - t.d.lo) (by omega)
  have hmax3 := max3_int
  have hmin3 := min3_int
  have hfb : -200000 ≤ fr ∧ fr ≤ 200000 ∧ -200000 ≤ tq ∧ tq ≤ 200000 := by omega
  have hR2 := fun W => Rest_any b (tq - fr + 1) W (by omega)
  have hy := restS_bd b (many := tq - fr + 1) (by omega)
  replace hfr := hfr.symm
  replace hto := hto.symm
  simp only [regA] at hti ⊢
  clear hx hT hok e1 hc hr ht
  replace v1 := Lib.hid v1
  replace v2 := Lib.hid v2
  replace v3 := Lib.hid v3
  replace v4 := Lib.hid v4
  replace hfr := Lib.hid hfr
  replace hto := Lib.hid hto
  obtain ⟨w1, hw1⟩ : ∃ w1, w1 = (w.alloc (.cells #[.int .i64 r.x.lo, .int .i64 r.x.hi, .int .i64 r.y.lo, .int .i64 r.y.hi, .int .i64 r.s.lo, .int .i64 r.s.hi, .int .i64 r.d.lo, .int .i64 r.d.hi] 42)).alloc (.cells #[.int .i64 0, .int .i64 0] 23) := ⟨_, rfl⟩
  have k3 : Blk w1 w.heap.size 42 #[.int .i64 r.x.lo, .int .i64 r.x.hi, .int .i64 r.y.lo, .int .i64 r.y.hi, .int .i64 r.s.lo, .int .i64 r.s.hi, .int .i64 r.d.lo, .int .i64 r.d.hi] := by rw [hw1]; exact (Blk.new _ _ _).alloc _
  have k6 : Blk w1 (w.heap.size + 1) 23 #[.int .i64 0, .int .i64 0] := by rw [hw1]; exact Blk.newAt (by simp)
  have hb : Below w.heap.size w w1 := by rw [hw1]; exact ((Below.refl _ _).alloc (Nat.le_refl _) _).alloc (by simp) _
  go_enter Tryz.func11, Tryz.ntmps11
  go_wp2_with fail
  rw [← hw1]
  clear hw1
  refine (hti _).mono ?_
  rintro e W ⟨rfl, hbel⟩
  replace k3 := k3.below hbel
  replace k6 := k6.below hbel
  replace hb := hb.trans (hbel.mono hb.size)
  clear hbel
  go_wp2_with fail
  have k8 := Blk.new W 42 #[.int .i64 t.x.lo, .int .i64 t.x.hi, .int .i64 t.y.lo, .int .i64 t.y.hi, .int .i64 t.s.lo, .int .i64 t.s.hi, .int .i64 t.d.lo, .int .i64 t.d.hi]
  have hbel := (Below.refl W.heap.size W).alloc (Nat.le_refl _) (.cells #[.int .i64 t.x.lo, .int .i64 t.x.hi, .int .i64 t.y.lo, .int .i64 t.y.hi, .int .i64 t.s.lo, .int .i64 t.s.hi, .int .i64 t.d.lo, .int .i64 t.d.hi] 42)
  have hg8 : w.heap.size + 1 < W.heap.size := k6.lt
  replace k3 := k3.below hbel
  replace k6 := k6.below hbel
  replace hb := hb.trans (hbel.mono hb.size)
  clear hbel
  generalize W.alloc (.cells #[.int .i64 t.x.lo, .int .i64 t.x.hi, .int .i64 t.y.lo, .int .i64 t.y.hi, .int .i64 t.s.lo, .int .i64 t.s.hi, .int .i64 t.d.lo, .int .i64 t.d.hi] 42) = W2 at *
  generalize W.heap.size = g8 at *
  obtain ⟨c8, f8, l8⟩ := k8.rules
  go_quiet ((go_at_call 15; with_reducible exact Calls.quiet_of_same (flip_w (hR1 _))))
  clear c8 f8 l8 u1 u2 hR1
  rw [hw3.out]
  replace k8 := k8.drewN nq
  replace k6 := k6.drewN nq
  replace hb := below_drewN hb nq
  generalize W2.drewN nq = W3 at *
  have v1 := v1.out
  have v2 := v2.out
  have v3 := v3.out
  have v4 := v4.out
  have hfr := hfr.out
  have hto := hto.out
  obtain ⟨c8, f8, l8⟩ := k8.rules
  go_wp2_with fail
  go_quiet (fail)
  try rw [hfr]
  try rw [hto]
  clear c8 f8 l8 v1 v2 v3 v4 hfr hto k8 k3
  replace k6 := k6.drewN nq
  replace hb := below_drewN hb nq
  generalize W3.drewN nq = W4 at *
  go_wp2_with fail
  refine (hR2 _).mono ?_
  clear hR2
  rintro e W' ⟨rfl, rfl⟩
  have kz := (k6.set_ 0 (.int .i64 x)).set_ 1 (.int .i64 (fr + restS b (tq - fr + 1)))
  simp only [List.setIfInBounds_toArray, List.set_cons_zero, List.set_cons_succ] at kz
  have bz := (hb.setCell (p := ⟨w.heap.size + 1, 0, none⟩) (by dsimp only; omega) (.int .i64 x)).setCell (p := ⟨w.heap.size + 1, 1, none⟩) (by dsimp only; omega) (.int .i64 (fr + restS b (tq - fr + 1)))
  obtain ⟨wz, hwz⟩ : ∃ q, q = (W4.setCell ⟨w.heap.size + 1, 0, none⟩ (.int .i64 x)).setCell ⟨w.heap.size + 1, 1, none⟩ (.int .i64 (fr + restS b (tq - fr + 1))) := ⟨_, rfl⟩
  rw [← hwz] at kz bz
  obtain ⟨c6, f6, l6⟩ := k6.rules
  clear k6 hb
  go_wp2
  rw [← hwz]
  clear hwz c6 f6 l6
  obtain ⟨c6, f6, l6⟩ := kz.rules
  exact bodyPost_ret (v := .tuple #[.agg #[.int .i64 x, .int .i64 (fr + restS b (tq - fr + 1))], .bool true]) (by simp [results, Tryz.results11, go_sem, c6]) rfl ⟨rfl, bz⟩

theorem floor_mono {a b c : Int} (hc : 1 ≤ c) (h : a ≤ b) : floorS a c ≤ floorS b c := Int.ediv_le_ediv (by omega) h
theorem ceil_mono {a b c : Int} (hc : 1 ≤ c) (h : a ≤ b) : ceilS a c ≤ ceilS b c := by
  have := floor_mono hc (show -b ≤ -a by omega)
  unfold ceilS
  unfold floorS at this
  omega
theorem waysR_no {p : Pnt} {h : Hdg} {l : List Reg} (k : (waysR p h l).2 ≠ 0) : (waysR p h l).1 = [] := by
  unfold waysR waysT at *
  by_cases h1 : okPnt p = true
  · rw [if_pos h1] at k ⊢
    by_cases h2 : okHdg h = true
    · rw [if_pos h2] at k ⊢
      by_cases h3 : 1 ≤ l.length ∧ l.length ≤ 512
      · rw [if_pos h3] at k ⊢
        by_cases h4 : l.all okReg = true
        · rw [if_pos h4] at k ⊢
          by_cases h5 : l.all (hasPl h) = true
          · rw [if_pos h5] at k
            exact absurd rfl k
          · rw [if_neg h5]
        · rw [if_neg h4]
      · rw [if_neg h3]
    · rw [if_neg h2]
  · rw [if_neg h1]
theorem waysR_yes {p : Pnt} {h : Hdg} {l : List Reg} (k : (waysR p h l).2 = 0) : okPnt p = true ∧ okHdg h = true ∧ (1 ≤ l.length ∧ l.length ≤ 512) ∧ l.all okReg = true ∧ l.all (hasPl h) = true ∧ (waysR p h l).1 = l.map (wayB p h) := by
  unfold waysR at *
  by_cases h1 : okPnt p = true
  · rw [if_pos h1] at k ⊢
    by_cases h2 : okHdg h = true
    · rw [if_pos h2] at k ⊢
      by_cases h3 : 1 ≤ l.length ∧ l.length ≤ 512
      · rw [if_pos h3] at k ⊢
        unfold waysT at *
        by_cases h4 : l.all okReg = true
        · rw [if_pos h4] at k ⊢
          by_cases h5 : l.all (hasPl h) = true
          · rw [if_pos h5]
            exact ⟨h1, h2, h3, h4, h5, rfl⟩
          · rw [if_neg h5] at k
            exact absurd k (by decide)
        · rw [if_neg h4] at k
          exact absurd k (by decide)
      · rw [if_neg h3] at k
        exact absurd k (by decide)
    · rw [if_neg h2] at k
      exact absurd k (by decide)
  · rw [if_neg h1] at k
    exact absurd k (by decide)
/-- A place of the region: its distance along the heading lies between the bounds. -/
theorem along_of {p : Pnt} {h : Hdg} {r : Reg} {v : Pnt} (hh : okHdg h = true) (hv : inR v r) :
    (wayB p h r).lo ≤ max 0 (floorS (h.p * (v.x - p.x) + h.q * (v.y - p.y)) h.c) ∧ max 0 (ceilS (h.p * (v.x - p.x) + h.q * (v.y - p.y)) h.c) ≤ (wayB p h r).hi := by
  obtain ⟨⟨c1, c2⟩, -, -⟩ := hdg_bd hh
  have E := (ext_spec h.p h.q ⟨v, hv⟩).has v hv
  unfold inB at E
  have e : h.p * (v.x - p.x) + h.q * (v.y - p.y) = h.p * v.x + h.q * v.y - (h.p * p.x + h.q * p.y) := by rw [Int.mul_sub, Int.mul_sub]; omega
  rw [e]
  have m1 := floor_mono c1 (show (extB r h.p h.q).lo - (h.p * p.x + h.q * p.y) ≤ h.p * v.x + h.q * v.y - (h.p * p.x + h.q * p.y) by omega)
  have m2 := ceil_mono c1 (show h.p * v.x + h.q * v.y - (h.p * p.x + h.q * p.y) ≤ (extB r h.p h.q).hi - (h.p * p.x + h.q * p.y) by omega)
  show max 0 (floorS ((extB r h.p h.q).lo - (h.p * p.x + h.q * p.y)) h.c) ≤ _ ∧ _ ≤ max 0 (ceilS ((extB r h.p h.q).hi - (h.p * p.x + h.q * p.y)) h.c)
  omega
theorem place_of {h : Hdg} {r : Reg} (hr : okReg r = true) (k : hasPl h r = true) : ∃ t, tightO r = some t ∧ ∀ a b, inR (chosenP t a b) r := by
  rw [has_tight] at k
  obtain ⟨t, ht⟩ := Option.isSome_iff_exists.1 k
  exact ⟨t, ht, fun a b => tight_of ht (chosen_in (tight_tight ht) a b)⟩
theorem place_bd {r : Reg} {v : Pnt} (hr : okReg r = true) (hv : inR v r) : (-32768 ≤ v.x ∧ v.x ≤ 32768) ∧ (-32768 ≤ v.y ∧ v.y ≤ 32768) := by
  obtain ⟨⟨x1, x2, x3⟩, ⟨y1, y2, y3⟩, -, -⟩ := okReg_iff.1 hr
  unfold inR inB at hv
  omega
end Go.Proofs.YtfengddpfeneiaaGreat
namespace Go.Proofs.YtfengddpfeneiaaGreat
open Go.RowKit Go.Shelf
set_option linter.unusedSimpArgs false
set_option linter.unusedVariables false

set_option maxRecDepth 100000 in
set_option maxHeartbeats 4000000 in
theorem ShotAlong_any (p : Pnt) (h : Hdg) (L D : Option Addr) (n c nd cd : Nat) (l : List Reg) (ds : List Int) (w : World) (hL : SlAt w 0 8 Reg.cells L n c l) (hD : SlAt w 0 1 ivs D nd cd ds) :
    Calls Tryz.prog 4 #[.agg #[.int .i64 p.x, .int .i64 p.y, .int .i64 h.p, .int .i64 h.q, .int .i64 h.c], .slice L n c, .slice D nd cd] w fun e w' => e = .returned (.bool true) ∧ Below w.heap.size w w' := by
  have h1 := fun W g => Ways_any p h l L n c 0 W g
  have hll := Lib.hid hL.len
  unfold RetSl at h1
  obtain ⟨w1, hw1⟩ : ∃ w1, w1 = w.alloc (.cells #[.int .i64 p.x, .int .i64 p.y, .int .i64 h.p, .int .i64 h.q, .int .i64 h.c] 27) := ⟨_, rfl⟩
  have k3 : Blk w1 w.heap.size 27 #[.int .i64 p.x, .int .i64 p.y, .int .i64 h.p, .int .i64 h.q, .int .i64 h.c] := by rw [hw1]; exact Blk.new _ _ _
  have b : Below w.heap.size w w1 := by rw [hw1]; exact (Below.refl _ _).alloc (Nat.le_refl _) _
  have hL1 : SlAt w1 0 8 Reg.cells L n c l := by rw [hw1]; exact hL.alloc _
  have hD1 : SlAt w1 0 1 ivs D nd cd ds := by rw [hw1]; exact hD.alloc _
  clear hL hD
  by_cases hz : (waysR p h l).2 = 0
  · obtain ⟨hp, hh, ⟨hn1, hn2⟩, hok, hpl, hv⟩ := waysR_yes hz
    simp only [hz, hv] at h1
    rw [hll.out] at hn1 hn2
    have hokx := Lib.hid (fun (i : Nat) (x : Reg) (hx : l[i]? = some x) => List.all_eq_true.1 hok x (List.mem_of_getElem? hx))
    have hplx := Lib.hid (fun (i : Nat) (x : Reg) (hx : l[i]? = some x) => List.all_eq_true.1 hpl x (List.mem_of_getElem? hx))
    have hhb := hdg_bd hh
    have hpb := pnt_bd hp
    replace hh := Lib.hid hh
    clear hz hv hok hpl hp
    go_enter Tryz.func4, Tryz.ntmps4
    go_wp2_with fail
    rw [← hw1]
    clear hw1
    obtain ⟨c3, f3, l3⟩ := k3.rules
    go_wp2_with fail
    refine (h1 _ hL1).mono ?_
    rintro e W ⟨T, n1, ct, rfl, hT, hb⟩
    clear c3 f3 l3 h1
    replace hT := hT.mono (Nat.zero_le _)
    replace k3 := k3.below hb
    replace b := b.trans (hb.mono b.size)
    replace hL1 := hL1.below hb
    replace hD1 := hD1.below hb
    clear hb
    obtain rfl : n1 = n := by have := hT.len; have := hll.out; simp at *; omega
    go_wp2_with fail
    go_loopw [9] (fun i wr => ∃ k : Nat, i = .int .i64 (k : Int) ∧ k ≤ n1 ∧ Below W.heap.size W wr) (fun i wr => n1 - (intOf i).toNat)
    case atStart => exact ⟨0, rfl, Nat.zero_le _, Below.refl _ _⟩
    case round =>
      obtain ⟨k, rfl, hk, hb⟩ := hrel
      by_cases hlt : k < n1
      · have hk0 : (0 : Int) ≤ (k : Int) := by omega
        have hk1 : (k : Int) < (n1 : Int) := by omega
        have u9 := IntWalk.i64_in ((k : Int) + 1) (by omega)
        obtain ⟨x, hx⟩ := some_of_lt hll.out hlt
        have hy : (l.map (wayB p h))[k]? = some (wayB p h x) := by rw [List.getElem?_map, hx]; rfl
        obtain ⟨t, ht, hin⟩ := place_of (hokx.out k x hx) (hplx.out k x hx)
        have hch := fun W => chosen5_any x t (pickS ds k) (pickS ds (k + 1)) W (hokx.out k x hx) ht
        have hcv := hin (pickS ds k) (pickS ds (k + 1))
        have hvb := place_bd (hokx.out k x hx) hcv
        have hal := Lib.hid (along_of (p := p) hh.out hcv)
        have hpk := fun (i : Int) W g => Pick_any ds i D nd cd 0 W g
        simp only [regA] at hch
        generalize chosenP t (pickS ds k) (pickS ds (k + 1)) = v at *
        clear hcv hin ht
        obtain ⟨bt, ot, hTA, -, hbt, g0, g1⟩ := (hT.below hb).bnd hy
        obtain ⟨bb, off, hA, -, hbl2, e0, e1, e2, e3, e4, e5, e6, e7⟩ := (hL1.below hb).reg hx
        have hb0 := hb
        replace hx := Lib.hid hx
        replace hy := Lib.hid hy
        replace hA := Lib.hid hA
        have hAA := hA.out
        subst hAA
        have hTT := hTA
        subst hTT
        go_wp2_with fail
        refine wp_held_np (fun w' : World => w'.cell? ⟨bb, off + k * 8, none⟩ = some (.int .i64 x.x.lo) ∧ w'.cell? ⟨bb, off + k * 8 + 1, none⟩ = some (.int .i64 x.x.hi) ∧ w'.cell? ⟨bb, off + k * 8 + 2, none⟩ = some (.int .i64 x.y.lo) ∧ w'.cell? ⟨bb, off + k * 8 + 3, none⟩ = some (.int .i64 x.y.hi) ∧ w'.cell? ⟨bb, off + k * 8 + 4, none⟩ = some (.int .i64 x.s.lo) ∧ w'.cell? ⟨bb, off + k * 8 + 5, none⟩ = some (.int .i64 x.s.hi) ∧ w'.cell? ⟨bb, off + k * 8 + 6, none⟩ = some (.int .i64 x.d.lo) ∧ w'.cell? ⟨bb, off + k * 8 + 7, none⟩ = some (.int .i64 x.d.hi)) (by kernel_rfl) ?_
        have hSb : Hid (∀ W', Below wr.heap.size wr W' → (fun w' : World => w'.cell? ⟨bb, off + k * 8, none⟩ = some (.int .i64 x.x.lo) ∧ w'.cell? ⟨bb, off + k * 8 + 1, none⟩ = some (.int .i64 x.x.hi) ∧ w'.cell? ⟨bb, off + k * 8 + 2, none⟩ = some (.int .i64 x.y.lo) ∧ w'.cell? ⟨bb, off + k * 8 + 3, none⟩ = some (.int .i64 x.y.hi) ∧ w'.cell? ⟨bb, off + k * 8 + 4, none⟩ = some (.int .i64 x.s.lo) ∧ w'.cell? ⟨bb, off + k * 8 + 5, none⟩ = some (.int .i64 x.s.hi) ∧ w'.cell? ⟨bb, off + k * 8 + 6, none⟩ = some (.int .i64 x.d.lo) ∧ w'.cell? ⟨bb, off + k * 8 + 7, none⟩ = some (.int .i64 x.d.hi)) W') := by
          show ∀ _, _
          intro W' hz
          exact ⟨(hz.cell (p := ⟨bb, off + k * 8, none⟩) hbl2).trans e0, (hz.cell (p := ⟨bb, off + k * 8 + 1, none⟩) hbl2).trans e1, (hz.cell (p := ⟨bb, off + k * 8 + 2, none⟩) hbl2).trans e2, (hz.cell (p := ⟨bb, off + k * 8 + 3, none⟩) hbl2).trans e3, (hz.cell (p := ⟨bb, off + k * 8 + 4, none⟩) hbl2).trans e4, (hz.cell (p := ⟨bb, off + k * 8 + 5, none⟩) hbl2).trans e5, (hz.cell (p := ⟨bb, off + k * 8 + 6, none⟩) hbl2).trans e6, (hz.cell (p := ⟨bb, off + k * 8 + 7, none⟩) hbl2).trans e7⟩
        have hb9 : Below wr.heap.size wr wr.drew := (Below.refl _ _).drew
        have hDd := hD1.below hb
        generalize wr.drew = Wd at *
        have hS := hSb.out _ hb9
        clear e0 e1 e2 e3 e4 e5 e6 e7
        refine held_take (i := 0) (v := ?_) 42 rfl rfl (by kernel_rfl) (by kernel_rfl) (by kernel_rfl) (fun _ _ _ h => h) (Or.inl ⟨by rfl, ?_⟩) hS ?_
        rotate_left 1
        · intro w' hSw
          try dsimp only at hSw
          obtain ⟨z0, z1, z2, z3, z4, z5, z6, z7⟩ := hSw
          go_simp
          all_goals with_reducible rfl
        try simp only [Act.put, List.setIfInBounds_toArray, List.set_cons_zero, List.set_cons_succ]
        refine held_take (i := 1) (v := ?_) 43 rfl rfl (by kernel_rfl) (by kernel_rfl) (by kernel_rfl) (fun _ _ _ h => h) (Or.inl ⟨by rfl, ?_⟩) hS ?_
        rotate_left 1
        · intro w' hSw
          try dsimp only at hSw
          obtain ⟨z0, z1, z2, z3, z4, z5, z6, z7⟩ := hSw
          go_simp
          all_goals with_reducible rfl
        try simp only [Act.put, List.setIfInBounds_toArray, List.set_cons_zero, List.set_cons_succ]
        refine held_take (i := 2) (v := ?_) 44 rfl rfl (by kernel_rfl) (by kernel_rfl) (by kernel_rfl) (fun _ _ _ h => h) (Or.inl ⟨by rfl, ?_⟩) hS ?_
        rotate_left 1
        · intro w' hSw
          try dsimp only at hSw
          obtain ⟨z0, z1, z2, z3, z4, z5, z6, z7⟩ := hSw
          go_simp
          all_goals with_reducible rfl
        try simp only [Act.put, List.setIfInBounds_toArray, List.set_cons_zero, List.set_cons_succ]
        refine held_take (i := 3) (v := ?_) 45 rfl rfl (by kernel_rfl) (by kernel_rfl) (by kernel_rfl) (fun _ _ _ h => h) (Or.inl ⟨by rfl, ?_⟩) hS ?_
        rotate_left 1
        · intro w' hSw
          try dsimp only at hSw
          obtain ⟨z0, z1, z2, z3, z4, z5, z6, z7⟩ := hSw
          go_simp
          all_goals with_reducible rfl
        try simp only [Act.put, List.setIfInBounds_toArray, List.set_cons_zero, List.set_cons_succ]
        refine held_take (i := 4) (v := ?_) 46 rfl rfl (by kernel_rfl) (by kernel_rfl) (by kernel_rfl) (fun _ _ _ h => h) (Or.inl ⟨by rfl, ?_⟩) hS ?_
        rotate_left 1
        · intro w' hSw
          try dsimp only at hSw
          obtain ⟨z0, z1, z2, z3, z4, z5, z6, z7⟩ := hSw
          go_simp
          all_goals with_reducible rfl
        try simp only [Act.put, List.setIfInBounds_toArray, List.set_cons_zero, List.set_cons_succ]
        refine held_take (i := 5) (v := ?_) 47 rfl rfl (by kernel_rfl) (by kernel_rfl) (by kernel_rfl) (fun _ _ _ h => h) (Or.inl ⟨by rfl, ?_⟩) hS ?_
        rotate_left 1
        · intro w' hSw
          try dsimp only at hSw
          obtain ⟨z0, z1, z2, z3, z4, z5, z6, z7⟩ := hSw
          go_simp
          all_goals with_reducible rfl
        try simp only [Act.put, List.setIfInBounds_toArray, List.set_cons_zero, List.set_cons_succ]
        refine held_take (i := 7) (v := ?_) 49 rfl rfl (by kernel_rfl) (by kernel_rfl) (by kernel_rfl) (fun _ _ _ h => h) (Or.inl ⟨by rfl, ?_⟩) hS ?_
        rotate_left 1
        · intro w' hSw
          try dsimp only at hSw
          obtain ⟨z0, z1, z2, z3, z4, z5, z6, z7⟩ := hSw
          go_simp
          all_goals with_reducible rfl
        try simp only [Act.put, List.setIfInBounds_toArray, List.set_cons_zero, List.set_cons_succ]
        refine held_take (i := 8) (v := ?_) 50 rfl rfl (by kernel_rfl) (by kernel_rfl) (by kernel_rfl) (fun _ _ _ h => h) (Or.inl ⟨by rfl, ?_⟩) hS ?_
        rotate_left 1
        · intro w' hSw
          try dsimp only at hSw
          obtain ⟨z0, z1, z2, z3, z4, z5, z6, z7⟩ := hSw
          go_simp
          all_goals with_reducible rfl
        try simp only [Act.put, List.setIfInBounds_toArray, List.set_cons_zero, List.set_cons_succ]
        refine held_take (i := 9) (v := ?_) 51 rfl rfl (by kernel_rfl) (by kernel_rfl) (by kernel_rfl) (fun _ _ _ h => h) (Or.inl ⟨by rfl, ?_⟩) hS ?_
        rotate_left 1
        · intro w' hSw
          try dsimp only at hSw
          obtain ⟨z0, z1, z2, z3, z4, z5, z6, z7⟩ := hSw
          go_simp
          all_goals with_reducible rfl
        try simp only [Act.put, List.setIfInBounds_toArray, List.set_cons_zero, List.set_cons_succ]
        refine wpAnyH_fin (f := fun a g => (((((((a.put (some 48) (.int .i64 (pickS ds k))).put (some 52) (.int .i64 (pickS ds (k + 1)))).put (some 53) (.tuple #[.agg #[.int .i64 v.x, .int .i64 v.y], .bool true])).put (some 41) (.tuple #[.agg #[.int .i64 v.x, .int .i64 v.y], .bool true])).put (some 54) (.agg #[.int .i64 v.x, .int .i64 v.y])).put (some 55) (.bool true)).put (some 10) (.pointer (some ⟨g, 0, none⟩))).put (some 11) (.bool true)) (B := fun g W' => Blk W' g 23 #[.int .i64 v.x, .int .i64 v.y] ∧ wr.heap.size ≤ g ∧ Below wr.heap.size wr W') ?_ (fun hrest => ?_)
        · rintro g10 W7 ⟨k10, hg10, hb7⟩
          try simp only [Act.put, List.setIfInBounds_toArray, List.set_cons_zero, List.set_cons_succ]
          refine noPanic_normal ?_
          clear hS hSb hb9 hch hpk hDd
          have k3r := (k3.below hb).below hb7
          replace g0 := (hb7.cell (p := ⟨bt, ot + k * 2, none⟩) hbt).trans g0
          replace g1 := (hb7.cell (p := ⟨bt, ot + k * 2 + 1, none⟩) hbt).trans g1
          replace hbt := Nat.lt_of_lt_of_le hbt hb7.size
          replace hb := hb.trans (hb7.mono hb.size)
          clear hb7 hbl2
          obtain ⟨⟨hc1, hc2⟩, ⟨hp1, hp2⟩, hq1, hq2⟩ := hhb
          obtain ⟨⟨x1, x2⟩, y1, y2⟩ := hpb
          obtain ⟨⟨vx1, vx2⟩, vy1, vy2⟩ := hvb
          have m1 := smul_bd hp1 hp2 (show -65536 ≤ v.x - p.x by omega) (show v.x - p.x ≤ 65536 by omega)
          have m2 := smul_bd hq1 hq2 (show -65536 ≤ v.y - p.y by omega) (show v.y - p.y ≤ 65536 by omega)
          have u1 := IntWalk.i64_in (v.x - p.x) (by omega)
          have u2 := IntWalk.i64_in (v.y - p.y) (by omega)
          have u3 := IntWalk.i64_in (h.p * (v.x - p.x)) (by omega)
          have u4 := IntWalk.i64_in (h.q * (v.y - p.y)) (by omega)
          have u5 := IntWalk.i64_in (h.p * (v.x - p.x) + h.q * (v.y - p.y)) (by omega)
          obtain ⟨c3, f3, l3⟩ := k3r.rules
          obtain ⟨c10, f10, l10⟩ := k10.rules
          go_wp2_with fail
          clear c3 f3 l3 c10 f10 l10 u1 u2 u3 u4 u5
          have hdb : -200000000 ≤ h.p * (v.x - p.x) + h.q * (v.y - p.y) ∧ h.p * (v.x - p.x) + h.q * (v.y - p.y) ≤ 200000000 := by omega
          have hal := hal.out
          generalize h.p * (v.x - p.x) + h.q * (v.y - p.y) = di at *
          have hdn := fun W => Down_any di h.c W (by omega) (by omega) (by omega) (by omega)
          have hup := fun W => Up_any di h.c W (by omega) (by omega) (by omega) (by omega)
          have hf2 : di / h.c = floorS di h.c := rfl
          simp only [hf2] at hdn
          clear hf2
          have hmax := max2_int
          refine wp_held_np (fun w' : World => (∀ j, w'.cell? ⟨w.heap.size, j, none⟩ = #[Value.int .i64 p.x, .int .i64 p.y, .int .i64 h.p, .int .i64 h.q, .int .i64 h.c][j]?) ∧ w'.cell? ⟨bt, ot + k * 2, none⟩ = some (.int .i64 (wayB p h x).lo) ∧ w'.cell? ⟨bt, ot + k * 2 + 1, none⟩ = some (.int .i64 (wayB p h x).hi)) (by kernel_rfl) ?_
          replace k3r := k3r.drew
          replace hb := hb.drew
          replace g0 : W7.drew.cell? _ = _ := g0
          replace g1 : W7.drew.cell? _ = _ := g1
          generalize W7.drew = V at *
          have hS : (fun w' : World => (∀ j, w'.cell? ⟨w.heap.size, j, none⟩ = #[Value.int .i64 p.x, .int .i64 p.y, .int .i64 h.p, .int .i64 h.q, .int .i64 h.c][j]?) ∧ w'.cell? ⟨bt, ot + k * 2, none⟩ = some (.int .i64 (wayB p h x).lo) ∧ w'.cell? ⟨bt, ot + k * 2 + 1, none⟩ = some (.int .i64 (wayB p h x).hi)) V := ⟨k3r.cell, g0, g1⟩
          generalize (wayB p h x).lo = wl at *
          generalize (wayB p h x).hi = wh at *
          generalize floorS di h.c = f at *
          generalize ceilS di h.c = t9 at *
          have j1 : ¬ (max 0 f < wl) := by omega
          have j2 : ¬ (wh < max 0 t9) := by omega
          refine held_take (i := 0) (v := ?_) 79 rfl rfl (by kernel_rfl) (by kernel_rfl) (by kernel_rfl) (fun _ _ _ h => h) (Or.inl ⟨by rfl, ?_⟩) hS ?_
          rotate_left 1
          · intro w' hSw
            try dsimp only at hSw
            obtain ⟨q3, g0, g1⟩ := hSw
            go_simp
            all_goals with_reducible rfl
          try simp only [Act.put, List.setIfInBounds_toArray, List.set_cons_zero, List.set_cons_succ]
          refine held_take (i := 1) (v := ?_) 80 rfl rfl (by kernel_rfl) (by kernel_rfl) (by kernel_rfl) (fun _ _ _ h => h) (Or.inl ⟨by rfl, ?_⟩) hS ?_
          rotate_left 1
          · intro w' hSw
            try dsimp only at hSw
            obtain ⟨q3, g0, g1⟩ := hSw
            go_simp
            all_goals with_reducible rfl
          try simp only [Act.put, List.setIfInBounds_toArray, List.set_cons_zero, List.set_cons_succ]
          refine held_take (i := 2) (v := ?_) 81 rfl rfl (by kernel_rfl) (by kernel_rfl) (by kernel_rfl) (fun _ _ _ h => h) (Or.inl ⟨by rfl, ?_⟩) hS ?_
          rotate_left 1
          · intro w' hSw
            try dsimp only at hSw
            obtain ⟨q3, g0, g1⟩ := hSw
            go_simp
            all_goals with_reducible rfl
          try simp only [Act.put, List.setIfInBounds_toArray, List.set_cons_zero, List.set_cons_succ]
          refine held_take (i := 3) (v := ?_) 82 rfl rfl (by kernel_rfl) (by kernel_rfl) (by kernel_rfl) (fun _ _ _ h => h) (Or.inl ⟨by rfl, ?_⟩) hS ?_
          rotate_left 1
          · intro w' hSw
            try dsimp only at hSw
            obtain ⟨q3, g0, g1⟩ := hSw
            go_simp
            all_goals with_reducible rfl
          try simp only [Act.put, List.setIfInBounds_toArray, List.set_cons_zero, List.set_cons_succ]
          refine held_take (i := 6) (v := ?_) 85 rfl rfl (by kernel_rfl) (by kernel_rfl) (by kernel_rfl) (fun _ _ _ h => h) (Or.inl ⟨by rfl, ?_⟩) hS ?_
          rotate_left 1
          · intro w' hSw
            try dsimp only at hSw
            obtain ⟨q3, g0, g1⟩ := hSw
            go_simp
            all_goals with_reducible rfl
          try simp only [Act.put, List.setIfInBounds_toArray, List.set_cons_zero, List.set_cons_succ]
          refine held_take (i := 7) (v := ?_) 86 rfl rfl (by kernel_rfl) (by kernel_rfl) (by kernel_rfl) (fun _ _ _ h => h) (Or.inl ⟨by rfl, ?_⟩) hS ?_
          rotate_left 1
          · intro w' hSw
            try dsimp only at hSw
            obtain ⟨q3, g0, g1⟩ := hSw
            go_simp
            all_goals with_reducible rfl
          try simp only [Act.put, List.setIfInBounds_toArray, List.set_cons_zero, List.set_cons_succ]
          refine held_take (i := 8) (v := ?_) 87 rfl rfl (by kernel_rfl) (by kernel_rfl) (by kernel_rfl) (fun _ _ _ h => h) (Or.inl ⟨by rfl, ?_⟩) hS ?_
          rotate_left 1
          · intro w' hSw
            try dsimp only at hSw
            obtain ⟨q3, g0, g1⟩ := hSw
            go_simp
            all_goals with_reducible rfl
          try simp only [Act.put, List.setIfInBounds_toArray, List.set_cons_zero, List.set_cons_succ]
          refine held_take (i := 9) (v := ?_) 88 rfl rfl (by kernel_rfl) (by kernel_rfl) (by kernel_rfl) (fun _ _ _ h => h) (Or.inl ⟨by rfl, ?_⟩) hS ?_
          rotate_left 1
          · intro w' hSw
            try dsimp only at hSw
            obtain ⟨q3, g0, g1⟩ := hSw
            go_simp
            all_goals with_reducible rfl
          try simp only [Act.put, List.setIfInBounds_toArray, List.set_cons_zero, List.set_cons_succ]
          refine held_take (i := 10) (v := ?_) 89 rfl rfl (by kernel_rfl) (by kernel_rfl) (by kernel_rfl) (fun _ _ _ h => h) (Or.inl ⟨by rfl, ?_⟩) hS ?_
          rotate_left 1
          · intro w' hSw
            try dsimp only at hSw
            obtain ⟨q3, g0, g1⟩ := hSw
            go_simp
            all_goals with_reducible rfl
          try simp only [Act.put, List.setIfInBounds_toArray, List.set_cons_zero, List.set_cons_succ]
          refine held_one (i := 4) (by kernel_rfl) rfl rfl (fun K hK => ?_)
          go_simp
          refine (hdn _).mono ?_
          rintro e w' ⟨rfl, rfl⟩
          refine hK _ _ hS ?_
          clear hK K
          try simp only [Act.put, List.setIfInBounds_toArray, List.set_cons_zero, List.set_cons_succ]
          refine held_take (i := 5) (v := ?_) 84 rfl rfl (by kernel_rfl) (by kernel_rfl) (by kernel_rfl) (fun _ _ _ h => h) (Or.inl ⟨by rfl, ?_⟩) hS ?_
          rotate_left 1
          · intro w' hSw
            try dsimp only at hSw
            obtain ⟨q3, g0, g1⟩ := hSw
            go_simp
            all_goals with_reducible rfl
          try simp only [Act.put, List.setIfInBounds_toArray, List.set_cons_zero, List.set_cons_succ]
          refine held_take (i := 11) (v := ?_) 90 rfl rfl (by kernel_rfl) (by kernel_rfl) (by kernel_rfl) (fun _ _ _ h => h) (Or.inl ⟨by rfl, ?_⟩) hS ?_
          rotate_left 1
          · intro w' hSw
            try dsimp only at hSw
            obtain ⟨q3, g0, g1⟩ := hSw
            go_simp
            all_goals with_reducible rfl
          try simp only [Act.put, List.setIfInBounds_toArray, List.set_cons_zero, List.set_cons_succ]
          refine held_take (i := 12) (v := ?_) 91 rfl rfl (by kernel_rfl) (by kernel_rfl) (by kernel_rfl) (fun _ _ _ h => h) (Or.inl ⟨by rfl, ?_⟩) hS ?_
          rotate_left 1
          · intro w' hSw
            try dsimp only at hSw
            obtain ⟨q3, g0, g1⟩ := hSw
            go_simp
            all_goals with_reducible rfl
          try simp only [Act.put, List.setIfInBounds_toArray, List.set_cons_zero, List.set_cons_succ]
          refine held_take (i := 13) (v := ?_) 92 rfl rfl (by kernel_rfl) (by kernel_rfl) (by kernel_rfl) (fun _ _ _ h => h) (Or.inl ⟨by rfl, ?_⟩) hS ?_
          rotate_left 1
          · intro w' hSw
            try dsimp only at hSw
            obtain ⟨q3, g0, g1⟩ := hSw
            go_simp
            all_goals with_reducible rfl
          try simp only [Act.put, List.setIfInBounds_toArray, List.set_cons_zero, List.set_cons_succ]
          refine held_take (i := 14) (v := ?_) 93 rfl rfl (by kernel_rfl) (by kernel_rfl) (by kernel_rfl) (fun _ _ _ h => h) (Or.inl ⟨by rfl, ?_⟩) hS ?_
          rotate_left 1
          · intro w' hSw
            try dsimp only at hSw
            obtain ⟨q3, g0, g1⟩ := hSw
            go_simp
            all_goals with_reducible rfl
          try simp only [Act.put, List.setIfInBounds_toArray, List.set_cons_zero, List.set_cons_succ]
          refine held_take (i := 15) (v := ?_) 94 rfl rfl (by kernel_rfl) (by kernel_rfl) (by kernel_rfl) (fun _ _ _ h => h) (Or.inl ⟨by rfl, ?_⟩) hS ?_
          rotate_left 1
          · intro w' hSw
            try dsimp only at hSw
            obtain ⟨q3, g0, g1⟩ := hSw
            go_simp
            all_goals with_reducible rfl
          try simp only [Act.put, List.setIfInBounds_toArray, List.set_cons_zero, List.set_cons_succ]
          refine held_take (i := 16) (v := ?_) 95 rfl rfl (by kernel_rfl) (by kernel_rfl) (by kernel_rfl) (fun _ _ _ h => h) (Or.inl ⟨by rfl, ?_⟩) hS ?_
          rotate_left 1
          · intro w' hSw
            try dsimp only at hSw
            obtain ⟨q3, g0, g1⟩ := hSw
            go_simp
            all_goals with_reducible rfl
          try simp only [Act.put, List.setIfInBounds_toArray, List.set_cons_zero, List.set_cons_succ]
          refine held_take (i := 19) (v := ?_) 98 rfl rfl (by kernel_rfl) (by kernel_rfl) (by kernel_rfl) (fun _ _ _ h => h) (Or.inl ⟨by rfl, ?_⟩) hS ?_
          rotate_left 1
          · intro w' hSw
            try dsimp only at hSw
            obtain ⟨q3, g0, g1⟩ := hSw
            go_simp
            all_goals with_reducible rfl
          try simp only [Act.put, List.setIfInBounds_toArray, List.set_cons_zero, List.set_cons_succ]
          refine held_take (i := 20) (v := ?_) 99 rfl rfl (by kernel_rfl) (by kernel_rfl) (by kernel_rfl) (fun _ _ _ h => h) (Or.inl ⟨by rfl, ?_⟩) hS ?_
          rotate_left 1
          · intro w' hSw
            try dsimp only at hSw
            obtain ⟨q3, g0, g1⟩ := hSw
            go_simp
            all_goals with_reducible rfl
          try simp only [Act.put, List.setIfInBounds_toArray, List.set_cons_zero, List.set_cons_succ]
          refine held_take (i := 21) (v := ?_) 100 rfl rfl (by kernel_rfl) (by kernel_rfl) (by kernel_rfl) (fun _ _ _ h => h) (Or.inl ⟨by rfl, ?_⟩) hS ?_
          rotate_left 1
          · intro w' hSw
            try dsimp only at hSw
            obtain ⟨q3, g0, g1⟩ := hSw
            go_simp
            all_goals with_reducible rfl
          try simp only [Act.put, List.setIfInBounds_toArray, List.set_cons_zero, List.set_cons_succ]
          refine held_take (i := 22) (v := ?_) 101 rfl rfl (by kernel_rfl) (by kernel_rfl) (by kernel_rfl) (fun _ _ _ h => h) (Or.inl ⟨by rfl, ?_⟩) hS ?_
          rotate_left 1
          · intro w' hSw
            try dsimp only at hSw
            obtain ⟨q3, g0, g1⟩ := hSw
            go_simp
            all_goals with_reducible rfl
          try simp only [Act.put, List.setIfInBounds_toArray, List.set_cons_zero, List.set_cons_succ]
          refine held_take (i := 23) (v := ?_) 102 rfl rfl (by kernel_rfl) (by kernel_rfl) (by kernel_rfl) (fun _ _ _ h => h) (Or.inl ⟨by rfl, ?_⟩) hS ?_
          rotate_left 1
          · intro w' hSw
            try dsimp only at hSw
            obtain ⟨q3, g0, g1⟩ := hSw
            go_simp
            all_goals with_reducible rfl
          try simp only [Act.put, List.setIfInBounds_toArray, List.set_cons_zero, List.set_cons_succ]
          refine held_one (i := 17) (by kernel_rfl) rfl rfl (fun K hK => ?_)
          go_simp
          refine (hup _).mono ?_
          rintro e w' ⟨rfl, rfl⟩
          refine hK _ _ hS ?_
          clear hK K
          try simp only [Act.put, List.setIfInBounds_toArray, List.set_cons_zero, List.set_cons_succ]
          refine held_take (i := 18) (v := ?_) 97 rfl rfl (by kernel_rfl) (by kernel_rfl) (by kernel_rfl) (fun _ _ _ h => h) (Or.inl ⟨by rfl, ?_⟩) hS ?_
          rotate_left 1
          · intro w' hSw
            try dsimp only at hSw
            obtain ⟨q3, g0, g1⟩ := hSw
            go_simp
            all_goals with_reducible rfl
          try simp only [Act.put, List.setIfInBounds_toArray, List.set_cons_zero, List.set_cons_succ]
          refine held_take (i := 24) (v := ?_) 103 rfl rfl (by kernel_rfl) (by kernel_rfl) (by kernel_rfl) (fun _ _ _ h => h) (Or.inl ⟨by rfl, ?_⟩) hS ?_
          rotate_left 1
          · intro w' hSw
            try dsimp only at hSw
            obtain ⟨q3, g0, g1⟩ := hSw
            go_simp
            all_goals with_reducible rfl
          try simp only [Act.put, List.setIfInBounds_toArray, List.set_cons_zero, List.set_cons_succ]
          refine held_take (i := 25) (v := ?_) 104 rfl rfl (by kernel_rfl) (by kernel_rfl) (by kernel_rfl) (fun _ _ _ h => h) (Or.inl ⟨by rfl, ?_⟩) hS ?_
          rotate_left 1
          · intro w' hSw
            try dsimp only at hSw
            obtain ⟨q3, g0, g1⟩ := hSw
            go_simp
            all_goals with_reducible rfl
          try simp only [Act.put, List.setIfInBounds_toArray, List.set_cons_zero, List.set_cons_succ]
          refine wpAnyH_done (by kernel_rfl) (noPanic_normal ?_) _
          clear hS hdn hup
          go_wp2_with fail
          go_roundw
          case rel => exact ⟨k + 1, by go_num, by omega, hb⟩
          case measure => simp [intOf]; omega
        · try simp only [Act.put, List.setIfInBounds_toArray, List.set_cons_zero, List.set_cons_succ] at hrest
          refine held_two (i := 6) (j := 15) (by kernel_rfl) rfl rfl rfl rfl (fun K hK => ?_) (fun K hK => ?_)
          · skip
            go_simp
            refine (hpk _ _ (hDd.below hb9)).mono ?_
            rintro e w' ⟨rfl, rfl⟩
            refine hK _ _ hS ?_
            clear hK K
            try simp only [Act.put, List.setIfInBounds_toArray, List.set_cons_zero, List.set_cons_succ]
            generalize Wd = X1 at *
            refine held_two (i := 10) (j := 15) (by kernel_rfl) rfl rfl rfl rfl (fun K hK => ?_) (fun K hK => ?_)
            · skip
              go_simp
              refine (hpk _ _ (hDd.below hb9)).mono ?_
              rintro e w' ⟨rfl, rfl⟩
              refine hK _ _ hS ?_
              clear hK K
              try simp only [Act.put, List.setIfInBounds_toArray, List.set_cons_zero, List.set_cons_succ]
              generalize X1 = X2 at *
              refine held_two (i := 11) (j := 15) (by kernel_rfl) rfl rfl rfl rfl (fun K hK => ?_) (fun K hK => ?_)
              · skip
                go_simp
                refine (hch _).mono ?_
                rintro e X3 ⟨rfl, hbel⟩
                replace hb9 := hb9.trans (hbel.mono hb9.size)
                try replace k10 := k10.below hbel
                clear hS hbel
                have hS := hSb.out _ hb9
                refine hK _ _ hS ?_
                clear hK K
                try simp only [Act.put, List.setIfInBounds_toArray, List.set_cons_zero, List.set_cons_succ]
                refine held_take (i := 12) (v := ?_) 41 rfl rfl (by kernel_rfl) (by kernel_rfl) (by kernel_rfl) (fun _ _ _ h => h) (Or.inl ⟨by rfl, ?_⟩) hS ?_
                rotate_left 1
                · intro w' hSw
                  try dsimp only at hSw
                  obtain ⟨q0, q1, q2, q3, q4, q5, q6, q7⟩ := hSw
                  go_simp
                  all_goals with_reducible rfl
                try simp only [Act.put, List.setIfInBounds_toArray, List.set_cons_zero, List.set_cons_succ]
                refine held_take (i := 13) (v := ?_) 54 rfl rfl (by kernel_rfl) (by kernel_rfl) (by kernel_rfl) (fun _ _ _ h => h) (Or.inl ⟨by rfl, ?_⟩) hS ?_
                rotate_left 1
                · intro w' hSw
                  try dsimp only at hSw
                  obtain ⟨q0, q1, q2, q3, q4, q5, q6, q7⟩ := hSw
                  go_simp
                  all_goals with_reducible rfl
                try simp only [Act.put, List.setIfInBounds_toArray, List.set_cons_zero, List.set_cons_succ]
                refine held_take (i := 14) (v := ?_) 55 rfl rfl (by kernel_rfl) (by kernel_rfl) (by kernel_rfl) (fun _ _ _ h => h) (Or.inl ⟨by rfl, ?_⟩) hS ?_
                rotate_left 1
                · intro w' hSw
                  try dsimp only at hSw
                  obtain ⟨q0, q1, q2, q3, q4, q5, q6, q7⟩ := hSw
                  go_simp
                  all_goals with_reducible rfl
                try simp only [Act.put, List.setIfInBounds_toArray, List.set_cons_zero, List.set_cons_succ]
                refine held_one (i := 15) (by kernel_rfl) rfl rfl (fun K hK => ?_)
                go_simp
                have hgg := hb9.size
                have k10 := Blk.new X3 23 #[.int .i64 0, .int .i64 0]
                replace hb9 := hb9.alloc hb9.size (.cells #[.int .i64 0, .int .i64 0] 23)
                clear hS
                have hS := hSb.out _ hb9
                refine hK _ _ hS ?_
                clear hK K
                try simp only [Act.put, List.setIfInBounds_toArray, List.set_cons_zero, List.set_cons_succ]
                generalize X3.heap.size = g10 at *
                generalize X3.alloc (.cells #[.int .i64 0, .int .i64 0] 23) = X4 at *
                refine held_one (i := 16) (by kernel_rfl) rfl rfl (fun K hK => ?_)
                have kz := (k10.set_ 0 (.int .i64 v.x)).set_ 1 (.int .i64 v.y)
                simp only [List.setIfInBounds_toArray, List.set_cons_zero, List.set_cons_succ] at kz
                have bz := (hb9.setCell (p := ⟨g10, 0, none⟩) (by dsimp only; omega) (.int .i64 v.x)).setCell (p := ⟨g10, 1, none⟩) (by dsimp only; omega) (.int .i64 v.y)
                obtain ⟨X5, hwz⟩ : ∃ x, x = (X4.setCell ⟨g10, 0, none⟩ (.int .i64 v.x)).setCell ⟨g10, 1, none⟩ (.int .i64 v.y) := ⟨_, rfl⟩
                rw [← hwz] at kz bz
                obtain ⟨c9, f9, l9⟩ := k10.rules
                go_simp
                rw [← hwz]
                clear hwz c9 f9 l9 hS
                have hS := hSb.out _ bz
                refine hK _ _ hS ?_
                clear hK K
                try simp only [Act.put, List.setIfInBounds_toArray, List.set_cons_zero, List.set_cons_succ]
                refine held_take (i := 17) (v := ?_) 11 rfl rfl (by kernel_rfl) (by kernel_rfl) (by kernel_rfl) (fun _ _ _ h => h) (Or.inl ⟨by rfl, ?_⟩) hS ?_
                rotate_left 1
                · intro w' hSw
                  try dsimp only at hSw
                  obtain ⟨q0, q1, q2, q3, q4, q5, q6, q7⟩ := hSw
                  go_simp
                  all_goals with_reducible rfl
                try simp only [Act.put, List.setIfInBounds_toArray, List.set_cons_zero, List.set_cons_succ]
                refine wpAnyH_done (by kernel_rfl) (hrest g10 _ ⟨kz, hgg, bz⟩) _
              · skip
                go_simp
                have hgg := hb9.size
                have k10 := Blk.new X2 23 #[.int .i64 0, .int .i64 0]
                replace hb9 := hb9.alloc hb9.size (.cells #[.int .i64 0, .int .i64 0] 23)
                clear hS
                have hS := hSb.out _ hb9
                refine hK _ _ hS ?_
                clear hK K
                try simp only [Act.put, List.setIfInBounds_toArray, List.set_cons_zero, List.set_cons_succ]
                generalize X2.heap.size = g10 at *
                generalize X2.alloc (.cells #[.int .i64 0, .int .i64 0] 23) = X6 at *
                refine held_one (i := 11) (by kernel_rfl) rfl rfl (fun K hK => ?_)
                go_simp
                refine (hch _).mono ?_
                rintro e X7 ⟨rfl, hbel⟩
                replace hb9 := hb9.trans (hbel.mono hb9.size)
                try replace k10 := k10.below hbel
                clear hS hbel
                have hS := hSb.out _ hb9
                refine hK _ _ hS ?_
                clear hK K
                try simp only [Act.put, List.setIfInBounds_toArray, List.set_cons_zero, List.set_cons_succ]
                refine held_take (i := 12) (v := ?_) 41 rfl rfl (by kernel_rfl) (by kernel_rfl) (by kernel_rfl) (fun _ _ _ h => h) (Or.inl ⟨by rfl, ?_⟩) hS ?_
                rotate_left 1
                · intro w' hSw
                  try dsimp only at hSw
                  obtain ⟨q0, q1, q2, q3, q4, q5, q6, q7⟩ := hSw
                  go_simp
                  all_goals with_reducible rfl
                try simp only [Act.put, List.setIfInBounds_toArray, List.set_cons_zero, List.set_cons_succ]
                refine held_take (i := 13) (v := ?_) 54 rfl rfl (by kernel_rfl) (by kernel_rfl) (by kernel_rfl) (fun _ _ _ h => h) (Or.inl ⟨by rfl, ?_⟩) hS ?_
                rotate_left 1
                · intro w' hSw
                  try dsimp only at hSw
                  obtain ⟨q0, q1, q2, q3, q4, q5, q6, q7⟩ := hSw
                  go_simp
                  all_goals with_reducible rfl
                try simp only [Act.put, List.setIfInBounds_toArray, List.set_cons_zero, List.set_cons_succ]
                refine held_take (i := 14) (v := ?_) 55 rfl rfl (by kernel_rfl) (by kernel_rfl) (by kernel_rfl) (fun _ _ _ h => h) (Or.inl ⟨by rfl, ?_⟩) hS ?_
                rotate_left 1
                · intro w' hSw
                  try dsimp only at hSw
                  obtain ⟨q0, q1, q2, q3, q4, q5, q6, q7⟩ := hSw
                  go_simp
                  all_goals with_reducible rfl
                try simp only [Act.put, List.setIfInBounds_toArray, List.set_cons_zero, List.set_cons_succ]
                refine held_one (i := 16) (by kernel_rfl) rfl rfl (fun K hK => ?_)
                have kz := (k10.set_ 0 (.int .i64 v.x)).set_ 1 (.int .i64 v.y)
                simp only [List.setIfInBounds_toArray, List.set_cons_zero, List.set_cons_succ] at kz
                have bz := (hb9.setCell (p := ⟨g10, 0, none⟩) (by dsimp only; omega) (.int .i64 v.x)).setCell (p := ⟨g10, 1, none⟩) (by dsimp only; omega) (.int .i64 v.y)
                obtain ⟨X8, hwz⟩ : ∃ x, x = (X7.setCell ⟨g10, 0, none⟩ (.int .i64 v.x)).setCell ⟨g10, 1, none⟩ (.int .i64 v.y) := ⟨_, rfl⟩
                rw [← hwz] at kz bz
                obtain ⟨c9, f9, l9⟩ := k10.rules
                go_simp
                rw [← hwz]
                clear hwz c9 f9 l9 hS
                have hS := hSb.out _ bz
                refine hK _ _ hS ?_
                clear hK K
                try simp only [Act.put, List.setIfInBounds_toArray, List.set_cons_zero, List.set_cons_succ]
                refine held_take (i := 17) (v := ?_) 11 rfl rfl (by kernel_rfl) (by kernel_rfl) (by kernel_rfl) (fun _ _ _ h => h) (Or.inl ⟨by rfl, ?_⟩) hS ?_
                rotate_left 1
                · intro w' hSw
                  try dsimp only at hSw
                  obtain ⟨q0, q1, q2, q3, q4, q5, q6, q7⟩ := hSw
                  go_simp
                  all_goals with_reducible rfl
                try simp only [Act.put, List.setIfInBounds_toArray, List.set_cons_zero, List.set_cons_succ]
                refine wpAnyH_done (by kernel_rfl) (hrest g10 _ ⟨kz, hgg, bz⟩) _
            · skip
              go_simp
              have hgg := hb9.size
              have k10 := Blk.new X1 23 #[.int .i64 0, .int .i64 0]
              replace hb9 := hb9.alloc hb9.size (.cells #[.int .i64 0, .int .i64 0] 23)
              clear hS
              have hS := hSb.out _ hb9
              refine hK _ _ hS ?_
              clear hK K
              try simp only [Act.put, List.setIfInBounds_toArray, List.set_cons_zero, List.set_cons_succ]
              generalize X1.heap.size = g10 at *
              generalize X1.alloc (.cells #[.int .i64 0, .int .i64 0] 23) = X9 at *
              refine held_one (i := 10) (by kernel_rfl) rfl rfl (fun K hK => ?_)
              go_simp
              refine (hpk _ _ (hDd.below hb9)).mono ?_
              rintro e w' ⟨rfl, rfl⟩
              refine hK _ _ hS ?_
              clear hK K
              try simp only [Act.put, List.setIfInBounds_toArray, List.set_cons_zero, List.set_cons_succ]
              generalize X9 = X10 at *
              refine held_one (i := 11) (by kernel_rfl) rfl rfl (fun K hK => ?_)
              go_simp
              refine (hch _).mono ?_
              rintro e X11 ⟨rfl, hbel⟩
              replace hb9 := hb9.trans (hbel.mono hb9.size)
              try replace k10 := k10.below hbel
              clear hS hbel
              have hS := hSb.out _ hb9
              refine hK _ _ hS ?_
              clear hK K
              try simp only [Act.put, List.setIfInBounds_toArray, List.set_cons_zero, List.set_cons_succ]
              refine held_take (i := 12) (v := ?_) 41 rfl rfl (by kernel_rfl) (by kernel_rfl) (by kernel_rfl) (fun _ _ _ h => h) (Or.inl ⟨by rfl, ?_⟩) hS ?_
              rotate_left 1
              · intro w' hSw
                try dsimp only at hSw
                obtain ⟨q0, q1, q2, q3, q4, q5, q6, q7⟩ := hSw
                go_simp
                all_goals with_reducible rfl
              try simp only [Act.put, List.setIfInBounds_toArray, List.set_cons_zero, List.set_cons_succ]
              refine held_take (i := 13) (v := ?_) 54 rfl rfl (by kernel_rfl) (by kernel_rfl) (by kernel_rfl) (fun _ _ _ h => h) (Or.inl ⟨by rfl, ?_⟩) hS ?_
              rotate_left 1
              · intro w' hSw
                try dsimp only at hSw
                obtain ⟨q0, q1, q2, q3, q4, q5, q6, q7⟩ := hSw
                go_simp
                all_goals with_reducible rfl
              try simp only [Act.put, List.setIfInBounds_toArray, List.set_cons_zero, List.set_cons_succ]
              refine held_take (i := 14) (v := ?_) 55 rfl rfl (by kernel_rfl) (by kernel_rfl) (by kernel_rfl) (fun _ _ _ h => h) (Or.inl ⟨by rfl, ?_⟩) hS ?_
              rotate_left 1
              · intro w' hSw
                try dsimp only at hSw
                obtain ⟨q0, q1, q2, q3, q4, q5, q6, q7⟩ := hSw
                go_simp
                all_goals with_reducible rfl
              try simp only [Act.put, List.setIfInBounds_toArray, List.set_cons_zero, List.set_cons_succ]
              refine held_one (i := 16) (by kernel_rfl) rfl rfl (fun K hK => ?_)
              have kz := (k10.set_ 0 (.int .i64 v.x)).set_ 1 (.int .i64 v.y)
              simp only [List.setIfInBounds_toArray, List.set_cons_zero, List.set_cons_succ] at kz
              have bz := (hb9.setCell (p := ⟨g10, 0, none⟩) (by dsimp only; omega) (.int .i64 v.x)).setCell (p := ⟨g10, 1, none⟩) (by dsimp only; omega) (.int .i64 v.y)
              obtain ⟨X12, hwz⟩ : ∃ x, x = (X11.setCell ⟨g10, 0, none⟩ (.int .i64 v.x)).setCell ⟨g10, 1, none⟩ (.int .i64 v.y) := ⟨_, rfl⟩
              rw [← hwz] at kz bz
              obtain ⟨c9, f9, l9⟩ := k10.rules
              go_simp
              rw [← hwz]
              clear hwz c9 f9 l9 hS
              have hS := hSb.out _ bz
              refine hK _ _ hS ?_
              clear hK K
              try simp only [Act.put, List.setIfInBounds_toArray, List.set_cons_zero, List.set_cons_succ]
              refine held_take (i := 17) (v := ?_) 11 rfl rfl (by kernel_rfl) (by kernel_rfl) (by kernel_rfl) (fun _ _ _ h => h) (Or.inl ⟨by rfl, ?_⟩) hS ?_
              rotate_left 1
              · intro w' hSw
                try dsimp only at hSw
                obtain ⟨q0, q1, q2, q3, q4, q5, q6, q7⟩ := hSw
                go_simp
                all_goals with_reducible rfl
              try simp only [Act.put, List.setIfInBounds_toArray, List.set_cons_zero, List.set_cons_succ]
              refine wpAnyH_done (by kernel_rfl) (hrest g10 _ ⟨kz, hgg, bz⟩) _
          · skip
            go_simp
            have hgg := hb9.size
            have k10 := Blk.new Wd 23 #[.int .i64 0, .int .i64 0]
            replace hb9 := hb9.alloc hb9.size (.cells #[.int .i64 0, .int .i64 0] 23)
            clear hS
            have hS := hSb.out _ hb9
            refine hK _ _ hS ?_
            clear hK K
            try simp only [Act.put, List.setIfInBounds_toArray, List.set_cons_zero, List.set_cons_succ]
            generalize Wd.heap.size = g10 at *
            generalize Wd.alloc (.cells #[.int .i64 0, .int .i64 0] 23) = X13 at *
            refine held_one (i := 6) (by kernel_rfl) rfl rfl (fun K hK => ?_)
            go_simp
            refine (hpk _ _ (hDd.below hb9)).mono ?_
            rintro e w' ⟨rfl, rfl⟩
            refine hK _ _ hS ?_
            clear hK K
            try simp only [Act.put, List.setIfInBounds_toArray, List.set_cons_zero, List.set_cons_succ]
            generalize X13 = X14 at *
            refine held_one (i := 10) (by kernel_rfl) rfl rfl (fun K hK => ?_)
            go_simp
            refine (hpk _ _ (hDd.below hb9)).mono ?_
            rintro e w' ⟨rfl, rfl⟩
            refine hK _ _ hS ?_
            clear hK K
            try simp only [Act.put, List.setIfInBounds_toArray, List.set_cons_zero, List.set_cons_succ]
            generalize X14 = X15 at *
            refine held_one (i := 11) (by kernel_rfl) rfl rfl (fun K hK => ?_)
            go_simp
            refine (hch _).mono ?_
            rintro e X16 ⟨rfl, hbel⟩
            replace hb9 := hb9.trans (hbel.mono hb9.size)
            try replace k10 := k10.below hbel
            clear hS hbel
            have hS := hSb.out _ hb9
            refine hK _ _ hS ?_
            clear hK K
            try simp only [Act.put, List.setIfInBounds_toArray, List.set_cons_zero, List.set_cons_succ]
            refine held_take (i := 12) (v := ?_) 41 rfl rfl (by kernel_rfl) (by kernel_rfl) (by kernel_rfl) (fun _ _ _ h => h) (Or.inl ⟨by rfl, ?_⟩) hS ?_
            rotate_left 1
            · intro w' hSw
              try dsimp only at hSw
              obtain ⟨q0, q1, q2, q3, q4, q5, q6, q7⟩ := hSw
              go_simp
              all_goals with_reducible rfl
            try simp only [Act.put, List.setIfInBounds_toArray, List.set_cons_zero, List.set_cons_succ]
            refine held_take (i := 13) (v := ?_) 54 rfl rfl (by kernel_rfl) (by kernel_rfl) (by kernel_rfl) (fun _ _ _ h => h) (Or.inl ⟨by rfl, ?_⟩) hS ?_
            rotate_left 1
            · intro w' hSw
              try dsimp only at hSw
              obtain ⟨q0, q1, q2, q3, q4, q5, q6, q7⟩ := hSw
              go_simp
              all_goals with_reducible rfl
            try simp only [Act.put, List.setIfInBounds_toArray, List.set_cons_zero, List.set_cons_succ]
            refine held_take (i := 14) (v := ?_) 55 rfl rfl (by kernel_rfl) (by kernel_rfl) (by kernel_rfl) (fun _ _ _ h => h) (Or.inl ⟨by rfl, ?_⟩) hS ?_
            rotate_left 1
            · intro w' hSw
              try dsimp only at hSw
              obtain ⟨q0, q1, q2, q3, q4, q5, q6, q7⟩ := hSw
              go_simp
              all_goals with_reducible rfl
            try simp only [Act.put, List.setIfInBounds_toArray, List.set_cons_zero, List.set_cons_succ]
            refine held_one (i := 16) (by kernel_rfl) rfl rfl (fun K hK => ?_)
            have kz := (k10.set_ 0 (.int .i64 v.x)).set_ 1 (.int .i64 v.y)
            simp only [List.setIfInBounds_toArray, List.set_cons_zero, List.set_cons_succ] at kz
            have bz := (hb9.setCell (p := ⟨g10, 0, none⟩) (by dsimp only; omega) (.int .i64 v.x)).setCell (p := ⟨g10, 1, none⟩) (by dsimp only; omega) (.int .i64 v.y)
            obtain ⟨X17, hwz⟩ : ∃ x, x = (X16.setCell ⟨g10, 0, none⟩ (.int .i64 v.x)).setCell ⟨g10, 1, none⟩ (.int .i64 v.y) := ⟨_, rfl⟩
            rw [← hwz] at kz bz
            obtain ⟨c9, f9, l9⟩ := k10.rules
            go_simp
            rw [← hwz]
            clear hwz c9 f9 l9 hS
            have hS := hSb.out _ bz
            refine hK _ _ hS ?_
            clear hK K
            try simp only [Act.put, List.setIfInBounds_toArray, List.set_cons_zero, List.set_cons_succ]
            refine held_take (i := 17) (v := ?_) 11 rfl rfl (by kernel_rfl) (by kernel_rfl) (by kernel_rfl) (fun _ _ _ h => h) (Or.inl ⟨by rfl, ?_⟩) hS ?_
            rotate_left 1
            · intro w' hSw
              try dsimp only at hSw
              obtain ⟨q0, q1, q2, q3, q4, q5, q6, q7⟩ := hSw
              go_simp
              all_goals with_reducible rfl
            try simp only [Act.put, List.setIfInBounds_toArray, List.set_cons_zero, List.set_cons_succ]
            refine wpAnyH_done (by kernel_rfl) (hrest g10 _ ⟨kz, hgg, bz⟩) _
      · obtain rfl : k = n1 := by omega
        replace b := b.trans (hb.mono b.size)
        go_wp2_with fail
        refine (works_any _).mono ?_
        rintro e W11 ⟨rfl, hb⟩
        go_wp2_with fail
        go_ret
        exact ⟨rfl, b.trans (hb.mono b.size)⟩
  · have hv := waysR_no hz
    simp only [hv] at h1
    obtain ⟨er, hee⟩ : ∃ er, (waysR p h l).2 = er := ⟨_, rfl⟩
    rw [hee] at hz
    simp only [hee] at h1
    have her2 : (er != 0) = true := by rw [bne_iff_ne]; exact hz
    clear hee hz hv
    go_enter Tryz.func4, Tryz.ntmps4
    go_wp2_with fail
    rw [← hw1]
    clear hw1
    obtain ⟨c3, f3, l3⟩ := k3.rules
    go_wp2_with fail
    refine (h1 _ hL1).mono ?_
    rintro e W ⟨T, n1, ct, rfl, hT, hb⟩
    clear c3 f3 l3 h1
    obtain rfl : n1 = 0 := by have := hT.len; simp at this; omega
    replace b := b.trans (hb.mono b.size)
    go_wp2_with fail
    refine (works_any _).mono ?_
    rintro e W11 ⟨rfl, hb⟩
    go_wp2_with fail
    go_ret
    exact ⟨rfl, b.trans (hb.mono b.size)⟩
end Go.Proofs.YtfengddpfeneiaaGreat
