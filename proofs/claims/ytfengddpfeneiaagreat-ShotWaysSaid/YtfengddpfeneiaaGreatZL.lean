/-
  Walks: paravaneref05.Ways.
  Alike bounds.
  The law ShotWays.
-/
import Derived.Test.YtfengddpfeneiaaGreatZZ
import Derived.Test.YtfengddpfeneiaaGreatZR
import Derived.Test.YtfengddpfeneiaaGreatS26
import Derived.Test.YtfengddpfeneiaaGreatS28
namespace Go.Proofs.YtfengddpfeneiaaGreat
open Go.RowKit Go.Shelf
set_option linter.unusedSimpArgs false
set_option linter.unusedVariables false

theorem addP_some (o : Option Reg) (p : Pnt) : (addP o p).isSome = true := by cases o <;> rfl
theorem hull_some : ∀ (l : List Pnt) (o : Option Reg), (l.foldl addP o).isSome = (o.isSome || !l.isEmpty)
  | [], o => by simp
  | p :: l, o => by rw [List.foldl_cons, hull_some l, addP_some]; simp
theorem rowPts_ne (q : RRow) : (rowPts q).isEmpty = false := by unfold rowPts; split <;> rfl
theorem pts_ne : ∀ (l : List RRow), (l.flatMap rowPts).isEmpty = l.isEmpty
  | [] => rfl
  | q :: l => by
    rw [List.flatMap_cons]
    have h := rowPts_ne q
    cases hq : rowPts q with
    | nil => rw [hq] at h; cases h
    | cons a b => rfl
theorem has_tight (h : Hdg) (r : Reg) : hasPl h r = (tightO r).isSome := by
  unfold hasPl tightO hullL extO ptsL
  rw [hull_some, ext_some, pts_ne]
  simp
theorem tight_of_has {h : Hdg} {r : Reg} (hr : okReg r = true) (k : hasPl h r = true) : ∃ t, tightR r = (t, 0) := by
  rw [has_tight] at k
  obtain ⟨t, ht⟩ := Option.isSome_iff_exists.1 k
  exact ⟨t, by rw [tightR, if_pos hr, ht]; rfl⟩
theorem tight_of_no {h : Hdg} {r : Reg} (hr : okReg r = true) (k : hasPl h r = false) : tightR r = (noReg, 4) := by
  rw [has_tight] at k
  rw [tightR, if_pos hr]
  cases ht : tightO r with
  | none => rfl
  | some t => rw [ht] at k; cases k
set_option maxRecDepth 100000 in
set_option maxHeartbeats 4000000 in
theorem RWays_any (p : Pnt) (h : Hdg) (l : List Reg) (A : Option Addr) (n c B : Nat) (w : World) (hs : SlAt w B 8 Reg.cells A n c l) :
    Calls Tryz.prog 8 #[.agg #[.int .i64 p.x, .int .i64 p.y], .agg #[.int .i64 h.p, .int .i64 h.q, .int .i64 h.c], .slice A n c] w (RetSl 2 Bnd.cells (waysR p h l) w) := by
  have hll := Lib.hid hs.len
  have hln := hs.le
  have hc1 := fun W => RCheckPnt_any p W
  have hc2 := fun W => RCheckHeading_any h W
  obtain ⟨w1, hw1⟩ : ∃ w1, w1 = (w.alloc (.cells #[.int .i64 p.x, .int .i64 p.y] 23)).alloc (.cells #[.int .i64 h.p, .int .i64 h.q, .int .i64 h.c] 25) := ⟨_, rfl⟩
  have k3 : Blk w1 w.heap.size 23 #[.int .i64 p.x, .int .i64 p.y] := by rw [hw1]; exact (Blk.new _ _ _).alloc _
  have k4 : Blk w1 (w.heap.size + 1) 25 #[.int .i64 h.p, .int .i64 h.q, .int .i64 h.c] := by rw [hw1]; exact Blk.newAt (by simp)
  have b : Below w.heap.size w w1 := by rw [hw1]; exact ((Below.refl _ _).alloc (Nat.le_refl _) _).alloc (by simp) _
  have hl1 : SlAt w1 B 8 Reg.cells A n c l := by rw [hw1]; exact (hs.alloc _).alloc _
  clear hs
  unfold waysR
  by_cases hp : okPnt p = true
  · rw [if_pos hp]
    rw [show chkPnt p = 0 from by unfold chkPnt; rw [if_pos hp]] at hc1
    by_cases hh : okHdg h = true
    · rw [if_pos hh]
      rw [show chkHdg h = 0 from by unfold chkHdg; rw [if_pos hh]] at hc2
      rw [hll.out]
      by_cases hn : 1 ≤ n ∧ n ≤ 512
      · rw [if_pos hn]
        have hc3 := fun W => Between_any (n : Int) 1 512 W
        simp only [show decide ((1 : Int) ≤ (n : Int) ∧ (n : Int) ≤ 512) = true from decide_eq_true ⟨by omega, by omega⟩] at hc3
        have hhb := hdg_bd hh
        have hab := at_bd hp hh
        have hn2 := hn.2
        replace hp := Lib.hid hp
        replace hh := Lib.hid hh
        have hck := fun x W => RCheckR_any x W
        simp only [regA] at hck
        go_enter Tryz.func8, Tryz.ntmps8
        go_wp2_with fail
        rw [← hw1]
        clear hw1
        obtain ⟨c3, f3, l3⟩ := k3.rules
        go_wp2_with fail
        refine (hc1 _).mono ?_
        rintro e W ⟨rfl, hb⟩
        clear c3 f3 l3 hc1
        replace k3 := k3.below hb
        replace k4 := k4.below hb
        replace b := b.trans (hb.mono b.size)
        replace hl1 := hl1.below hb
        clear hb
        obtain ⟨c4, f4, l4⟩ := k4.rules
        go_wp2_with fail
        refine (hc2 _).mono ?_
        rintro e W2 ⟨rfl, hb⟩
        clear c4 f4 l4 hc2
        replace k3 := k3.below hb
        replace k4 := k4.below hb
        replace b := b.trans (hb.mono b.size)
        replace hl1 := hl1.below hb
        clear hb
        go_wp2_with fail
        refine (hc3 _).mono ?_
        rintro e w' ⟨rfl, rfl⟩
        clear hc3
        go_wp2_with fail
        go_loopw [10] (fun i wr => ∃ k : Nat, i = .int .i64 (k : Int) ∧ k ≤ n ∧ (l.take k).all okReg = true ∧ Below W2.heap.size W2 wr) (fun i wr => n - (intOf i).toNat)
        case atStart => exact ⟨0, rfl, Nat.zero_le _, rfl, Below.refl _ _⟩
        case round =>
          obtain ⟨k, rfl, hk, hall, hb⟩ := hrel
          by_cases hlt : k < n
          · have hk0 : (0 : Int) ≤ (k : Int) := by omega
            have hk1 : (k : Int) < (n : Int) := by omega
            have u9 := IntWalk.i64_in ((k : Int) + 1) (by omega)
            obtain ⟨x, hx⟩ := some_of_lt hll.out hlt
            obtain ⟨bb, off, hA, -, hbl, e0, e1, e2, e3, e4, e5, e6, e7⟩ := (hl1.below hb).reg hx
            have hcx := fun W => hck x W
            replace hA := Lib.hid hA
            have hAA := hA.out
            subst hAA
            by_cases hox : okReg x = true
            · have hall2 := Lib.hid (all_take hall hx hox)
              rw [show chkReg x = 0 from by simp [chkReg, hox]] at hcx
              replace hall := Lib.hid hall
              replace hx := Lib.hid hx
              clear hox
              go_wp2_with fail
              refine (hcx _).mono ?_
              rintro e W9 ⟨rfl, hb9⟩
              go_wp2_with fail
              go_roundw
              case rel => exact ⟨k + 1, by go_num, by omega, hall2.out, hb.trans (hb9.mono hb.size)⟩
              case measure => simp [intOf]; omega
            · have hres : Hid (waysT p h l = ([], 11)) := Lib.hid (by unfold waysT; rw [if_neg (by rw [all_stop hx (by simpa using hox)]; decide)])
              rw [show chkReg x = 11 from by simp [chkReg, hox]] at hcx
              replace hall := Lib.hid hall
              replace hx := Lib.hid hx
              clear hox
              go_wp2_with fail
              refine (hcx _).mono ?_
              rintro e W9 ⟨rfl, hb9⟩
              have hbel := hb.trans (hb9.mono hb.size)
              go_wp2_with fail
              go_ret2
              rw [hres.out]
              exact RetSl.none_ (b.trans (hbel.mono b.size))
          · obtain rfl : k = n := by omega
            rw [List.take_of_length_le (by rw [hll.out]; exact Nat.le_refl _)] at hall
            replace k3 := k3.below hb
            replace k4 := k4.below hb
            replace b := b.trans (hb.mono b.size)
            replace hl1 := hl1.below hb
            clear hb
            generalize wr = V at *
            clear wr hck hlt
            have hallh := Lib.hid hall
            clear hall
            have hokx := Lib.hid (fun (i : Nat) (x : Reg) (hx : l[i]? = some x) => List.all_eq_true.1 hallh.out x (List.mem_of_getElem? hx))
            have hgV := k4.lt
            have hbV := b.size
            have hown0 : V.ownsRow V.heap.size 40 2 (.slice none 0 0) 0 (((l.take 0).map (wayB p h)).flatMap Bnd.cells) := ⟨rfl, .inl ⟨rfl, rfl⟩⟩
            go_wp2_with fail
            go_loopw [12, 13] (fun v i wr => ∃ q : Nat, i = .int .i64 (q : Int) ∧ q ≤ k ∧ (l.take q).all (hasPl h) = true ∧ wr.ownsRow V.heap.size 40 2 v q (((l.take q).map (wayB p h)).flatMap Bnd.cells) ∧ Below V.heap.size V wr) (fun v i wr => k - (intOf i).toNat)
            case atStart => exact ⟨0, rfl, Nat.zero_le _, rfl, hown0, Below.refl _ _⟩
            case round =>
              clear hown0
              obtain ⟨q, rfl, hq, hall, hown, hb⟩ := hrel
              have k3r := k3.below hb
              have k4r := k4.below hb
              by_cases hlt : q < k
              · have hq0 : (0 : Int) ≤ (q : Int) := by omega
                have hq1 : (q : Int) < (k : Int) := by omega
                have u9 := IntWalk.i64_in ((q : Int) + 1) (by omega)
                obtain ⟨x, hx⟩ := some_of_lt hll.out hlt
                have hlb := hl1.below hb
                obtain ⟨bb, off, hA, -, hbl, e0, e1, e2, e3, e4, e5, e6, e7⟩ := hlb.reg hx
                have hxok := hokx.out q x hx
                have hti := fun W => RTight_any x W
                simp only [regA] at hti
                replace hA := Lib.hid hA
                have hAA := hA.out
                subst hAA
                cases hpl : hasPl h x with
                | false =>
                  have hres : Hid (waysT p h l = ([], 4)) := Lib.hid (by unfold waysT; rw [if_pos hallh.out, if_neg (by rw [all_stop hx hpl]; decide)])
                  simp only [tight_of_no hxok hpl, noReg] at hti
                  replace hall := Lib.hid hall
                  replace hx := Lib.hid hx
                  clear hpl hxok hown hlb
                  go_wp2_with fail
                  refine (hti _).mono ?_
                  rintro e W9 ⟨rfl, hb9⟩
                  have hbz := (hb.trans (hb9.mono hb.size)).alloc (hb.trans (hb9.mono hb.size)).size (.cells #[.int .i64 0, .int .i64 0, .int .i64 0, .int .i64 0, .int .i64 0, .int .i64 0, .int .i64 0, .int .i64 0] 42)
                  go_wp2_with fail
                  go_ret2
                  rw [hres.out]
                  exact RetSl.none_ (b.trans (hbz.mono b.size))
                | true =>
                  have hall2 := Lib.hid (all_take hall hx hpl)
                  have hmap : Hid ((l.take (q + 1)).map (wayB p h) = (l.take q).map (wayB p h) ++ [wayB p h x]) := Lib.hid (by rw [List.take_add_one, hx, List.map_append]; rfl)
                  obtain ⟨R, hR⟩ := tight_of_has hxok hpl
                  simp only [hR] at hti
                  obtain ⟨⟨a1, a2⟩, a3, a4⟩ := hab
                  have hwb : Hid (wayB p h x = ⟨max 0 (spanW x h.c h.p h.q (h.p * p.x + h.q * p.y)).lo, max 0 (spanW x h.c h.p h.q (h.p * p.x + h.q * p.y)).hi⟩) := Lib.hid rfl
                  have hsp := fun W => RSpansL_any x h.p h.q h.c (h.p * p.x + h.q * p.y) W hpl (by omega) hxok (by omega) (by omega) (by omega)
                  simp only [regA] at hsp
                  have hmax := max2_int
                  replace hall := Lib.hid hall
                  replace hx := Lib.hid hx
                  replace hR := Lib.hid hR
                  clear hpl hxok
                  go_wp2_with fail
                  refine (hti _).mono ?_
                  rintro e W9 ⟨rfl, hb9⟩
                  clear hti e0 e1 e2 e3 e4 e5 e6 e7
                  replace hlb := Lib.hid (hlb.below hb9)
                  replace k3r := k3r.below hb9
                  replace k4r := k4r.below hb9
                  replace hown := ownsRow_below hown hb9
                  replace hb := hb.trans (hb9.mono hb.size)
                  clear hb9
                  have hbel := (Below.refl W9.heap.size W9).alloc (Nat.le_refl _) (.cells #[.int .i64 R.x.lo, .int .i64 R.x.hi, .int .i64 R.y.lo, .int .i64 R.y.hi, .int .i64 R.s.lo, .int .i64 R.s.hi, .int .i64 R.d.lo, .int .i64 R.d.hi] 42)
                  replace hlb := Lib.hid (hlb.out.below hbel)
                  replace k3r := k3r.below hbel
                  replace k4r := k4r.below hbel
                  replace hown := ownsRow_below hown hbel
                  replace hb := hb.trans (hbel.mono hb.size)
                  clear hbel
                  go_upto_region 22 with fail
                  generalize W9.alloc (.cells #[.int .i64 R.x.lo, .int .i64 R.x.hi, .int .i64 R.y.lo, .int .i64 R.y.hi, .int .i64 R.s.lo, .int .i64 R.s.hi, .int .i64 R.d.lo, .int .i64 R.d.hi] 42) = W8 at *
                  generalize W9.heap.size = g14 at *
                  obtain ⟨bb2, off2, hA2, -, hbl2, e0, e1, e2, e3, e4, e5, e6, e7⟩ := hlb.out.reg hx.out
                  obtain ⟨rfl, rfl⟩ : bb = bb2 ∧ off = off2 := by simpa using hA2
                  clear hA2 hlb
                  refine wp_held_np (fun w' : World => (∀ j, w'.cell? ⟨w.heap.size + 1, j, none⟩ = #[.int .i64 h.p, .int .i64 h.q, .int .i64 h.c][j]?) ∧ (∀ j, w'.cell? ⟨w.heap.size, j, none⟩ = #[.int .i64 p.x, .int .i64 p.y][j]?) ∧ w'.cell? ⟨bb, off + q * 8, none⟩ = some (.int .i64 x.x.lo) ∧ w'.cell? ⟨bb, off + q * 8 + 1, none⟩ = some (.int .i64 x.x.hi) ∧ w'.cell? ⟨bb, off + q * 8 + 2, none⟩ = some (.int .i64 x.y.lo) ∧ w'.cell? ⟨bb, off + q * 8 + 3, none⟩ = some (.int .i64 x.y.hi) ∧ w'.cell? ⟨bb, off + q * 8 + 4, none⟩ = some (.int .i64 x.s.lo) ∧ w'.cell? ⟨bb, off + q * 8 + 5, none⟩ = some (.int .i64 x.s.hi) ∧ w'.cell? ⟨bb, off + q * 8 + 6, none⟩ = some (.int .i64 x.d.lo) ∧ w'.cell? ⟨bb, off + q * 8 + 7, none⟩ = some (.int .i64 x.d.hi)) (by kernel_rfl) ?_
                  have hSb : Hid (∀ W', Below W8.heap.size W8 W' → (fun w' : World => (∀ j, w'.cell? ⟨w.heap.size + 1, j, none⟩ = #[.int .i64 h.p, .int .i64 h.q, .int .i64 h.c][j]?) ∧ (∀ j, w'.cell? ⟨w.heap.size, j, none⟩ = #[.int .i64 p.x, .int .i64 p.y][j]?) ∧ w'.cell? ⟨bb, off + q * 8, none⟩ = some (.int .i64 x.x.lo) ∧ w'.cell? ⟨bb, off + q * 8 + 1, none⟩ = some (.int .i64 x.x.hi) ∧ w'.cell? ⟨bb, off + q * 8 + 2, none⟩ = some (.int .i64 x.y.lo) ∧ w'.cell? ⟨bb, off + q * 8 + 3, none⟩ = some (.int .i64 x.y.hi) ∧ w'.cell? ⟨bb, off + q * 8 + 4, none⟩ = some (.int .i64 x.s.lo) ∧ w'.cell? ⟨bb, off + q * 8 + 5, none⟩ = some (.int .i64 x.s.hi) ∧ w'.cell? ⟨bb, off + q * 8 + 6, none⟩ = some (.int .i64 x.d.lo) ∧ w'.cell? ⟨bb, off + q * 8 + 7, none⟩ = some (.int .i64 x.d.hi)) W') := by
                    show ∀ _, _
                    intro W' hz
                    exact ⟨(k4r.below hz).cell, (k3r.below hz).cell, (hz.cell (p := ⟨bb, off + q * 8, none⟩) hbl2).trans e0, (hz.cell (p := ⟨bb, off + q * 8 + 1, none⟩) hbl2).trans e1, (hz.cell (p := ⟨bb, off + q * 8 + 2, none⟩) hbl2).trans e2, (hz.cell (p := ⟨bb, off + q * 8 + 3, none⟩) hbl2).trans e3, (hz.cell (p := ⟨bb, off + q * 8 + 4, none⟩) hbl2).trans e4, (hz.cell (p := ⟨bb, off + q * 8 + 5, none⟩) hbl2).trans e5, (hz.cell (p := ⟨bb, off + q * 8 + 6, none⟩) hbl2).trans e6, (hz.cell (p := ⟨bb, off + q * 8 + 7, none⟩) hbl2).trans e7⟩
                  have hb9 : Below W8.heap.size W8 W8.drew := (Below.refl _ _).drew
                  generalize W8.drew = Wd at *
                  have hS := hSb.out _ hb9
                  clear e0 e1 e2 e3 e4 e5 e6 e7
                  have u1 := IntWalk.i64_in (h.p * p.x) (by omega)
                  have u2 := IntWalk.i64_in (h.q * p.y) (by omega)
                  have u3 := IntWalk.i64_in (h.p * p.x + h.q * p.y) (by omega)
                  refine held_take (i := 0) (v := ?_) 62 rfl rfl (by kernel_rfl) (by kernel_rfl) (by kernel_rfl) (fun _ _ _ h => h) (Or.inl ⟨by rfl, ?_⟩) hS ?_
                  rotate_left 1
                  · intro w' hSw
                    try dsimp only at hSw
                    obtain ⟨q1, q2, z0, z1, z2, z3, z4, z5, z6, z7⟩ := hSw
                    go_simp
                    all_goals with_reducible rfl
                  try simp only [Act.put, List.setIfInBounds_toArray, List.set_cons_zero, List.set_cons_succ]
                  refine held_take (i := 1) (v := ?_) 63 rfl rfl (by kernel_rfl) (by kernel_rfl) (by kernel_rfl) (fun _ _ _ h => h) (Or.inl ⟨by rfl, ?_⟩) hS ?_
                  rotate_left 1
                  · intro w' hSw
                    try dsimp only at hSw
                    obtain ⟨q1, q2, z0, z1, z2, z3, z4, z5, z6, z7⟩ := hSw
                    go_simp
                    all_goals with_reducible rfl
                  try simp only [Act.put, List.setIfInBounds_toArray, List.set_cons_zero, List.set_cons_succ]
                  refine held_take (i := 2) (v := ?_) 64 rfl rfl (by kernel_rfl) (by kernel_rfl) (by kernel_rfl) (fun _ _ _ h => h) (Or.inl ⟨by rfl, ?_⟩) hS ?_
                  rotate_left 1
                  · intro w' hSw
                    try dsimp only at hSw
                    obtain ⟨q1, q2, z0, z1, z2, z3, z4, z5, z6, z7⟩ := hSw
                    go_simp
                    all_goals with_reducible rfl
                  try simp only [Act.put, List.setIfInBounds_toArray, List.set_cons_zero, List.set_cons_succ]
                  refine held_take (i := 3) (v := ?_) 65 rfl rfl (by kernel_rfl) (by kernel_rfl) (by kernel_rfl) (fun _ _ _ h => h) (Or.inl ⟨by rfl, ?_⟩) hS ?_
                  rotate_left 1
                  · intro w' hSw
                    try dsimp only at hSw
                    obtain ⟨q1, q2, z0, z1, z2, z3, z4, z5, z6, z7⟩ := hSw
                    go_simp
                    all_goals with_reducible rfl
                  try simp only [Act.put, List.setIfInBounds_toArray, List.set_cons_zero, List.set_cons_succ]
                  refine held_take (i := 4) (v := ?_) 66 rfl rfl (by kernel_rfl) (by kernel_rfl) (by kernel_rfl) (fun _ _ _ h => h) (Or.inl ⟨by rfl, ?_⟩) hS ?_
                  rotate_left 1
                  · intro w' hSw
                    try dsimp only at hSw
                    obtain ⟨q1, q2, z0, z1, z2, z3, z4, z5, z6, z7⟩ := hSw
                    go_simp
                    all_goals with_reducible rfl
                  try simp only [Act.put, List.setIfInBounds_toArray, List.set_cons_zero, List.set_cons_succ]
                  refine held_take (i := 5) (v := ?_) 67 rfl rfl (by kernel_rfl) (by kernel_rfl) (by kernel_rfl) (fun _ _ _ h => h) (Or.inl ⟨by rfl, ?_⟩) hS ?_
                  rotate_left 1
                  · intro w' hSw
                    try dsimp only at hSw
                    obtain ⟨q1, q2, z0, z1, z2, z3, z4, z5, z6, z7⟩ := hSw
                    go_simp
                    all_goals with_reducible rfl
                  try simp only [Act.put, List.setIfInBounds_toArray, List.set_cons_zero, List.set_cons_succ]
                  refine held_take (i := 6) (v := ?_) 68 rfl rfl (by kernel_rfl) (by kernel_rfl) (by kernel_rfl) (fun _ _ _ h => h) (Or.inl ⟨by rfl, ?_⟩) hS ?_
                  rotate_left 1
                  · intro w' hSw
                    try dsimp only at hSw
                    obtain ⟨q1, q2, z0, z1, z2, z3, z4, z5, z6, z7⟩ := hSw
                    go_simp
                    all_goals with_reducible rfl
                  try simp only [Act.put, List.setIfInBounds_toArray, List.set_cons_zero, List.set_cons_succ]
                  refine held_take (i := 7) (v := ?_) 69 rfl rfl (by kernel_rfl) (by kernel_rfl) (by kernel_rfl) (fun _ _ _ h => h) (Or.inl ⟨by rfl, ?_⟩) hS ?_
                  rotate_left 1
                  · intro w' hSw
                    try dsimp only at hSw
                    obtain ⟨q1, q2, z0, z1, z2, z3, z4, z5, z6, z7⟩ := hSw
                    go_simp
                    all_goals with_reducible rfl
                  try simp only [Act.put, List.setIfInBounds_toArray, List.set_cons_zero, List.set_cons_succ]
                  refine held_take (i := 8) (v := ?_) 70 rfl rfl (by kernel_rfl) (by kernel_rfl) (by kernel_rfl) (fun _ _ _ h => h) (Or.inl ⟨by rfl, ?_⟩) hS ?_
                  rotate_left 1
                  · intro w' hSw
                    try dsimp only at hSw
                    obtain ⟨q1, q2, z0, z1, z2, z3, z4, z5, z6, z7⟩ := hSw
                    go_simp
                    all_goals with_reducible rfl
                  try simp only [Act.put, List.setIfInBounds_toArray, List.set_cons_zero, List.set_cons_succ]
                  refine held_take (i := 9) (v := ?_) 71 rfl rfl (by kernel_rfl) (by kernel_rfl) (by kernel_rfl) (fun _ _ _ h => h) (Or.inl ⟨by rfl, ?_⟩) hS ?_
                  rotate_left 1
                  · intro w' hSw
                    try dsimp only at hSw
                    obtain ⟨q1, q2, z0, z1, z2, z3, z4, z5, z6, z7⟩ := hSw
                    go_simp
                    all_goals with_reducible rfl
                  try simp only [Act.put, List.setIfInBounds_toArray, List.set_cons_zero, List.set_cons_succ]
                  refine held_take (i := 10) (v := ?_) 72 rfl rfl (by kernel_rfl) (by kernel_rfl) (by kernel_rfl) (fun _ _ _ h => h) (Or.inl ⟨by rfl, ?_⟩) hS ?_
                  rotate_left 1
                  · intro w' hSw
                    try dsimp only at hSw
                    obtain ⟨q1, q2, z0, z1, z2, z3, z4, z5, z6, z7⟩ := hSw
                    go_simp
                    all_goals with_reducible rfl
                  try simp only [Act.put, List.setIfInBounds_toArray, List.set_cons_zero, List.set_cons_succ]
                  refine held_take (i := 11) (v := ?_) 73 rfl rfl (by kernel_rfl) (by kernel_rfl) (by kernel_rfl) (fun _ _ _ h => h) (Or.inl ⟨by rfl, ?_⟩) hS ?_
                  rotate_left 1
                  · intro w' hSw
                    try dsimp only at hSw
                    obtain ⟨q1, q2, z0, z1, z2, z3, z4, z5, z6, z7⟩ := hSw
                    go_simp
                    all_goals with_reducible rfl
                  try simp only [Act.put, List.setIfInBounds_toArray, List.set_cons_zero, List.set_cons_succ]
                  refine held_take (i := 12) (v := ?_) 74 rfl rfl (by kernel_rfl) (by kernel_rfl) (by kernel_rfl) (fun _ _ _ h => h) (Or.inl ⟨by rfl, ?_⟩) hS ?_
                  rotate_left 1
                  · intro w' hSw
                    try dsimp only at hSw
                    obtain ⟨q1, q2, z0, z1, z2, z3, z4, z5, z6, z7⟩ := hSw
                    go_simp
                    all_goals with_reducible rfl
                  try simp only [Act.put, List.setIfInBounds_toArray, List.set_cons_zero, List.set_cons_succ]
                  refine held_take (i := 13) (v := ?_) 75 rfl rfl (by kernel_rfl) (by kernel_rfl) (by kernel_rfl) (fun _ _ _ h => h) (Or.inl ⟨by rfl, ?_⟩) hS ?_
                  rotate_left 1
                  · intro w' hSw
                    try dsimp only at hSw
                    obtain ⟨q1, q2, z0, z1, z2, z3, z4, z5, z6, z7⟩ := hSw
                    go_simp
                    all_goals with_reducible rfl
                  try simp only [Act.put, List.setIfInBounds_toArray, List.set_cons_zero, List.set_cons_succ]
                  refine held_take (i := 14) (v := ?_) 76 rfl rfl (by kernel_rfl) (by kernel_rfl) (by kernel_rfl) (fun _ _ _ h => h) (Or.inl ⟨by rfl, ?_⟩) hS ?_
                  rotate_left 1
                  · intro w' hSw
                    try dsimp only at hSw
                    obtain ⟨q1, q2, z0, z1, z2, z3, z4, z5, z6, z7⟩ := hSw
                    go_simp
                    all_goals with_reducible rfl
                  try simp only [Act.put, List.setIfInBounds_toArray, List.set_cons_zero, List.set_cons_succ]
                  refine held_take (i := 15) (v := ?_) 77 rfl rfl (by kernel_rfl) (by kernel_rfl) (by kernel_rfl) (fun _ _ _ h => h) (Or.inl ⟨by rfl, ?_⟩) hS ?_
                  rotate_left 1
                  · intro w' hSw
                    try dsimp only at hSw
                    obtain ⟨q1, q2, z0, z1, z2, z3, z4, z5, z6, z7⟩ := hSw
                    go_simp
                    all_goals with_reducible rfl
                  try simp only [Act.put, List.setIfInBounds_toArray, List.set_cons_zero, List.set_cons_succ]
                  refine held_take (i := 16) (v := ?_) 78 rfl rfl (by kernel_rfl) (by kernel_rfl) (by kernel_rfl) (fun _ _ _ h => h) (Or.inl ⟨by rfl, ?_⟩) hS ?_
                  rotate_left 1
                  · intro w' hSw
                    try dsimp only at hSw
                    obtain ⟨q1, q2, z0, z1, z2, z3, z4, z5, z6, z7⟩ := hSw
                    go_simp
                    all_goals with_reducible rfl
                  try simp only [Act.put, List.setIfInBounds_toArray, List.set_cons_zero, List.set_cons_succ]
                  refine held_take (i := 17) (v := ?_) 79 rfl rfl (by kernel_rfl) (by kernel_rfl) (by kernel_rfl) (fun _ _ _ h => h) (Or.inl ⟨by rfl, ?_⟩) hS ?_
                  rotate_left 1
                  · intro w' hSw
                    try dsimp only at hSw
                    obtain ⟨q1, q2, z0, z1, z2, z3, z4, z5, z6, z7⟩ := hSw
                    go_simp
                    all_goals with_reducible rfl
                  try simp only [Act.put, List.setIfInBounds_toArray, List.set_cons_zero, List.set_cons_succ]
                  refine held_take (i := 18) (v := ?_) 80 rfl rfl (by kernel_rfl) (by kernel_rfl) (by kernel_rfl) (fun _ _ _ h => h) (Or.inl ⟨by rfl, ?_⟩) hS ?_
                  rotate_left 1
                  · intro w' hSw
                    try dsimp only at hSw
                    obtain ⟨q1, q2, z0, z1, z2, z3, z4, z5, z6, z7⟩ := hSw
                    go_simp
                    all_goals with_reducible rfl
                  try simp only [Act.put, List.setIfInBounds_toArray, List.set_cons_zero, List.set_cons_succ]
                  refine held_take (i := 19) (v := ?_) 81 rfl rfl (by kernel_rfl) (by kernel_rfl) (by kernel_rfl) (fun _ _ _ h => h) (Or.inl ⟨by rfl, ?_⟩) hS ?_
                  rotate_left 1
                  · intro w' hSw
                    try dsimp only at hSw
                    obtain ⟨q1, q2, z0, z1, z2, z3, z4, z5, z6, z7⟩ := hSw
                    go_simp
                    all_goals with_reducible rfl
                  try simp only [Act.put, List.setIfInBounds_toArray, List.set_cons_zero, List.set_cons_succ]
                  refine held_take (i := 20) (v := ?_) 82 rfl rfl (by kernel_rfl) (by kernel_rfl) (by kernel_rfl) (fun _ _ _ h => h) (Or.inl ⟨by rfl, ?_⟩) hS ?_
                  rotate_left 1
                  · intro w' hSw
                    try dsimp only at hSw
                    obtain ⟨q1, q2, z0, z1, z2, z3, z4, z5, z6, z7⟩ := hSw
                    go_simp
                    all_goals with_reducible rfl
                  try simp only [Act.put, List.setIfInBounds_toArray, List.set_cons_zero, List.set_cons_succ]
                  generalize (spanW x h.c h.p h.q (h.p * p.x + h.q * p.y)).lo = f at *
                  generalize (spanW x h.c h.p h.q (h.p * p.x + h.q * p.y)).hi = t at *
                  refine wpAnyH_fin (f := fun a g => (a.put (some 83) (.agg #[.int .i64 f, .int .i64 t])).put (some 16) (.pointer (some ⟨g, 0, none⟩))) (B := fun g W' => Blk W' g 40 #[.int .i64 f, .int .i64 t] ∧ W8.heap.size ≤ g ∧ Below W8.heap.size W8 W') ?_ (fun hrest => ?_)
                  · rintro g16 W7 ⟨k16, hg16, hb7⟩
                    try simp only [Act.put, List.setIfInBounds_toArray, List.set_cons_zero, List.set_cons_succ]
                    refine noPanic_normal ?_
                    clear hS hSb hb9 hsp u1 u2 u3
                    replace hown := ownsRow_below hown hb7
                    replace hb := hb.trans (hb7.mono hb.size)
                    clear hb7 k3r k4r hbl2
                    have hbig1 : Hid (q + 1 ≤ maxLen) := by show q + 1 ≤ maxLen; unfold maxLen; omega
                    have hbig2 : Hid ((q + 1) * 16 ≤ 140737488355328) := by show (q + 1) * 16 ≤ 140737488355328; omega
                    obtain ⟨i0, hi0, hz0, hz1, hz2⟩ := info_parts Tryz.infoBnd
                    have hnews : ∀ (j : Nat) (u : Value), ([.int .i64 (max 0 f), .int .i64 (max 0 t)] : List Value)[j]? = some u → (W7.alloc (.cells #[.int .i64 (max 0 f), .int .i64 (max 0 t)] 40)).cell? ((⟨W7.heap.size, 0, none⟩ : Addr).add j) = some u :=
                      World.news_of_block (cs := #[.int .i64 (max 0 f), .int .i64 (max 0 t)]) (World.alloc_heap_new W7 _)
                    have hownf := hown.alloc (.cells #[.int .i64 (max 0 f), .int .i64 (max 0 t)] 40)
                    have hbf := hb.alloc hb.size (.cells #[.int .i64 (max 0 f), .int .i64 (max 0 t)] 40)
                    have hbs := hbf.size

                    obtain ⟨c16, f16, l16⟩ := k16.rules
                    go_wp2_with (at_builtin; refine wpList_append_lies _ rfl (.tmp 84) (.tmp 92) 29 rfl V.heap.size 40 i0 (.agg #[.int .i64 0, .int .i64 0]) 2 16 Tryz.underlying29 hi0 hz0 hz1 hz2 rfl (by decide) u12 q (((l.take q).map (wayB p h)).flatMap Bnd.cells) rfl hownf ⟨W7.heap.size, 0, none⟩ 1 1 [.int .i64 (max 0 f), .int .i64 (max 0 t)] rfl rfl hnews (by simp [Value.oneCell']) (by decide) hbig1.out hbig2.out hbf.size (W7.heap.size + 1) (by simp) ?_; intro g cap w7 hown7 hgrow hlies hlt7)
                    have hbh := hbf.grown hgrow hbs (fun r e => (hownf.lt r e).1)
                    go_roundw
                    case rel => exact ⟨q + 1, by go_num, by omega, hall2.out, by rw [hmap.out, List.flatMap_append, hwb.out]; exact hown7, hbh⟩
                    case measure => simp [intOf]; omega
                  · try simp only [Act.put, List.setIfInBounds_toArray, List.set_cons_zero, List.set_cons_succ] at hrest
                    refine held_two (i := 21) (j := 22) (by kernel_rfl) rfl rfl rfl rfl (fun K hK => ?_) (fun K hK => ?_)
                    · skip
                      go_simp
                      refine (hsp _).mono ?_
                      rintro e X1 ⟨rfl, hbel⟩
                      replace hb9 := hb9.trans (hbel.mono hb9.size)
                      try replace k16 := k16.below hbel
                      clear hS hbel
                      have hS := hSb.out _ hb9
                      refine hK _ _ hS ?_
                      clear hK K
                      try simp only [Act.put, List.setIfInBounds_toArray, List.set_cons_zero, List.set_cons_succ]
                      refine held_one (i := 22) (by kernel_rfl) rfl rfl (fun K hK => ?_)
                      go_simp
                      have hgg := hb9.size
                      have k16 := Blk.new X1 40 #[.int .i64 0, .int .i64 0]
                      replace hb9 := hb9.alloc hb9.size (.cells #[.int .i64 0, .int .i64 0] 40)
                      clear hS
                      have hS := hSb.out _ hb9
                      refine hK _ _ hS ?_
                      clear hK K
                      try simp only [Act.put, List.setIfInBounds_toArray, List.set_cons_zero, List.set_cons_succ]
                      generalize X1.heap.size = g16 at *
                      generalize X1.alloc (.cells #[.int .i64 0, .int .i64 0] 40) = X2 at *
                      refine held_one (i := 23) (by kernel_rfl) rfl rfl (fun K hK => ?_)
                      have kz := (k16.set_ 0 (.int .i64 f)).set_ 1 (.int .i64 t)
                      simp only [List.setIfInBounds_toArray, List.set_cons_zero, List.set_cons_succ] at kz
                      have bz := (hb9.setCell (p := ⟨g16, 0, none⟩) (by dsimp only; omega) (.int .i64 f)).setCell (p := ⟨g16, 1, none⟩) (by dsimp only; omega) (.int .i64 t)
                      obtain ⟨X3, hwz⟩ : ∃ x, x = (X2.setCell ⟨g16, 0, none⟩ (.int .i64 f)).setCell ⟨g16, 1, none⟩ (.int .i64 t) := ⟨_, rfl⟩
                      rw [← hwz] at kz bz
                      obtain ⟨c9, f9, l9⟩ := k16.rules
                      go_simp
                      rw [← hwz]
                      clear hwz c9 f9 l9 hS
                      have hS := hSb.out _ bz
                      refine hK _ _ hS ?_
                      clear hK K
                      try simp only [Act.put, List.setIfInBounds_toArray, List.set_cons_zero, List.set_cons_succ]
                      refine wpAnyH_done (by kernel_rfl) (hrest g16 _ ⟨kz, hgg, bz⟩) _
                    · skip
                      go_simp
                      have hgg := hb9.size
                      have k16 := Blk.new Wd 40 #[.int .i64 0, .int .i64 0]
                      replace hb9 := hb9.alloc hb9.size (.cells #[.int .i64 0, .int .i64 0] 40)
                      clear hS
                      have hS := hSb.out _ hb9
                      refine hK _ _ hS ?_
                      clear hK K
                      try simp only [Act.put, List.setIfInBounds_toArray, List.set_cons_zero, List.set_cons_succ]
                      generalize Wd.heap.size = g16 at *
                      generalize Wd.alloc (.cells #[.int .i64 0, .int .i64 0] 40) = X4 at *
                      refine held_one (i := 21) (by kernel_rfl) rfl rfl (fun K hK => ?_)
                      go_simp
                      refine (hsp _).mono ?_
                      rintro e X5 ⟨rfl, hbel⟩
                      replace hb9 := hb9.trans (hbel.mono hb9.size)
                      try replace k16 := k16.below hbel
                      clear hS hbel
                      have hS := hSb.out _ hb9
                      refine hK _ _ hS ?_
                      clear hK K
                      try simp only [Act.put, List.setIfInBounds_toArray, List.set_cons_zero, List.set_cons_succ]
                      refine held_one (i := 23) (by kernel_rfl) rfl rfl (fun K hK => ?_)
                      have kz := (k16.set_ 0 (.int .i64 f)).set_ 1 (.int .i64 t)
                      simp only [List.setIfInBounds_toArray, List.set_cons_zero, List.set_cons_succ] at kz
                      have bz := (hb9.setCell (p := ⟨g16, 0, none⟩) (by dsimp only; omega) (.int .i64 f)).setCell (p := ⟨g16, 1, none⟩) (by dsimp only; omega) (.int .i64 t)
                      obtain ⟨X6, hwz⟩ : ∃ x, x = (X5.setCell ⟨g16, 0, none⟩ (.int .i64 f)).setCell ⟨g16, 1, none⟩ (.int .i64 t) := ⟨_, rfl⟩
                      rw [← hwz] at kz bz
                      obtain ⟨c9, f9, l9⟩ := k16.rules
                      go_simp
                      rw [← hwz]
                      clear hwz c9 f9 l9 hS
                      have hS := hSb.out _ bz
                      refine hK _ _ hS ?_
                      clear hK K
                      try simp only [Act.put, List.setIfInBounds_toArray, List.set_cons_zero, List.set_cons_succ]
                      refine wpAnyH_done (by kernel_rfl) (hrest g16 _ ⟨kz, hgg, bz⟩) _
              · obtain rfl : q = k := by omega
                rw [List.take_of_length_le (by rw [hll.out]; exact Nat.le_refl _)] at hown hall
                have hres : Hid (waysT p h l = (l.map (wayB p h), 0)) := Lib.hid (by unfold waysT; rw [if_pos hallh.out, if_pos hall])
                obtain ⟨O9, co9, e9, h9⟩ := SlAt.of_own (enc := Bnd.cells) hown (by omega) (l.map (wayB p h)) rfl (fun _ => rfl) (by rw [List.length_map, hll.out])
                subst e9
                replace hall := Lib.hid hall
                go_wp2_with fail
                go_ret2
                rw [hres.out]
                exact ⟨O9, _, co9, rfl, h9.mono (by omega), b.trans (hb.mono b.size)⟩
      · rw [if_neg hn]
        have hc3 := fun W => Between_any (n : Int) 1 512 W
        simp only [show decide ((1 : Int) ≤ (n : Int) ∧ (n : Int) ≤ 512) = false from decide_eq_false (fun k => hn ⟨by omega, by omega⟩)] at hc3
        replace hn := Lib.hid hn
        go_enter Tryz.func8, Tryz.ntmps8
        go_wp2_with fail
        rw [← hw1]
        clear hw1
        obtain ⟨c3, f3, l3⟩ := k3.rules
        go_wp2_with fail
        refine (hc1 _).mono ?_
        rintro e W ⟨rfl, hb⟩
        clear c3 f3 l3 hc1
        replace k3 := k3.below hb
        replace k4 := k4.below hb
        replace b := b.trans (hb.mono b.size)
        replace hl1 := hl1.below hb
        clear hb
        obtain ⟨c4, f4, l4⟩ := k4.rules
        go_wp2_with fail
        refine (hc2 _).mono ?_
        rintro e W2 ⟨rfl, hb⟩
        clear c4 f4 l4 hc2
        replace k3 := k3.below hb
        replace k4 := k4.below hb
        replace b := b.trans (hb.mono b.size)
        replace hl1 := hl1.below hb
        clear hb
        go_wp2_with fail
        refine (hc3 _).mono ?_
        rintro e w' ⟨rfl, rfl⟩
        clear hc3
        go_wp2_with fail
        go_ret2
        exact RetSl.none_ b
    · rw [if_neg hh]
      rw [show chkHdg h = 35 from by unfold chkHdg; rw [if_neg hh]] at hc2
      go_enter Tryz.func8, Tryz.ntmps8
      go_wp2_with fail
      rw [← hw1]
      clear hw1
      obtain ⟨c3, f3, l3⟩ := k3.rules
      go_wp2_with fail
      refine (hc1 _).mono ?_
      rintro e W ⟨rfl, hb⟩
      clear c3 f3 l3 hc1
      replace k3 := k3.below hb
      replace k4 := k4.below hb
      replace b := b.trans (hb.mono b.size)
      replace hl1 := hl1.below hb
      clear hb
      obtain ⟨c4, f4, l4⟩ := k4.rules
      go_wp2_with fail
      refine (hc2 _).mono ?_
      rintro e W2 ⟨rfl, hb⟩
      clear c4 f4 l4 hc2
      replace k3 := k3.below hb
      replace k4 := k4.below hb
      replace b := b.trans (hb.mono b.size)
      replace hl1 := hl1.below hb
      clear hb
      go_wp2_with fail
      go_ret2
      exact RetSl.none_ b
  · rw [if_neg hp]
    rw [show chkPnt p = 10 from by unfold chkPnt; rw [if_neg hp]] at hc1
    go_enter Tryz.func8, Tryz.ntmps8
    go_wp2_with fail
    rw [← hw1]
    clear hw1
    obtain ⟨c3, f3, l3⟩ := k3.rules
    go_wp2_with fail
    refine (hc1 _).mono ?_
    rintro e W ⟨rfl, hb⟩
    clear c3 f3 l3 hc1
    replace k3 := k3.below hb
    replace k4 := k4.below hb
    replace b := b.trans (hb.mono b.size)
    replace hl1 := hl1.below hb
    clear hb
    go_wp2_with fail
    go_ret2
    exact RetSl.none_ b
end Go.Proofs.YtfengddpfeneiaaGreat
namespace Go.Proofs.YtfengddpfeneiaaGreat
open Go.RowKit Go.Shelf
theorem alikeB_sameA (A C : Option Addr) (na ca nb cb B1 B2 : Nat) (xs : List Bnd) (w : World) (h1 : SlAt w B1 2 Bnd.cells A na ca xs) (h2 : SlAt w B2 2 Bnd.cells C nb cb xs) :
    Calls Tryz.prog 9 #[.slice A na ca, .slice C nb cb] w fun e w' => e = .returned (.bool true) ∧ Below w.heap.size w w' := by
  have := alikeB_any A C na ca nb cb B1 B2 xs xs w h1 h2
  rwa [decide_eq_true rfl] at this
end Go.Proofs.YtfengddpfeneiaaGreat
namespace Go.Proofs.YtfengddpfeneiaaGreat
open Go.RowKit Go.Shelf
set_option linter.unusedSimpArgs false
set_option linter.unusedVariables false

set_option maxRecDepth 100000 in
set_option maxHeartbeats 4000000 in
theorem ShotWays_any (p : Pnt) (h : Hdg) (L : Option Addr) (n c : Nat) (l : List Reg) (w : World) (hL : SlAt w 0 8 Reg.cells L n c l) :
    Calls Tryz.prog 3 #[.agg #[.int .i64 p.x, .int .i64 p.y, .int .i64 h.p, .int .i64 h.q, .int .i64 h.c], .slice L n c] w fun e w' => e = .returned (.bool true) ∧ Below w.heap.size w w' := by
  have h1 := fun W g => Ways_any p h l L n c 0 W g
  have h2 := fun W g => RWays_any p h l L n c 0 W g
  unfold RetSl at h1 h2
  generalize waysR p h l = r1 at *
  obtain ⟨w1, hw1⟩ : ∃ w1, w1 = w.alloc (.cells #[.int .i64 p.x, .int .i64 p.y, .int .i64 h.p, .int .i64 h.q, .int .i64 h.c] 27) := ⟨_, rfl⟩
  have k3 : Blk w1 w.heap.size 27 #[.int .i64 p.x, .int .i64 p.y, .int .i64 h.p, .int .i64 h.q, .int .i64 h.c] := by rw [hw1]; exact Blk.new _ _ _
  have b : Below w.heap.size w w1 := by rw [hw1]; exact (Below.refl _ _).alloc (Nat.le_refl _) _
  have hL1 : SlAt w1 0 8 Reg.cells L n c l := by rw [hw1]; exact hL.alloc _
  clear hL
  go_enter Tryz.func3, Tryz.ntmps3
  go_wp2_with fail
  rw [← hw1]
  clear hw1
  obtain ⟨c3, f3, l3⟩ := k3.rules
  go_wp2_with fail
  refine (h1 _ hL1).mono ?_
  rintro e W ⟨T, n1, ct, rfl, hT, hb⟩
  clear c3 f3 l3
  replace hT := hT.mono (Nat.zero_le _)
  replace k3 := k3.below hb
  replace b := b.trans (hb.mono b.size)
  replace hL1 := hL1.below hb
  clear hb
  obtain ⟨c3, f3, l3⟩ := k3.rules
  go_wp2_with fail
  refine (h2 _ hL1).mono ?_
  rintro e W2 ⟨U, n2, cu, rfl, hU, hb⟩
  clear c3 f3 l3
  (replace hU := hU.mono (Nat.zero_le _)); (replace hT := hT.below hb)
  replace k3 := k3.below hb
  replace b := b.trans (hb.mono b.size)
  replace hL1 := hL1.below hb
  clear hb
  clear h1 h2
  go_wp2_with fail
  refine (alikeB_sameA _ _ _ _ _ _ _ _ _ _ hT hU).mono ?_
  rintro e W8 ⟨rfl, hb⟩
  clear hT hU
  replace k3 := k3.below hb
  replace b := b.trans (hb.mono b.size)
  replace hL1 := hL1.below hb
  clear hb
  go_wp2_with fail
  refine (works_any _).mono ?_
  rintro e W11 ⟨rfl, hb⟩
  go_wp2_with fail
  go_ret
  exact ⟨rfl, b.trans (hb.mono b.size)⟩
end Go.Proofs.YtfengddpfeneiaaGreat
