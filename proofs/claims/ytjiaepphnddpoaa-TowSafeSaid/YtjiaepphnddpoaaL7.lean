/-
  The law TowSafe.
-/
import Derived.Test.YtjiaepphnddpoaaE1
import Derived.Test.YtjiaepphnddpoaaM4
import Derived.Test.YtjiaepphnddpoaaL3
import Derived.Deep.DeepCutAuto
namespace Go.Proofs.Ytjiaepphnddpoaa
open Go.RowKit Go.Shelf
set_option linter.unusedSimpArgs false
set_option linter.unusedVariables false

set_option maxRecDepth 100000 in
set_option maxHeartbeats 8000000 in
theorem TowSafe_any (s : Strm) (A O D V Q : Option Addr) (n c no co nd cd nv cv nQ cQ : Nat) (bs : List Bnd) (l : List Wat) (v bits : List Int) (w : World) (hs : SlAt w 0 5 Sec.cells A n c s.secs) (hl : SlAt w 0 2 Bnd.cells O no co bs) (hd : SlAt w 0 4 Wat.cells D nd cd l) (hv : SlAt w 0 1 ivs V nv cv v) (hq : SlAt w 0 1 ivs Q nQ cQ bits) :
    Calls Try.prog 9 #[.agg #[.int .i64 s.head, .slice A n c, .int .i64 s.lane.lo, .int .i64 s.lane.hi, .int .i64 s.bend, .slice O no co], .agg #[.slice D nd cd, .slice V nv cv], .slice Q nQ cQ] w fun e w' => e = .returned (.bool true) ∧ Below w.heap.size w w' := by
  obtain ⟨w0, hw0⟩ : ∃ w0, w0 = w.alloc (.cells #[.int .i64 s.head, .slice A n c, .int .i64 s.lane.lo, .int .i64 s.lane.hi, .int .i64 s.bend, .slice O no co] 37) := ⟨_, rfl⟩
  have z0 : w0.heap.size = w.heap.size + 1 := by rw [hw0, World.size_alloc]
  obtain ⟨w1, hw1⟩ : ∃ w1, w1 = w0.alloc (.cells #[.slice D nd cd, .slice V nv cv] 64) := ⟨_, rfl⟩
  have k3 : Blk w1 w.heap.size 37 #[.int .i64 s.head, .slice A n c, .int .i64 s.lane.lo, .int .i64 s.lane.hi, .int .i64 s.bend, .slice O no co] := by rw [hw1, hw0]; exact (Blk.new _ _ _).alloc _
  have k4 : Blk w1 (w.heap.size + 1) 64 #[.slice D nd cd, .slice V nv cv] := by have := Blk.new w0 64 #[.slice D nd cd, .slice V nv cv]; rw [z0, ← hw1] at this; exact this
  have b : Below w.heap.size w w1 := by rw [hw1, hw0]; exact ((Below.refl _ _).alloc (Nat.le_refl _) _).alloc (by simp) _
  replace hs : SlAt w1 0 5 Sec.cells A n c s.secs := by rw [hw1, hw0]; exact (hs.alloc _).alloc _
  replace hl : SlAt w1 0 2 Bnd.cells O no co bs := by rw [hw1, hw0]; exact (hl.alloc _).alloc _
  replace hd : SlAt w1 0 4 Wat.cells D nd cd l := by rw [hw1, hw0]; exact (hd.alloc _).alloc _
  replace hv : SlAt w1 0 1 ivs V nv cv v := by rw [hw1, hw0]; exact (hv.alloc _).alloc _
  replace hq : SlAt w1 0 1 ivs Q nQ cQ bits := by rw [hw1, hw0]; exact (hq.alloc _).alloc _
  rw [hw0] at hw1
  clear hw0 z0
  have hWt := fun W h1 h2 h3 h4 => Watch_any s A O D V n c no co nd cd nv cv bs l v W h1 h2 h3 h4
  have hKp := fun W h1 h2 h3 h4 => Keeps_any s A O D V n c no co nd cd nv cv bs l v W h1 h2 h3 h4
  by_cases he : errW s bs l v = 0
  · have e1 : watchR s bs l v = ((fstN (bentN s bs l) l.length, fstN (pulledN s bs l v) l.length), 0) := by rw [watchR, if_pos he]; rfl
    have e2 : keepsR s bs l v = (keepsS s bs l v, 0) := by rw [keepsR, if_pos he]
    simp only [e1] at hWt
    simp only [e2] at hKp
    obtain ⟨ho, hb0, hwl, hvs, hvl, -⟩ := errW_zero he
    have hks : keepsS s bs l v = ((fstN (bentN s bs l) l.length == -1) && (fstN (pulledN s bs l v) l.length == -1)) := by
      unfold keepsS strainS; rw [Bool.eq_iff_iff]; simp
    clear e1 e2
    obtain ⟨xb, hxb⟩ : ∃ xb, xb = fstN (bentN s bs l) l.length := ⟨_, rfl⟩
    obtain ⟨xp, hxp⟩ : ∃ xp, xp = fstN (pulledN s bs l v) l.length := ⟨_, rfl⟩
    simp only [← hxb, ← hxp] at hWt hks
    replace hxb := Lib.hid hxb
    replace hxp := Lib.hid hxp
    obtain ⟨q1, hq1⟩ : ∃ q1, (xb == -1) = q1 := ⟨_, rfl⟩
    obtain ⟨q2, hq2⟩ : ∃ q2, (xp == -1) = q2 := ⟨_, rfl⟩
    rw [hq1, hq2] at hks
    simp only [hks] at hKp
    clear hks
    replace he := Lib.hid he
    replace ho := Lib.hid ho
    replace hb0 := Lib.hid hb0
    replace hwl := Lib.hid hwl
    replace hvs := Lib.hid hvs
    replace hvl := Lib.hid hvl
    go_enter Try.func9, Try.ntmps9
    go_wp2_with fail
    rw [← hw1]
    clear hw1
    refine (hWt _ hs hl hd hv).mono ?_
    clear hWt
    rintro e Wa ⟨rfl, hbel⟩
    replace k3 := k3.below hbel
    replace k4 := k4.below hbel
    replace b := b.trans (hbel.mono b.size)
    replace hs := hs.below hbel
    replace hl := hl.below hbel
    replace hd := hd.below hbel
    replace hv := hv.below hbel
    replace hq := hq.below hbel
    clear hbel
    obtain ⟨c3, f3, l3⟩ := k3.rules
    obtain ⟨c4, f4, l4⟩ := k4.rules
    go_wp2_with fail
    clear c3 f3 l3 c4 f4 l4
    have hbel : Below Wa.heap.size Wa (Wa.alloc (.cells #[.int .i64 xb, .int .i64 xp] 66)) := (Below.refl _ _).alloc (Nat.le_refl _) _
    have kS := Blk.new Wa 66 #[.int .i64 xb, .int .i64 xp]
    replace k3 := k3.below hbel
    replace k4 := k4.below hbel
    replace b := b.trans (hbel.mono b.size)
    replace hs := hs.below hbel
    replace hl := hl.below hbel
    replace hd := hd.below hbel
    replace hv := hv.below hbel
    replace hq := hq.below hbel
    clear hbel
    generalize Wa.alloc (.cells #[.int .i64 xb, .int .i64 xp] 66) = W at *
    refine (hKp _ hs hl hd hv).mono ?_
    clear hKp
    rintro e W ⟨rfl, hbel⟩
    replace kS := kS.below hbel
    replace k3 := k3.below hbel
    replace k4 := k4.below hbel
    replace b := b.trans (hbel.mono b.size)
    replace hs := hs.below hbel
    replace hl := hl.below hbel
    replace hd := hd.below hbel
    replace hv := hv.below hbel
    replace hq := hq.below hbel
    clear hbel
    obtain ⟨cS, fS, lS⟩ := kS.rules
    go_upto_region 3 with fail
    go_cut [9, 56] (fun i u wx => (∃ x : Bool, i = .bool x) ∧ u = .bool false ∧ wx = W)
    case first =>
      go_wp2_with fail
      all_goals (go_meet; exact ⟨⟨_, rfl⟩, rfl, rfl⟩)
    case rest =>
    obtain ⟨⟨ks, rfl⟩, rfl, rfl⟩ := hcut
    obtain ⟨c3, f3, l3⟩ := k3.rules
    obtain ⟨c4, f4, l4⟩ := k4.rules
    go_wp2_with fail
    refine (inside_any bs bits 0 O Q no co nQ cQ 0 0 _ (by omega) (by omega) hl hq).mono ?_
    rintro e W ⟨P1, m1, rfl, hr1, hbel⟩
    clear cS fS lS
    clear c3 f3 l3 c4 f4 l4
    replace kS := kS.below hbel
    replace k3 := k3.below hbel
    replace k4 := k4.below hbel
    replace b := b.trans (hbel.mono b.size)
    replace hs := hs.below hbel
    replace hl := hl.below hbel
    replace hd := hd.below hbel
    replace hv := hv.below hbel
    replace hq := hq.below hbel
    clear hbel
    replace hr1 := hr1.mono (Nat.zero_le _)
    have hno : n = no := by have := okOffs_len hb0.out; have := hl.len; have := hs.len; omega
    subst hno
    have hn8 : n ≤ 8 := by have := ok_head ho.out; unfold headOk at this; have := hs.len; omega
    have hll := Lib.hid hl.len
    have hsl := Lib.hid hs.len
    have hdl := Lib.hid hd.len
    have hvl2 : Hid (v.length = nd) := by show _ = _; rw [hvl.out, hdl.out]
    have hnv : nv = nd := by have := hv.len; have := hvl2.out; omega
    subst hnv
    have hnd : nv ≤ 48 := by
      have hbw : errBW s bs l = 0 := by
        by_cases h : errBW s bs l = 0
        · exact h
        · have h9 := he.out; rw [errW, if_neg h] at h9; exact absurd h9 h
      have h8 := (errBW_zero hbw).2
      unfold okWats at h8
      simp only [Bool.and_eq_true, decide_eq_true_eq] at h8
      have := hdl.out; omega
    have hL0 := insL_lies bits 0 (okOffs_all hb0.out)
    generalize insL bs bits 0 = tr0 at *
    obtain ⟨c3, f3, l3⟩ := k3.rules
    go_wp2_with fail
    clear c3 f3 l3
    go_loopw [11, 13] (fun vt i wr => ∃ (k : Nat) (Pt : Option Addr) (mt : Nat) (tr : List Int), i = .int .i64 k ∧ k ≤ nv ∧ vt = .slice Pt n mt ∧ SlAt wr 0 1 ivs Pt n mt tr ∧ Lies tr (encAt s bs l k) ∧ Below W.heap.size W wr) (fun vt i wr => nv - (intOf i).toNat)
    case atStart => exact ⟨0, _, _, tr0, rfl, Nat.zero_le _, rfl, hr1, hL0, Below.refl _ _⟩
    case round =>
      clear hr1 hL0
      obtain ⟨k, Pt, mt, tr, rfl, hk, rfl, hr1, hL, hbel⟩ := hrel
      have hB0 := Below.refl W.heap.size W
      replace k3 := k3.below hbel
      replace k4 := k4.below hbel
      replace kS := kS.below hbel
      replace b := b.trans (hbel.mono b.size)
      replace hB0 := hB0.trans (hbel.mono hB0.size)
      replace hs := hs.below hbel
      replace hl := hl.below hbel
      replace hd := hd.below hbel
      replace hv := hv.below hbel
      replace hq := hq.below hbel
      clear hbel
      by_cases hlt : k < nv
      · obtain ⟨x, hx⟩ := some_of_lt hdl.out hlt
        obtain ⟨y, hy⟩ := some_of_lt hvl2.out hlt
        have hxd : l.getD k wat0 = x := getD_of _ hx
        have hyd : v.getD k 0 = y := getD_of _ hy
        obtain ⟨-, e2, e3, -, -⟩ := within_step (bits := bits) (3 * k) ho.out hb0.out hwl.out hL
        rw [hxd] at e2 e3
        rw [hsl.out] at e2 e3
        have hxo := okWat_get hwl.out k
        rw [hxd] at hxo
        obtain ⟨xb1, xb2, xb3⟩ := of_decide_eq_true (p := -100 ≤ x.acr.lo ∧ x.acr.lo ≤ x.acr.hi ∧ x.acr.hi ≤ 100) hxo.1
        obtain ⟨xa1, xa2, xa3⟩ := of_decide_eq_true (p := -50 ≤ x.alo.lo ∧ x.alo.lo ≤ x.alo.hi ∧ x.alo.hi ≤ 50) hxo.2
        obtain ⟨ys1, ys2⟩ := of_decide_eq_true (p := 0 ≤ y ∧ y ≤ 100) (List.all_eq_true.1 hvs.out y (List.mem_of_getElem? hy))
        have hDr := fun W h => drifts_any x.acr n bits (3 * (k : Int)) Q nQ cQ 0 W (by omega) (by omega) (by omega) h
        have hSt := fun P m W h1 h2 h3 => Step_any s A Pt P n c n mt n m 0 0 0 tr (drTo x.acr bits (3 * (k : Int)) n) W h1 h2 h3
        simp only [e2] at hSt
        replace e3 := Lib.hid e3
        have hlenE : (encAt s bs l (k + 1)).length = s.secs.length := by rw [encAt_len (hll.out), hsl.out]
        have hlen2 : Hid ((stepL s tr (drTo x.acr bits (3 * (k : Int)) n)).length = n) := by show _ = _; rw [e3.out.1, hlenE]; exact hsl.out
        clear e2 hL hxo
        generalize stepL s tr (drTo x.acr bits (3 * (k : Int)) n) = tr1 at *
        -- what this step may do
        have hsb0 := fun i (hi : i < n) (h : s.bend < bendAt s tr1 i) => safe_bent (n := l.length) hlenE e3.out (by rw [hsl.out]; exact hi) (by rw [hdl.out]; exact hlt) h
        have hsp0 := fun c0 (hc : inB c0 x.alo) i (hi : i < n) (h : (s.sec i).cap < sumFr (pullAt s (max 0 (y - c0)) (bendAt s tr1)) i (n - i)) =>
          safe_pulled (v := v) (n := l.length) (c := c0) (t := k) ho.out hlenE e3.out (by rw [hxd]; exact hc) (i := i) (by rw [hsl.out]; exact hi) (by rw [hdl.out]; exact hlt) (by rw [hyd, hsl.out]; exact h)
        rw [← hxb.out] at hsb0
        rw [← hxp.out] at hsp0
        have hrng := e3.out.range (okOffs_all (encAt_ok ho.out hb0.out hwl.out (k + 1)))
        clear hxd hyd hlenE
        replace hsb0 := Lib.hid hsb0
        replace hsp0 := Lib.hid hsp0
        replace hrng := Lib.hid hrng
        obtain ⟨bw, ow, hA, -, hbw, z0, z1, z2, z3⟩ := hd.wat hx
        obtain ⟨bv, ov, hV, -, hbv, y0⟩ := hv.int hy
        replace hx := Lib.hid hx
        replace hy := Lib.hid hy
        subst hA
        subst hV
        have hk0 : (0 : Int) ≤ (k : Int) := by omega
        have hk1 : (k : Int) < (nv : Int) := by omega
        have u1 := IntWalk.i64_in (3 * (k : Int)) (by omega)
        obtain ⟨c3, f3, l3⟩ := k3.rules
        obtain ⟨c4, f4, l4⟩ := k4.rules
        go_wp2_with fail
        clear c3 f3 l3 c4 f4 l4 z0 z1 z2 z3
        have k9 := Blk.new wr 49 #[.int .i64 x.acr.lo, .int .i64 x.acr.hi, .int .i64 x.alo.lo, .int .i64 x.alo.hi]
        have hbel : Below wr.heap.size wr (wr.alloc (.cells #[.int .i64 x.acr.lo, .int .i64 x.acr.hi, .int .i64 x.alo.lo, .int .i64 x.alo.hi] 49)) := (Below.refl _ _).alloc (Nat.le_refl _) _
        replace k3 := k3.below hbel
        replace k4 := k4.below hbel
        replace kS := kS.below hbel
        replace b := b.trans (hbel.mono b.size)
        replace hB0 := hB0.trans (hbel.mono hB0.size)
        replace hs := hs.below hbel
        replace hl := hl.below hbel
        replace hd := hd.below hbel
        replace hv := hv.below hbel
        replace hq := hq.below hbel
        replace hr1 := hr1.below hbel
        replace y0 := (hbel.cell (p := ⟨bv, ov + k, none⟩) hbv).trans y0
        replace hbv := Nat.lt_of_lt_of_le hbv hbel.size
        clear hbel
        generalize wr.alloc (.cells #[.int .i64 x.acr.lo, .int .i64 x.acr.hi, .int .i64 x.alo.lo, .int .i64 x.alo.hi] 49) = W1 at *
        refine wp_held_np (fun w' : World => (∀ j, w'.cell? ⟨w.heap.size, j, none⟩ = #[Value.int .i64 s.head, .slice A n c, .int .i64 s.lane.lo, .int .i64 s.lane.hi, .int .i64 s.bend, .slice O n co][j]?) ∧ (∀ j, w'.cell? ⟨wr.heap.size, j, none⟩ = #[Value.int .i64 x.acr.lo, .int .i64 x.acr.hi, .int .i64 x.alo.lo, .int .i64 x.alo.hi][j]?)) (by kernel_rfl) ?_
        have hbel : Below W1.heap.size W1 W1.drew := (Below.refl _ _).drew
        replace k3 := k3.below hbel
        replace k4 := k4.below hbel
        replace kS := kS.below hbel
        replace b := b.trans (hbel.mono b.size)
        replace hB0 := hB0.trans (hbel.mono hB0.size)
        replace hs := hs.below hbel
        replace hl := hl.below hbel
        replace hd := hd.below hbel
        replace hv := hv.below hbel
        replace hq := hq.below hbel
        replace k9 := k9.below hbel
        replace hr1 := hr1.below hbel
        replace y0 := (hbel.cell (p := ⟨bv, ov + k, none⟩) hbv).trans y0
        replace hbv := Nat.lt_of_lt_of_le hbv hbel.size
        clear hbel
        generalize W1.drew = W1 at *
        have hS : (fun w' : World => (∀ j, w'.cell? ⟨w.heap.size, j, none⟩ = #[Value.int .i64 s.head, .slice A n c, .int .i64 s.lane.lo, .int .i64 s.lane.hi, .int .i64 s.bend, .slice O n co][j]?) ∧ (∀ j, w'.cell? ⟨wr.heap.size, j, none⟩ = #[Value.int .i64 x.acr.lo, .int .i64 x.acr.hi, .int .i64 x.alo.lo, .int .i64 x.alo.hi][j]?)) W1 := ⟨k3.cell, k9.cell⟩
        refine held_take (i := 0) (v := ?_) 93 rfl rfl (by kernel_rfl) (by kernel_rfl) (by kernel_rfl) (fun _ _ _ h => h) (Or.inl ⟨by rfl, ?_⟩) hS ?_
        rotate_left 1
        · intro w' hSw
          try dsimp only at hSw
          obtain ⟨q3, q4⟩ := hSw
          go_simp
          all_goals with_reducible rfl
        try simp only [Act.put, List.setIfInBounds_toArray, List.set_cons_zero, List.set_cons_succ]
        refine held_take (i := 1) (v := ?_) 94 rfl rfl (by kernel_rfl) (by kernel_rfl) (by kernel_rfl) (fun _ _ _ h => h) (Or.inl ⟨by rfl, ?_⟩) hS ?_
        rotate_left 1
        · intro w' hSw
          try dsimp only at hSw
          obtain ⟨q3, q4⟩ := hSw
          go_simp
          all_goals with_reducible rfl
        try simp only [Act.put, List.setIfInBounds_toArray, List.set_cons_zero, List.set_cons_succ]
        refine held_take (i := 2) (v := ?_) 95 rfl rfl (by kernel_rfl) (by kernel_rfl) (by kernel_rfl) (fun _ _ _ h => h) (Or.inl ⟨by rfl, ?_⟩) hS ?_
        rotate_left 1
        · intro w' hSw
          try dsimp only at hSw
          obtain ⟨q3, q4⟩ := hSw
          go_simp
          all_goals with_reducible rfl
        try simp only [Act.put, List.setIfInBounds_toArray, List.set_cons_zero, List.set_cons_succ]
        refine held_take (i := 3) (v := ?_) 96 rfl rfl (by kernel_rfl) (by kernel_rfl) (by kernel_rfl) (fun _ _ _ h => h) (Or.inl ⟨by rfl, ?_⟩) hS ?_
        rotate_left 1
        · intro w' hSw
          try dsimp only at hSw
          obtain ⟨q3, q4⟩ := hSw
          go_simp
          all_goals with_reducible rfl
        try simp only [Act.put, List.setIfInBounds_toArray, List.set_cons_zero, List.set_cons_succ]
        refine held_take (i := 4) (v := ?_) 97 rfl rfl (by kernel_rfl) (by kernel_rfl) (by kernel_rfl) (fun _ _ _ h => h) (Or.inl ⟨by rfl, ?_⟩) hS ?_
        rotate_left 1
        · intro w' hSw
          try dsimp only at hSw
          obtain ⟨q3, q4⟩ := hSw
          go_simp
          all_goals with_reducible rfl
        try simp only [Act.put, List.setIfInBounds_toArray, List.set_cons_zero, List.set_cons_succ]
        refine held_take (i := 5) (v := ?_) 98 rfl rfl (by kernel_rfl) (by kernel_rfl) (by kernel_rfl) (fun _ _ _ h => h) (Or.inl ⟨by rfl, ?_⟩) hS ?_
        rotate_left 1
        · intro w' hSw
          try dsimp only at hSw
          obtain ⟨q3, q4⟩ := hSw
          go_simp
          all_goals with_reducible rfl
        try simp only [Act.put, List.setIfInBounds_toArray, List.set_cons_zero, List.set_cons_succ]
        refine held_take (i := 6) (v := ?_) 99 rfl rfl (by kernel_rfl) (by kernel_rfl) (by kernel_rfl) (fun _ _ _ h => h) (Or.inl ⟨by rfl, ?_⟩) hS ?_
        rotate_left 1
        · intro w' hSw
          try dsimp only at hSw
          obtain ⟨q3, q4⟩ := hSw
          go_simp
          all_goals with_reducible rfl
        try simp only [Act.put, List.setIfInBounds_toArray, List.set_cons_zero, List.set_cons_succ]
        refine held_take (i := 7) (v := ?_) 100 rfl rfl (by kernel_rfl) (by kernel_rfl) (by kernel_rfl) (fun _ _ _ h => h) (Or.inl ⟨by rfl, ?_⟩) hS ?_
        rotate_left 1
        · intro w' hSw
          try dsimp only at hSw
          obtain ⟨q3, q4⟩ := hSw
          go_simp
          all_goals with_reducible rfl
        try simp only [Act.put, List.setIfInBounds_toArray, List.set_cons_zero, List.set_cons_succ]
        refine held_take (i := 8) (v := ?_) 101 rfl rfl (by kernel_rfl) (by kernel_rfl) (by kernel_rfl) (fun _ _ _ h => h) (Or.inl ⟨by rfl, ?_⟩) hS ?_
        rotate_left 1
        · intro w' hSw
          try dsimp only at hSw
          obtain ⟨q3, q4⟩ := hSw
          go_simp
          all_goals with_reducible rfl
        try simp only [Act.put, List.setIfInBounds_toArray, List.set_cons_zero, List.set_cons_succ]
        clear u1
        refine held_one (i := 9) (by kernel_rfl) rfl rfl (fun K hK => ?_)
        go_simp
        refine (hDr _ hq).mono ?_
        rintro e W1 ⟨P5, m5, rfl, hr5, hbel⟩
        clear hDr
        replace hr5 := hr5.mono (Nat.zero_le _)
        replace hr1 := hr1.below hbel
        replace y0 := (hbel.cell (p := ⟨bv, ov + k, none⟩) hbv).trans y0
        replace hbv := Nat.lt_of_lt_of_le hbv hbel.size
        clear hS
        replace k3 := k3.below hbel
        replace k4 := k4.below hbel
        replace kS := kS.below hbel
        replace b := b.trans (hbel.mono b.size)
        replace hB0 := hB0.trans (hbel.mono hB0.size)
        replace hs := hs.below hbel
        replace hl := hl.below hbel
        replace hd := hd.below hbel
        replace hv := hv.below hbel
        replace hq := hq.below hbel
        replace k9 := k9.below hbel
        skip
        clear hbel
        have hS : (fun w' : World => (∀ j, w'.cell? ⟨w.heap.size, j, none⟩ = #[Value.int .i64 s.head, .slice A n c, .int .i64 s.lane.lo, .int .i64 s.lane.hi, .int .i64 s.bend, .slice O n co][j]?) ∧ (∀ j, w'.cell? ⟨wr.heap.size, j, none⟩ = #[Value.int .i64 x.acr.lo, .int .i64 x.acr.hi, .int .i64 x.alo.lo, .int .i64 x.alo.hi][j]?)) W1 := ⟨k3.cell, k9.cell⟩
        refine hK _ _ hS ?_
        clear hK K
        try simp only [Act.put, List.setIfInBounds_toArray, List.set_cons_zero, List.set_cons_succ]
        refine held_one (i := 10) (by kernel_rfl) rfl rfl (fun K hK => ?_)
        go_simp
        refine (hSt P5 m5 _ hs hr1 hr5).mono ?_
        rintro e W1 ⟨P6, n6, m6, rfl, hr6, hbel⟩
        clear hSt hr5 hr1
        obtain rfl : n = n6 := by have h9 : tr1.length = n6 := hr6.len; have := hlen2.out; omega
        replace hr6 := hr6.mono (Nat.zero_le _)
        replace y0 := (hbel.cell (p := ⟨bv, ov + k, none⟩) hbv).trans y0
        replace hbv := Nat.lt_of_lt_of_le hbv hbel.size
        clear hS
        replace k3 := k3.below hbel
        replace k4 := k4.below hbel
        replace kS := kS.below hbel
        replace b := b.trans (hbel.mono b.size)
        replace hB0 := hB0.trans (hbel.mono hB0.size)
        replace hs := hs.below hbel
        replace hl := hl.below hbel
        replace hd := hd.below hbel
        replace hv := hv.below hbel
        replace hq := hq.below hbel
        replace k9 := k9.below hbel
        skip
        clear hbel
        have hS : (fun w' : World => (∀ j, w'.cell? ⟨w.heap.size, j, none⟩ = #[Value.int .i64 s.head, .slice A n c, .int .i64 s.lane.lo, .int .i64 s.lane.hi, .int .i64 s.bend, .slice O n co][j]?) ∧ (∀ j, w'.cell? ⟨wr.heap.size, j, none⟩ = #[Value.int .i64 x.acr.lo, .int .i64 x.acr.hi, .int .i64 x.alo.lo, .int .i64 x.alo.hi][j]?)) W1 := ⟨k3.cell, k9.cell⟩
        refine hK _ _ hS ?_
        clear hK K
        try simp only [Act.put, List.setIfInBounds_toArray, List.set_cons_zero, List.set_cons_succ]
        refine held_take (i := 11) (v := ?_) 92 rfl rfl (by kernel_rfl) (by kernel_rfl) (by kernel_rfl) (fun _ _ _ h => h) (Or.inl ⟨by rfl, ?_⟩) hS ?_
        rotate_left 1
        · intro w' hSw
          try dsimp only at hSw
          obtain ⟨q3, q4⟩ := hSw
          go_simp
          all_goals with_reducible rfl
        try simp only [Act.put, List.setIfInBounds_toArray, List.set_cons_zero, List.set_cons_succ]
        refine held_take (i := 12) (v := ?_) 104 rfl rfl (by kernel_rfl) (by kernel_rfl) (by kernel_rfl) (fun _ _ _ h => h) (Or.inl ⟨by rfl, ?_⟩) hS ?_
        rotate_left 1
        · intro w' hSw
          try dsimp only at hSw
          obtain ⟨q3, q4⟩ := hSw
          go_simp
          all_goals with_reducible rfl
        try simp only [Act.put, List.setIfInBounds_toArray, List.set_cons_zero, List.set_cons_succ]
        refine held_take (i := 13) (v := ?_) 105 rfl rfl (by kernel_rfl) (by kernel_rfl) (by kernel_rfl) (fun _ _ _ h => h) (Or.inl ⟨by rfl, ?_⟩) hS ?_
        rotate_left 1
        · intro w' hSw
          try dsimp only at hSw
          obtain ⟨q3, q4⟩ := hSw
          go_simp
          all_goals with_reducible rfl
        try simp only [Act.put, List.setIfInBounds_toArray, List.set_cons_zero, List.set_cons_succ]
        refine held_take (i := 14) (v := ?_) 11 rfl rfl (by kernel_rfl) (by kernel_rfl) (by kernel_rfl) (fun _ _ _ h => h) (Or.inl ⟨by rfl, ?_⟩) hS ?_
        rotate_left 1
        · intro w' hSw
          try dsimp only at hSw
          obtain ⟨q3, q4⟩ := hSw
          go_simp
          all_goals with_reducible rfl
        try simp only [Act.put, List.setIfInBounds_toArray, List.set_cons_zero, List.set_cons_succ]
        refine held_take (i := 15) (v := ?_) 8 rfl rfl (by kernel_rfl) (by kernel_rfl) (by kernel_rfl) (fun _ _ _ h => h) (Or.inl ⟨by rfl, ?_⟩) hS ?_
        rotate_left 1
        · intro w' hSw
          try dsimp only at hSw
          obtain ⟨q3, q4⟩ := hSw
          go_simp
          all_goals with_reducible rfl
        try simp only [Act.put, List.setIfInBounds_toArray, List.set_cons_zero, List.set_cons_succ]
        refine wpAnyH_done (by kernel_rfl) (noPanic_normal ?_) _
        clear hS
        have hmax := max2_int
        have hr := restS_bd (pickS bits k) (many := x.alo.hi - x.alo.lo + 1) (by omega)
        have hR := fun W => flip_w (Rest_any (pickS bits k) (x.alo.hi - x.alo.lo + 1) W (by omega))
        obtain ⟨q, hq9⟩ : ∃ q, q = restS (pickS bits k) (x.alo.hi - x.alo.lo + 1) := ⟨_, rfl⟩
        rw [← hq9] at hr
        simp only [← hq9] at hR
        obtain ⟨r1, r2⟩ := hr
        have u1 := IntWalk.i64_in (y - x.alo.lo) (by omega)
        have u2 := IntWalk.i64_in (x.alo.hi - x.alo.lo) (by omega)
        have u3 := IntWalk.i64_in (x.alo.hi - x.alo.lo + 1) (by omega)
        have u4 := IntWalk.i64_in (y - x.alo.lo - q) (by omega)
        replace hq9 := Lib.hid hq9
        obtain ⟨c9, f9, l9⟩ := k9.rules
        obtain ⟨c4, f4, l4⟩ := k4.rules
        go_wp2_with fail
        go_quiet ((first | (go_at_call 35; with_reducible exact Calls.quiet_of_same (flip_w (Pick_any bits k Q nQ cQ 0 _ (hq.drewN _)))) | (go_at_call 34; with_reducible exact Calls.quiet_of_same (hR _))))
        clear u1 u2 u3 u4 hR c9 f9 l9 c4 f4 l4 y0 hbv
        have hbel : Below W1.heap.size W1 (W1.drewN nq) := below_drewN (Below.refl _ _) nq
        replace k3 := k3.below hbel
        replace k4 := k4.below hbel
        replace kS := kS.below hbel
        replace b := b.trans (hbel.mono b.size)
        replace hB0 := hB0.trans (hbel.mono hB0.size)
        replace hs := hs.below hbel
        replace hl := hl.below hbel
        replace hd := hd.below hbel
        replace hv := hv.below hbel
        replace hq := hq.below hbel
        replace hr6 := hr6.below hbel
        clear hbel k9
        generalize W1.drewN nq = W2 at *
        have hw0 : 0 ≤ max 0 (y - x.alo.lo - q) ∧ max 0 (y - x.alo.lo - q) ≤ 150 := by omega
        have hsp1 := hsp0.out (x.alo.lo + q) ⟨by omega, by omega⟩
        rw [show max 0 (y - (x.alo.lo + q)) = max 0 (y - x.alo.lo - q) by congr 1; omega] at hsp1
        generalize hwv2 : max 0 (y - x.alo.lo - q) = wv at *
        replace hsp1 := Lib.hid hsp1
        replace hwv2 := Lib.hid hwv2
        obtain ⟨hw1', hw2'⟩ := hw0
        have hbend := fun i (_ : True) => bendAt_bd (ok_head ho.out) hrng.out i
        have hsum := fun i (hi : i ≤ n) => sumFr_bd (g := pullAt s wv (bendAt s tr1)) (M := 100000000) (n - i) i fun j a c => pullAt_bd ho.out (by have := hsl.out; omega) hw1' hw2' (hbend j trivial)
        have hhd : -2000 ≤ s.head ∧ s.head ≤ 2000 ∧ 0 ≤ s.bend ∧ s.bend ≤ 1000 := by have hh := ok_head ho.out; unfold headOk at hh; omega
        obtain ⟨hhd1, hhd2, hhd3, hhd4⟩ := hhd
        replace hsum := Lib.hid hsum
        replace hbend := Lib.hid hbend
        clear hsp0
        go_wp2_with fail
        go_loopw [16, 17] (fun t i wr => ∃ k : Nat, i = .int .i64 ((k : Int) - 1) ∧ k ≤ n ∧ t = .int .i64 (sumFr (pullAt s wv (bendAt s tr1)) k (n - k)) ∧ Below W2.heap.size W2 wr) (fun t i wr => (intOf i + 1).toNat)
        case atStart => exact ⟨n, rfl, Nat.le_refl _, by rw [Nat.sub_self]; rfl, Below.refl _ _⟩
        case round =>
          obtain ⟨kk, rfl, hkk, rfl, hb⟩ := hrel
          cases kk with
          | zero =>
            rw [show (((0 : Nat) : Int) - 1) = -1 from rfl]
            go_wp2
            go_roundw
            case rel => exact ⟨k + 1, P6, m6, tr1, by go_num, by omega, rfl, hr6.below hb, e3.out, hB0.trans (hb.mono hB0.size)⟩
            case measure => simp [intOf]; omega
          | succ m =>
            rw [show (((m + 1 : Nat) : Int) - 1) = (m : Int) from by omega]
            have hm0 : (0 : Int) ≤ (m : Int) := by omega
            have hm1 : (m : Int) < (n : Int) := by omega
            have hmn : m < n := by omega
            obtain ⟨xx, hxx⟩ := some_of_lt hlen2.out hmn
            have hms : m < s.secs.length := by have := hsl.out; omega
            obtain ⟨x1, x2⟩ := hrng.out xx (List.mem_of_getElem? hxx)
            have hstep : sumFr (pullAt s wv (bendAt s tr1)) m (n - m) = sumFr (pullAt s wv (bendAt s tr1)) (m + 1) (n - (m + 1)) + (s.sec m).drag * (wv * wv + bendAt s tr1 m) := by
              rw [show n - m = (n - (m + 1)) + 1 by omega, sumFr_down]; rfl
            obtain ⟨s1, s2⟩ := hsum.out (m + 1) (by omega)
            obtain ⟨g1, g2⟩ := hbend.out m trivial
            have hdr : 0 ≤ (s.sec m).drag ∧ (s.sec m).drag ≤ 1000 := by
              obtain ⟨k0, k1, k2, k3, k4, k5, k6, k7, k8, k9⟩ := of_decide_eq_true (ok_sec ho.out hms)
              omega
            have hsb := hsb0.out m hmn
            have hsp := hsp1.out m hmn
            rw [hstep] at hsp
            obtain ⟨yy, hyy⟩ : ∃ yy, yy = prev s.head tr1 m := ⟨_, rfl⟩
            have hyb : -16384 ≤ yy ∧ yy ≤ 16384 := by
              rw [hyy]
              cases m with
              | zero => show -16384 ≤ s.head ∧ s.head ≤ 16384; omega
              | succ q =>
                obtain ⟨y', hy'⟩ := some_of_lt hlen2.out (show q < n by omega)
                have : prev s.head tr1 (q + 1) = y' := getD_of _ hy'
                rw [this]
                exact hrng.out y' (List.mem_of_getElem? hy')
            obtain ⟨y1, y2⟩ := hyb
            have hbe : bendAt s tr1 m = magS (xx - yy) := by unfold bendAt; rw [getD_of _ hxx, hyy]
            have hM := fun W => flip_w (Mag_any (xx - yy) W (by omega) (by omega))
            have hM0 := fun W => flip_w (Mag_any (xx - s.head) W (by omega) (by omega))
            rw [← hbe] at hM
            replace hbe := Lib.hid hbe
            obtain ⟨bA, oA, hA, -, hlA, -, -, -, c3d, c4d⟩ := (hs.below hb).sec (sec_at s hms)
            obtain ⟨bt, ot, ht, -, hlt_, e0⟩ := (hr6.below hb).int hxx
            have k3w := k3.below hb
            have kSw := kS.below hb
            obtain ⟨m1, m2⟩ := mul_bd wv wv 150 150 hw1' hw2' (by omega) hw2' (by omega)
            have m0 : 0 ≤ wv * wv := Int.mul_nonneg hw1' hw1'
            obtain ⟨m3, m4⟩ := mul_bd (s.sec m).drag (wv * wv + bendAt s tr1 m) 1000 100000 hdr.1 hdr.2 (by omega) (by omega) (by omega)
            have hn8' : ((n - (m + 1) : Nat) : Int) * 100000000 ≤ 800000000 := by omega
            have u1 := IntWalk.i64_in (xx - yy) (by omega)
            have u7 := IntWalk.i64_in (xx - s.head) (by omega)
            have u2 := IntWalk.i64_in (wv * wv) (by omega)
            have u3 := IntWalk.i64_in (wv * wv + bendAt s tr1 m) (by omega)
            have u4 := IntWalk.i64_in ((s.sec m).drag * (wv * wv + bendAt s tr1 m)) (by omega)
            have u5 := IntWalk.i64_in (sumFr (pullAt s wv (bendAt s tr1)) (m + 1) (n - (m + 1)) + (s.sec m).drag * (wv * wv + bendAt s tr1 m)) (by omega)
            replace hstep := Lib.hid hstep
            clear m1 m2 m0 m3 m4 s1 s2 hn8' g1 g2 hdr
            generalize (s.sec m).drag = dg at *
            generalize (s.sec m).cap = cap at *
            generalize bendAt s tr1 m = bd at *
            generalize sumFr (pullAt s wv (bendAt s tr1)) (m + 1) (n - (m + 1)) = sm at *
            replace hxx := Lib.hid hxx
            subst hA
            subst ht
            replace hyy := Lib.hid hyy
            replace hsb := Lib.hid hsb
            replace hsp := Lib.hid hsp
            obtain ⟨cS, fS, lS⟩ := kSw.rules
            by_cases hmz : m = 0
            · have hyh : yy = s.head := by rw [hyy.out, hmz]; rfl
              subst hyh
              have hno : ¬ (0 : Int) < (m : Int) := by omega
              replace hmz := Lib.hid hmz
              obtain ⟨c3, f3, l3⟩ := k3w.rules
              go_wp2_with fail
              go_quiet ((go_at_call 36; with_reducible exact Calls.quiet_of_same (hM _)))
              clear hM hM0
              replace hsb := hsb.out
              replace hsp := hsp.out
              by_cases hbd : s.bend < bd
              · have h1 := hsb hbd
                have hB1 := fun W => Between_any xb 0 (k : Int) W
                simp only [decide_eq_true (show 0 ≤ xb ∧ xb ≤ (k : Int) from h1)] at hB1
                clear h1
                by_cases hpd : cap < sm + dg * (wv * wv + bd)
                · have h2 := hsp hpd
                  have hB2 := fun W => Between_any xp 0 (k : Int) W
                  simp only [decide_eq_true (show 0 ≤ xp ∧ xp ≤ (k : Int) from h2)] at hB2
                  clear h2
                  replace hsb := Lib.hid hsb
                  replace hsp := Lib.hid hsp
                  go_wp2_with (first | (go_at_call 32; with_reducible refine (hB1 _).mono ?_; rintro e w' ⟨rfl, rfl⟩) | (go_at_call 32; with_reducible refine (hB2 _).mono ?_; rintro e w' ⟨rfl, rfl⟩))
                  go_roundw
                  case rel => exact ⟨m, rfl, by omega, by rw [hstep.out], below_drewN hb _⟩
                  case measure => simp [intOf]
                · have hB2 := True.intro
                  replace hsb := Lib.hid hsb
                  replace hsp := Lib.hid hsp
                  go_wp2_with (first | (go_at_call 32; with_reducible refine (hB1 _).mono ?_; rintro e w' ⟨rfl, rfl⟩) | (go_at_call 32; with_reducible refine (hB2 _).mono ?_; rintro e w' ⟨rfl, rfl⟩))
                  go_roundw
                  case rel => exact ⟨m, rfl, by omega, by rw [hstep.out], below_drewN hb _⟩
                  case measure => simp [intOf]
              · have hB1 := True.intro
                by_cases hpd : cap < sm + dg * (wv * wv + bd)
                · have h2 := hsp hpd
                  have hB2 := fun W => Between_any xp 0 (k : Int) W
                  simp only [decide_eq_true (show 0 ≤ xp ∧ xp ≤ (k : Int) from h2)] at hB2
                  clear h2
                  replace hsb := Lib.hid hsb
                  replace hsp := Lib.hid hsp
                  go_wp2_with (first | (go_at_call 32; with_reducible refine (hB1 _).mono ?_; rintro e w' ⟨rfl, rfl⟩) | (go_at_call 32; with_reducible refine (hB2 _).mono ?_; rintro e w' ⟨rfl, rfl⟩))
                  go_roundw
                  case rel => exact ⟨m, rfl, by omega, by rw [hstep.out], below_drewN hb _⟩
                  case measure => simp [intOf]
                · have hB2 := True.intro
                  replace hsb := Lib.hid hsb
                  replace hsp := Lib.hid hsp
                  go_wp2_with (first | (go_at_call 32; with_reducible refine (hB1 _).mono ?_; rintro e w' ⟨rfl, rfl⟩) | (go_at_call 32; with_reducible refine (hB2 _).mono ?_; rintro e w' ⟨rfl, rfl⟩))
                  go_roundw
                  case rel => exact ⟨m, rfl, by omega, by rw [hstep.out], below_drewN hb _⟩
                  case measure => simp [intOf]
            · obtain ⟨q, hqm⟩ : ∃ q : Nat, m = q + 1 := ⟨m - 1, by omega⟩
              obtain ⟨y', hy'⟩ := some_of_lt hlen2.out (show q < n by omega)
              have hyy2 : yy = y' := hyy.out.trans (by rw [hqm]; exact getD_of _ hy')
              subst hyy2
              obtain ⟨bt2, ot2, ht2, -, hlt2, e1⟩ := (hr6.below hb).int hy'
              cases ht2
              replace hy' := Lib.hid hy'
              have hpos : (0 : Int) < (m : Int) := by omega
              have u6 : IntKind.i64.wrap ((m : Int) - 1) = (q : Int) := by rw [IntWalk.i64_in _ (by omega)]; omega
              have hq0 : (0 : Int) ≤ (q : Int) := by omega
              have hq1 : (q : Int) < (n : Int) := by omega
              replace hqm := Lib.hid hqm
              replace hmz := Lib.hid hmz
              obtain ⟨c3, f3, l3⟩ := k3w.rules
              go_wp2_with fail
              go_quiet ((go_at_call 36; with_reducible exact Calls.quiet_of_same (hM0 _)))
              clear u7
              go_wp2_with fail
              go_quiet ((go_at_call 36; with_reducible exact quiet_more (hM _)))
              clear hM hM0
              replace hsb := hsb.out
              replace hsp := hsp.out
              by_cases hbd : s.bend < bd
              · have h1 := hsb hbd
                have hB1 := fun W => Between_any xb 0 (k : Int) W
                simp only [decide_eq_true (show 0 ≤ xb ∧ xb ≤ (k : Int) from h1)] at hB1
                clear h1
                by_cases hpd : cap < sm + dg * (wv * wv + bd)
                · have h2 := hsp hpd
                  have hB2 := fun W => Between_any xp 0 (k : Int) W
                  simp only [decide_eq_true (show 0 ≤ xp ∧ xp ≤ (k : Int) from h2)] at hB2
                  clear h2
                  replace hsb := Lib.hid hsb
                  replace hsp := Lib.hid hsp
                  go_wp2_with (first | (go_at_call 32; with_reducible refine (hB1 _).mono ?_; rintro e w' ⟨rfl, rfl⟩) | (go_at_call 32; with_reducible refine (hB2 _).mono ?_; rintro e w' ⟨rfl, rfl⟩))
                  go_roundw
                  case rel => exact ⟨m, by congr 1; have := hqm.out; omega, by omega, by rw [hstep.out], below_drewN hb _⟩
                  case measure => have := hqm.out; simp [intOf]; omega
                · have hB2 := True.intro
                  replace hsb := Lib.hid hsb
                  replace hsp := Lib.hid hsp
                  go_wp2_with (first | (go_at_call 32; with_reducible refine (hB1 _).mono ?_; rintro e w' ⟨rfl, rfl⟩) | (go_at_call 32; with_reducible refine (hB2 _).mono ?_; rintro e w' ⟨rfl, rfl⟩))
                  go_roundw
                  case rel => exact ⟨m, by congr 1; have := hqm.out; omega, by omega, by rw [hstep.out], below_drewN hb _⟩
                  case measure => have := hqm.out; simp [intOf]; omega
              · have hB1 := True.intro
                by_cases hpd : cap < sm + dg * (wv * wv + bd)
                · have h2 := hsp hpd
                  have hB2 := fun W => Between_any xp 0 (k : Int) W
                  simp only [decide_eq_true (show 0 ≤ xp ∧ xp ≤ (k : Int) from h2)] at hB2
                  clear h2
                  replace hsb := Lib.hid hsb
                  replace hsp := Lib.hid hsp
                  go_wp2_with (first | (go_at_call 32; with_reducible refine (hB1 _).mono ?_; rintro e w' ⟨rfl, rfl⟩) | (go_at_call 32; with_reducible refine (hB2 _).mono ?_; rintro e w' ⟨rfl, rfl⟩))
                  go_roundw
                  case rel => exact ⟨m, by congr 1; have := hqm.out; omega, by omega, by rw [hstep.out], below_drewN hb _⟩
                  case measure => have := hqm.out; simp [intOf]; omega
                · have hB2 := True.intro
                  replace hsb := Lib.hid hsb
                  replace hsp := Lib.hid hsp
                  go_wp2_with (first | (go_at_call 32; with_reducible refine (hB1 _).mono ?_; rintro e w' ⟨rfl, rfl⟩) | (go_at_call 32; with_reducible refine (hB2 _).mono ?_; rintro e w' ⟨rfl, rfl⟩))
                  go_roundw
                  case rel => exact ⟨m, by congr 1; have := hqm.out; omega, by omega, by rw [hstep.out], below_drewN hb _⟩
                  case measure => have := hqm.out; simp [intOf]; omega
      · obtain rfl : k = nv := by omega
        obtain ⟨c4, f4, l4⟩ := k4.rules
        go_wp2_with fail
        refine (works_any _).mono ?_
        rintro e W ⟨rfl, hbel⟩
        go_wp2
        go_ret
        exact ⟨rfl, b.trans (hbel.mono b.size)⟩
  · have e1 : watchR s bs l v = ((0, 0), errW s bs l v) := by rw [watchR, if_neg he]
    have e2 : keepsR s bs l v = (false, errW s bs l v) := by rw [keepsR, if_neg he]
    simp only [e1] at hWt
    simp only [e2] at hKp
    clear e1 e2
    generalize errW s bs l v = er at *
    go_enter Try.func9, Try.ntmps9
    go_wp2_with fail
    rw [← hw1]
    clear hw1
    refine (hWt _ hs hl hd hv).mono ?_
    clear hWt
    rintro e Wa ⟨rfl, hbel⟩
    replace k3 := k3.below hbel
    replace k4 := k4.below hbel
    replace b := b.trans (hbel.mono b.size)
    replace hs := hs.below hbel
    replace hl := hl.below hbel
    replace hd := hd.below hbel
    replace hv := hv.below hbel
    replace hq := hq.below hbel
    clear hbel
    obtain ⟨c3, f3, l3⟩ := k3.rules
    obtain ⟨c4, f4, l4⟩ := k4.rules
    go_wp2_with fail
    clear c3 f3 l3 c4 f4 l4
    have hbel : Below Wa.heap.size Wa (Wa.alloc (.cells #[.int .i64 0, .int .i64 0] 66)) := (Below.refl _ _).alloc (Nat.le_refl _) _
    have kS := Blk.new Wa 66 #[.int .i64 0, .int .i64 0]
    replace k3 := k3.below hbel
    replace k4 := k4.below hbel
    replace b := b.trans (hbel.mono b.size)
    replace hs := hs.below hbel
    replace hl := hl.below hbel
    replace hd := hd.below hbel
    replace hv := hv.below hbel
    replace hq := hq.below hbel
    clear hbel
    generalize Wa.alloc (.cells #[.int .i64 0, .int .i64 0] 66) = W at *
    refine (hKp _ hs hl hd hv).mono ?_
    clear hKp
    rintro e W ⟨rfl, hbel⟩
    replace kS := kS.below hbel
    replace k3 := k3.below hbel
    replace k4 := k4.below hbel
    replace b := b.trans (hbel.mono b.size)
    replace hs := hs.below hbel
    replace hl := hl.below hbel
    replace hd := hd.below hbel
    replace hv := hv.below hbel
    replace hq := hq.below hbel
    clear hbel
    obtain ⟨cS, fS, lS⟩ := kS.rules
    have he1 : (er == 0) = false := by rw [beq_eq_false_iff_ne]; exact he
    have he2 : (er != 0) = true := by rw [bne_iff_ne]; exact he
    go_wp2_with fail
    refine (works_any _).mono ?_
    rintro e W ⟨rfl, hbel⟩
    go_wp2
    go_ret
    exact ⟨rfl, b.trans (hbel.mono b.size)⟩
end Go.Proofs.Ytjiaepphnddpoaa
