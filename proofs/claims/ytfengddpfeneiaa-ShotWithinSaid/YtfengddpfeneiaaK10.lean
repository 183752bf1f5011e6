/-
  The law ShotWithin.
-/
import Derived.Test.YtfengddpfeneiaaS28
import Derived.Test.YtfengddpfeneiaaS45
namespace Go.Proofs.Ytfengddpfeneiaa
open Go.RowKit Go.Shelf
set_option linter.unusedSimpArgs false
set_option linter.unusedVariables false

set_option maxRecDepth 100000 in
set_option maxHeartbeats 8000000 in
theorem ShotWithin_any (a : Arr) (S G O : Option Addr) (ns cs ng cg no co : Nat) (bits : List Int) (w : World) (hS : SlAt w 0 1 ivs S ns cs a.sh) (hG : SlAt w 0 4 Gun.cells G ng cg a.gs) (ho : SlAt w 0 1 ivs O no co bits) :
    Calls Try.prog 17 #[.agg #[.slice S ns cs, .slice G ng cg], .slice O no co] w fun e w' => e = .returned (.bool true) ∧ Below w.heap.size w w' := by
  have h1 := fun W h h' => sEnclose_any a S G ns cs ng cg W h h'
  have hsl := Lib.hid hS.len
  have hgl := Lib.hid hG.len
  unfold RetSl at h1
  obtain ⟨w1, hw1⟩ : ∃ w1, w1 = w.alloc (.cells #[.slice S ns cs, .slice G ng cg] 25) := ⟨_, rfl⟩
  have k3 : Blk w1 w.heap.size 25 #[.slice S ns cs, .slice G ng cg] := by rw [hw1]; exact Blk.new _ _ _
  have b : Below w.heap.size w w1 := by rw [hw1]; exact (Below.refl _ _).alloc (Nat.le_refl _) _
  have hS1 : SlAt w1 0 1 ivs S ns cs a.sh := by rw [hw1]; exact hS.alloc _
  have hG1 : SlAt w1 0 4 Gun.cells G ng cg a.gs := by rw [hw1]; exact hG.alloc _
  have ho1 : SlAt w1 0 1 ivs O no co bits := by rw [hw1]; exact ho.alloc _
  clear hS hG ho
  by_cases ha : okArr a = true
  · have hv1 : encAR a = (encA a, 0) := by unfold encAR; rw [if_pos ha]
    simp only [hv1] at h1
    have har := okArr_len ha
    unfold arrLen at har
    rw [hsl.out, hgl.out] at har
    obtain ⟨r1, r2, r3, r4⟩ := har
    have hng8 : ng ≤ 1000000 := by omega
    have hin := late_in bits (fun g hg => (okArr_gun ha hg).2.2.2.2.2.1)
    have hdo := inD_ok ha hin
    have hL := fun W h h' h'' => late_any a ha bits S G O ns cs ng cg no co 0 0 0 W h h' h''
    obtain ⟨ds, hds⟩ : ∃ ds, ds = lateL a.gs bits := ⟨_, rfl⟩
    rw [← hds] at hin hdo hL
    have h2 := fun P pc W h h' h'' => Signature_any a S G P ns cs ng cg ng pc ds W h h' h''
    have h3 := fun P pc W h h' h'' => Misfit_any a S G P ns cs ng cg ng pc ds W h h' h''
    have h4 := fun P pc W h h' h'' => Misfit_any a S G P ns cs ng cg ng pc (onL a) W h h' h''
    have hv2 : sigR a ds = (sigL a ds [], 0) := by unfold sigR; rw [if_pos (errA_ok ha hdo)]
    have hv3 : misR a ds = (misS a ds [], 0) := by unfold misR; rw [if_pos (errA_ok ha hdo)]
    have hv4 : misR a (onL a) = (0, 0) := by unfold misR; rw [if_pos (errA_ok ha (onL_ok a)), mis_on]
    unfold RetSl at h2
    simp only [hv2] at h2
    simp only [hv3] at h3
    simp only [hv4] at h4
    have hwi := Lib.hid (fun t => within_said (a := a) hin t)
    have hsat := Lib.hid (fun t h => sigL_at a ds [] (t := t) h)
    have heat := Lib.hid (fun (t : Nat) (h : t < a.sh.length + 48) => show (encA a)[t]? = some (encAtS a t) from mapRange_at _ h)
    have hsll : Hid ((sigL a ds []).length = ns + 48) := by show _ = _; rw [sigL_len, hsl.out]
    have hell : Hid ((encA a).length = ns + 48) := by show _ = _; simp [encA, hsl.out]
    have h5 := fun W h h' => Worst_any a S G ns cs ng cg W h h'
    unfold RetWo at h5
    have hws := worst_said ha
    have hle := hws.2.2 ds hin
    have hmd := misS_bd ha ds []
    have hon : Hid (onL a = List.replicate ng 0) := by show _ = _; unfold onL; rw [hgl.out]
    obtain ⟨i0, hi0, hz0, hz1, hz2⟩ := info_parts Try.infoInt
    have hc1 := Lib.hid (show i0.bytes * ng ≤ 281474976710656 by rw [hz2]; omega)
    have hc2 := Lib.hid (show ng ≤ maxLen by unfold maxLen; omega)
    have u0 := IntWalk.i64_in ((ns : Int) + 48) (by omega)
    have hwdo := inD_ok ha hws.1
    have h6 := fun P n pc W h h' h'' => Misfit_any a S G P ns cs ng cg n pc (worstS a).1 W h h' h''
    have hv6 : misR a (worstS a).1 = ((worstS a).2, 0) := by unfold misR; rw [if_pos (errA_ok ha hwdo), ← hws.2.1]
    simp only [hv6] at h6
    have hwr : worstR a = if manyTo a a.gs.length ≤ 4096 then ((worstS a).1, (worstS a).2, 0) else ([], 0, 3) := by unfold worstR; rw [if_pos ha]
    generalize misS a ds [] = md at *
    generalize (worstS a).2 = mw at *
    generalize (worstS a).1 = lw at *
    clear hv1 hv2 hv3 hv4 hv6 hin hdo hws hwdo hds
    go_enter Try.func17, Try.ntmps17
    go_wp2_with fail
    rw [← hw1]
    clear hw1
    obtain ⟨c3, f3, l3⟩ := k3.rules
    go_wp2_with fail
    refine (h1 _ hS1 hG1).mono ?_
    rintro e W ⟨T, n1, ct, rfl, hT, hb⟩
    clear c3 f3 l3
    (replace hT := hT.mono (Nat.zero_le _)); (replace ho1 := ho1.below hb)
    replace k3 := k3.below hb
    replace b := b.trans (hb.mono b.size)
    replace hS1 := hS1.below hb
    replace hG1 := hG1.below hb
    clear hb
    obtain rfl : ns + 48 = n1 := hell.out.symm.trans hT.len
    obtain ⟨c3, f3, l3⟩ := k3.rules
    go_wp2_with fail
    refine (hL _ hS1 hG1 ho1).mono ?_
    rintro e W2 ⟨P, pc, rfl, hP, hb⟩
    clear c3 f3 l3
    (replace hP := hP.mono (Nat.zero_le _)); (replace hT := hT.below hb)
    replace k3 := k3.below hb
    replace b := b.trans (hb.mono b.size)
    replace hS1 := hS1.below hb
    replace hG1 := hG1.below hb
    clear hb
    obtain ⟨c3, f3, l3⟩ := k3.rules
    go_wp2_with fail
    refine (h2 _ _ _ hS1 hG1 hP).mono ?_
    rintro e W3 ⟨U, n2, cu, rfl, hU, hb⟩
    clear c3 f3 l3
    (replace hU := hU.mono (Nat.zero_le _)); (replace hT := hT.below hb); (replace hP := hP.below hb)
    replace k3 := k3.below hb
    replace b := b.trans (hb.mono b.size)
    replace hS1 := hS1.below hb
    replace hG1 := hG1.below hb
    clear hb
    obtain rfl : ns + 48 = n2 := hsll.out.symm.trans hU.len
    obtain ⟨c3, f3, l3⟩ := k3.rules
    go_wp2_with fail
    refine (h3 _ _ _ hS1 hG1 hP).mono ?_
    rintro e W4 ⟨rfl, hb⟩
    clear c3 f3 l3
    (replace hU := hU.below hb); (replace hT := hT.below hb)
    replace k3 := k3.below hb
    replace b := b.trans (hb.mono b.size)
    replace hS1 := hS1.below hb
    replace hG1 := hG1.below hb
    clear hb
    clear hP ho1 h1 hL h2 h3
    go_wp2_with fail
    refine wp_held_np (fun w' : World => (∀ j, w'.cell? ⟨w.heap.size, j, none⟩ = #[Value.slice S ns cs, .slice G ng cg][j]?) ∧ True) (by kernel_rfl) ?_
    replace k3 := k3.drew
    replace b := b.drew
    replace hS1 := hS1.drew
    replace hG1 := hG1.drew
    replace hT := hT.drew
    replace hU := hU.drew
    generalize W4.drew = wd at *
    have hSx : (fun w' : World => (∀ j, w'.cell? ⟨w.heap.size, j, none⟩ = #[Value.slice S ns cs, .slice G ng cg][j]?) ∧ True) wd := ⟨k3.cell, trivial⟩
    refine held_take (i := 0) (v := ?_) 50 rfl rfl (by kernel_rfl) (by kernel_rfl) (by kernel_rfl) (fun _ _ _ h => h) (Or.inl ⟨by rfl, ?_⟩) hSx ?_
    rotate_left 1
    · intro w' hSw
      try dsimp only at hSw
      obtain ⟨q1, q2⟩ := hSw
      go_simp
      all_goals with_reducible rfl
    try simp only [Act.put, List.setIfInBounds_toArray, List.set_cons_zero, List.set_cons_succ]
    refine held_take (i := 1) (v := ?_) 51 rfl rfl (by kernel_rfl) (by kernel_rfl) (by kernel_rfl) (fun _ _ _ h => h) (Or.inl ⟨by rfl, ?_⟩) hSx ?_
    rotate_left 1
    · intro w' hSw
      try dsimp only at hSw
      obtain ⟨q1, q2⟩ := hSw
      go_simp
      all_goals with_reducible rfl
    try simp only [Act.put, List.setIfInBounds_toArray, List.set_cons_zero, List.set_cons_succ]
    refine held_take (i := 2) (v := ?_) 52 rfl rfl (by kernel_rfl) (by kernel_rfl) (by kernel_rfl) (fun _ _ _ h => h) (Or.inl ⟨by rfl, ?_⟩) hSx ?_
    rotate_left 1
    · intro w' hSw
      try dsimp only at hSw
      obtain ⟨q1, q2⟩ := hSw
      go_simp
      all_goals with_reducible rfl
    try simp only [Act.put, List.setIfInBounds_toArray, List.set_cons_zero, List.set_cons_succ]
    refine held_take (i := 3) (v := ?_) 53 rfl rfl (by kernel_rfl) (by kernel_rfl) (by kernel_rfl) (fun _ _ _ h => h) (Or.inl ⟨by rfl, ?_⟩) hSx ?_
    rotate_left 1
    · intro w' hSw
      try dsimp only at hSw
      obtain ⟨q1, q2⟩ := hSw
      go_simp
      all_goals with_reducible rfl
    try simp only [Act.put, List.setIfInBounds_toArray, List.set_cons_zero, List.set_cons_succ]
    clear hSx
    refine held_one (i := 4) (by kernel_rfl) rfl rfl (fun K hK => ?_)
    refine wp_make_fullQ wd _ _ 22 rfl wd.heap.size 3 i0 (.int .i64 0) 1 Try.underlying22 hi0 hz0 hz1 _ _ _ _ ng rfl rfl rfl rfl hc1.out hc2.out (Nat.le_refl _) ?_
    intro W5 r8 hgrow
    obtain ⟨O8, co8, e8, hM⟩ := ownsOf r8 hng8
    simp only [Value.slice.injEq, true_and] at e8
    obtain ⟨rfl, rfl⟩ := e8
    rw [← hon.out] at hM
    replace hM := hM.mono (Nat.zero_le _)
    have hb := (Below.refl wd.heap.size wd).grown hgrow (Nat.le_refl _) (fun k e => by cases e)
    replace hT := hT.below hb
    replace hU := hU.below hb
    replace k3 := k3.below hb
    replace b := b.trans (hb.mono b.size)
    replace hS1 := hS1.below hb
    replace hG1 := hG1.below hb
    clear hb hgrow r8
    refine hK _ _ ⟨k3.cell, trivial⟩ ?_
    clear hK K
    try simp only [Act.put, List.setIfInBounds_toArray, List.set_cons_zero, List.set_cons_succ]
    refine held_one (i := 5) (by kernel_rfl) rfl rfl (fun K hK => ?_)
    go_simp
    refine (h4 _ _ _ hS1 hG1 hM).mono ?_
    rintro e W6 ⟨rfl, hb⟩
    replace hT := hT.below hb
    replace hU := hU.below hb
    replace k3 := k3.below hb
    replace b := b.trans (hb.mono b.size)
    replace hS1 := hS1.below hb
    replace hG1 := hG1.below hb
    clear hb hM
    refine hK _ _ ⟨k3.cell, trivial⟩ ?_
    clear hK K
    try simp only [Act.put, List.setIfInBounds_toArray, List.set_cons_zero, List.set_cons_succ]
    have hSx : (fun w' : World => (∀ j, w'.cell? ⟨w.heap.size, j, none⟩ = #[Value.slice S ns cs, .slice G ng cg][j]?) ∧ True) W6 := ⟨k3.cell, trivial⟩
    refine held_take (i := 6) (v := ?_) 49 rfl rfl (by kernel_rfl) (by kernel_rfl) (by kernel_rfl) (fun _ _ _ h => h) (Or.inl ⟨by rfl, ?_⟩) hSx ?_
    rotate_left 1
    · intro w' hSw
      try dsimp only at hSw
      obtain ⟨q1, q2⟩ := hSw
      go_simp
      all_goals with_reducible rfl
    try simp only [Act.put, List.setIfInBounds_toArray, List.set_cons_zero, List.set_cons_succ]
    refine held_take (i := 7) (v := ?_) 56 rfl rfl (by kernel_rfl) (by kernel_rfl) (by kernel_rfl) (fun _ _ _ h => h) (Or.inl ⟨by rfl, ?_⟩) hSx ?_
    rotate_left 1
    · intro w' hSw
      try dsimp only at hSw
      obtain ⟨q1, q2⟩ := hSw
      go_simp
      all_goals with_reducible rfl
    try simp only [Act.put, List.setIfInBounds_toArray, List.set_cons_zero, List.set_cons_succ]
    refine held_take (i := 8) (v := ?_) 57 rfl rfl (by kernel_rfl) (by kernel_rfl) (by kernel_rfl) (fun _ _ _ h => h) (Or.inl ⟨by rfl, ?_⟩) hSx ?_
    rotate_left 1
    · intro w' hSw
      try dsimp only at hSw
      obtain ⟨q1, q2⟩ := hSw
      go_simp
      all_goals with_reducible rfl
    try simp only [Act.put, List.setIfInBounds_toArray, List.set_cons_zero, List.set_cons_succ]
    refine held_take (i := 9) (v := ?_) 11 rfl rfl (by kernel_rfl) (by kernel_rfl) (by kernel_rfl) (fun _ _ _ h => h) (Or.inl ⟨by rfl, ?_⟩) hSx ?_
    rotate_left 1
    · intro w' hSw
      try dsimp only at hSw
      obtain ⟨q1, q2⟩ := hSw
      go_simp
      all_goals with_reducible rfl
    try simp only [Act.put, List.setIfInBounds_toArray, List.set_cons_zero, List.set_cons_succ]
    refine held_take (i := 10) (v := ?_) 12 rfl rfl (by kernel_rfl) (by kernel_rfl) (by kernel_rfl) (fun _ _ _ h => h) (Or.inl ⟨by rfl, ?_⟩) hSx ?_
    rotate_left 1
    · intro w' hSw
      try dsimp only at hSw
      obtain ⟨q1, q2⟩ := hSw
      go_simp
      all_goals with_reducible rfl
    try simp only [Act.put, List.setIfInBounds_toArray, List.set_cons_zero, List.set_cons_succ]
    refine wpAnyH_done (by kernel_rfl) (noPanic_normal ?_) _
    clear hSx h4
    try simp only [Act.put, List.setIfInBounds_toArray, List.set_cons_zero, List.set_cons_succ]
    obtain ⟨c3, f3, l3⟩ := k3.rules
    go_wp2_with fail
    clear c3 f3 l3
    go_loopw [13] (fun i wr => ∃ t : Nat, i = .int .i64 (t : Int) ∧ t ≤ ns + 48 ∧ Below W6.heap.size W6 wr) (fun i wr => ns + 48 - (intOf i).toNat)
    case atStart => exact ⟨0, rfl, Nat.zero_le _, Below.refl _ _⟩
    case round =>
      obtain ⟨t, rfl, ht, hb9⟩ := hrel
      by_cases hlt : t < ns + 48
      · have ht0 : (0 : Int) ≤ (t : Int) := by omega
        have ht1 : (t : Int) < (ns : Int) + 48 := by omega
        have hx := hsat.out t (by rw [hsl.out]; exact hlt)
        have hy := heat.out t (by rw [hsl.out]; exact hlt)
        obtain ⟨bU, oU, hA, -, -, x0⟩ := (hU.below hb9).int hx
        obtain ⟨bT, oT, hA2, -, -, y0, y1⟩ := (hT.below hb9).bnd hy
        have hB := fun W => flip_w (show Calls _ _ _ _ _ from by have := Between_any (sigAt a ds [] t) (encAtS a t).lo (encAtS a t).hi W; rw [decide_eq_true (hwi.out t)] at this; exact this)
        subst hA hA2
        clear hx hy
        generalize sigAt a ds [] t = sv at *
        generalize (encAtS a t).lo = el at *
        generalize (encAtS a t).hi = eh at *
        go_wp2_with fail
        go_quiet ((go_at_call 54; with_reducible exact Calls.quiet_of_same (hB _)))
        go_wp2_with fail
        go_roundw
        case rel => exact ⟨t + 1, by go_num, by omega, below_drewN hb9 _⟩
        case measure => simp [intOf]; omega
      · obtain rfl : t = ns + 48 := by omega
        replace k3 := k3.below hb9
        replace b := b.trans (hb9.mono b.size)
        replace hS1 := hS1.below hb9
        replace hG1 := hG1.below hb9
        clear hb9 hU hT
        rw [hwr] at h5
        by_cases hmany : manyTo a a.gs.length ≤ 4096
        · rw [if_pos hmany] at h5
          replace hmany := Lib.hid hmany
          replace hwr := Lib.hid hwr
          dsimp only at h5
          obtain ⟨c3, f3, l3⟩ := k3.rules
          go_wp2_with fail
          refine (h5 _ hS1 hG1).mono ?_
          rintro e W7 ⟨Q, nq, cq, rfl, hQ, hb⟩
          replace hQ := hQ.mono (Nat.zero_le _)
          clear c3 f3 l3 h5
          replace k3 := k3.below hb
          replace b := b.trans (hb.mono b.size)
          replace hS1 := hS1.below hb
          replace hG1 := hG1.below hb
          clear hb
          obtain ⟨c3, f3, l3⟩ := k3.rules
          go_wp2_with fail
          refine (h6 _ _ _ _ hS1 hG1 hQ).mono ?_
          rintro e W8 ⟨rfl, hb⟩
          clear c3 f3 l3 h6 hQ
          replace k3 := k3.below hb
          replace b := b.trans (hb.mono b.size)
          replace hS1 := hS1.below hb
          replace hG1 := hG1.below hb
          clear hb
          go_wp2_with fail
          refine (works_any _).mono ?_
          rintro e Wz ⟨rfl, hb⟩
          go_wp2_with fail
          go_ret
          exact ⟨rfl, b.trans (hb.mono b.size)⟩
        · rw [if_neg hmany] at h5
          replace hmany := Lib.hid hmany
          replace hwr := Lib.hid hwr
          dsimp only at h5
          obtain ⟨c3, f3, l3⟩ := k3.rules
          go_wp2_with fail
          refine (h5 _ hS1 hG1).mono ?_
          rintro e W7 ⟨Q, nq, cq, rfl, hQ, hb⟩
          obtain rfl : nq = 0 := hQ.len.symm
          clear c3 f3 l3 h5 hQ
          replace k3 := k3.below hb
          replace b := b.trans (hb.mono b.size)
          replace hS1 := hS1.below hb
          replace hG1 := hG1.below hb
          clear hb
          go_wp2_with fail
          refine (works_any _).mono ?_
          rintro e Wz ⟨rfl, hb⟩
          go_wp2_with fail
          go_ret
          exact ⟨rfl, b.trans (hb.mono b.size)⟩
  · have hv1 : encAR a = ([], 50) := by unfold encAR; rw [if_neg ha]
    simp only [hv1] at h1
    clear ha hv1
    go_enter Try.func17, Try.ntmps17
    go_wp2_with fail
    rw [← hw1]
    clear hw1
    obtain ⟨c3, f3, l3⟩ := k3.rules
    go_wp2_with fail
    refine (h1 _ hS1 hG1).mono ?_
    rintro e W ⟨T, n1, ct, rfl, hT, hb⟩
    obtain rfl : n1 = 0 := hT.len.symm
    clear c3 f3 l3 h1 hT
    replace k3 := k3.below hb
    replace b := b.trans (hb.mono b.size)
    replace hS1 := hS1.below hb
    replace hG1 := hG1.below hb
    clear hb
    go_wp2_with fail
    refine (works_any _).mono ?_
    rintro e Wz ⟨rfl, hb⟩
    go_wp2_with fail
    go_ret
    exact ⟨rfl, b.trans (hb.mono b.size)⟩
end Go.Proofs.Ytfengddpfeneiaa
