/-
  The law ShotTrue.
-/
import Derived.Test.YtfengddpfeneiaaS28
import Derived.Test.YtfengddpfeneiaaS31
namespace Go.Proofs.Ytfengddpfeneiaa
open Go.RowKit Go.Shelf
set_option linter.unusedSimpArgs false
set_option linter.unusedVariables false

theorem flags3 {su we ma : Bool} (h3 : su = true → we = true) (h4 : we = true → ma = true) : (su = true ∧ we = true ∧ ma = true) ∨ (su = false ∧ we = true ∧ ma = true) ∨ (su = false ∧ we = false) := by
  revert h3 h4; cases su <;> cases we <;> cases ma <;> simp
set_option maxRecDepth 100000 in
set_option maxHeartbeats 8000000 in
theorem ShotTrue_any (f : Fir) (A O : Option Addr) (n c no co : Nat) (bl : List Bnd) (bits : List Int) (w : World) (hs : SlAt w 0 2 Bnd.cells A n c bl) (ho : SlAt w 0 1 ivs O no co bits) :
    Calls Try.prog 11 #[.agg #[.int .i64 f.start, .int .i64 f.every, .int .i64 f.srcs, .int .i64 f.shots, .int .i64 f.charge], .slice A n c, .slice O no co] w fun e w' => e = .returned (.bool true) ∧ Below w.heap.size w w' := by
  have h1 := fun W h => Times_any f bl A n c 0 W h
  have h2 := fun W h => Weak_any f bl A n c 0 W h
  unfold RetWk at h2
  unfold RetSl at h1
  obtain ⟨w1, hw1⟩ : ∃ w1, w1 = w.alloc (.cells #[.int .i64 f.start, .int .i64 f.every, .int .i64 f.srcs, .int .i64 f.shots, .int .i64 f.charge] 38) := ⟨_, rfl⟩
  have k3 : Blk w1 w.heap.size 38 #[.int .i64 f.start, .int .i64 f.every, .int .i64 f.srcs, .int .i64 f.shots, .int .i64 f.charge] := by rw [hw1]; exact Blk.new _ _ _
  have b : Below w.heap.size w w1 := by rw [hw1]; exact (Below.refl _ _).alloc (Nat.le_refl _) _
  have hs1 : SlAt w1 0 2 Bnd.cells A n c bl := by rw [hw1]; exact hs.alloc _
  have ho1 : SlAt w1 0 1 ivs O no co bits := by rw [hw1]; exact ho.alloc _
  have hl := Lib.hid hs.len
  clear hs ho
  by_cases he : errT f bl = 0
  · have hv1 : timeR f bl = (timeL f bl, 0) := by unfold timeR; rw [if_pos he]
    have hv2 : weakR f bl = (sureL f bl, mayL f bl, 0) := by unfold weakR; rw [if_pos he]
    simp only [hv1] at h1
    simp only [hv2] at h2
    obtain ⟨hf, hd, hev⟩ := errT_ok he
    have hfo := okFir_is hf
    have h3 := fun W h h' => truth_any bl hd hev bits A O n c no co 0 0 W h h'
    have h4 := fun P pc W h => Fire_any f (truthL bl bits) P n pc 0 W h
    have hv4 : fireR f (truthL bl bits) = (shotL f (truthL bl bits), 0) := by unfold fireR; rw [if_pos hf, if_pos (truth_way bits hd hev)]
    unfold RetSl at h4
    simp only [hv4] at h4
    have hsaid := Lib.hid (fun k => true_said hfo (b := bl) bits hd hev k)
    have hlT : (timeL f bl).length = f.shots.toNat := by simp [timeL]
    have hlS : (shotL f (truthL bl bits)).length = f.shots.toNat := by simp [shotL]
    have hlP := sureL_len f bl
    have hlQ := mayL_len f bl
    replace hlT := Lib.hid hlT
    replace hlS := Lib.hid hlS
    replace hlP := Lib.hid hlP
    replace hlQ := Lib.hid hlQ
    clear hv1 hv2 hv4 he
    obtain ⟨p1, p2, p3, p4, p5, p6, p7, p8, p9, p10⟩ := hfo
    replace hd := Lib.hid hd
    replace hev := Lib.hid hev
    replace hf := Lib.hid hf
    go_enter Try.func11, Try.ntmps11
    go_wp2_with fail
    rw [← hw1]
    clear hw1
    obtain ⟨c3, f3, l3⟩ := k3.rules
    go_wp2_with fail
    refine (h1 _ hs1).mono ?_
    rintro e W ⟨T, n1, ct, rfl, hT, hb⟩
    clear c3 f3 l3 h1
    replace hT := hT.mono (Nat.zero_le _)
    replace k3 := k3.below hb
    replace b := b.trans (hb.mono b.size)
    replace hs1 := hs1.below hb
    replace ho1 := ho1.below hb
    clear hb
    obtain ⟨c3, f3, l3⟩ := k3.rules
    go_wp2_with fail
    refine (h2 _ hs1).mono ?_
    rintro e W2 ⟨P, n2, cp, Q, n3, cq, rfl, hP, hQ, hb⟩
    clear c3 f3 l3 h2
    replace hP := hP.mono (Nat.zero_le _)
    replace hQ := hQ.mono (Nat.zero_le _)
    replace hT := hT.below hb
    replace k3 := k3.below hb
    replace b := b.trans (hb.mono b.size)
    replace hs1 := hs1.below hb
    replace ho1 := ho1.below hb
    clear hb
    go_wp2_with fail
    refine wp_held_np (fun w' : World => (∀ j, w'.cell? ⟨w.heap.size, j, none⟩ = #[Value.int .i64 f.start, .int .i64 f.every, .int .i64 f.srcs, .int .i64 f.shots, .int .i64 f.charge][j]?) ∧ True) (by kernel_rfl) ?_
    replace k3 := k3.drew
    replace b := b.drew
    replace hs1 := hs1.drew
    replace ho1 := ho1.drew
    replace hT := hT.drew
    replace hP := hP.drew
    replace hQ := hQ.drew
    generalize W2.drew = wd at *
    have hS : (fun w' : World => (∀ j, w'.cell? ⟨w.heap.size, j, none⟩ = #[Value.int .i64 f.start, .int .i64 f.every, .int .i64 f.srcs, .int .i64 f.shots, .int .i64 f.charge][j]?) ∧ True) wd := ⟨k3.cell, trivial⟩
    refine held_take (i := 0) (v := ?_) 46 rfl rfl (by kernel_rfl) (by kernel_rfl) (by kernel_rfl) (fun _ _ _ h => h) (Or.inl ⟨by rfl, ?_⟩) hS ?_
    rotate_left 1
    · intro w' hSw
      try dsimp only at hSw
      obtain ⟨q1, q2⟩ := hSw
      go_simp
      all_goals with_reducible rfl
    try simp only [Act.put, List.setIfInBounds_toArray, List.set_cons_zero, List.set_cons_succ]
    refine held_take (i := 1) (v := ?_) 47 rfl rfl (by kernel_rfl) (by kernel_rfl) (by kernel_rfl) (fun _ _ _ h => h) (Or.inl ⟨by rfl, ?_⟩) hS ?_
    rotate_left 1
    · intro w' hSw
      try dsimp only at hSw
      obtain ⟨q1, q2⟩ := hSw
      go_simp
      all_goals with_reducible rfl
    try simp only [Act.put, List.setIfInBounds_toArray, List.set_cons_zero, List.set_cons_succ]
    refine held_take (i := 2) (v := ?_) 48 rfl rfl (by kernel_rfl) (by kernel_rfl) (by kernel_rfl) (fun _ _ _ h => h) (Or.inl ⟨by rfl, ?_⟩) hS ?_
    rotate_left 1
    · intro w' hSw
      try dsimp only at hSw
      obtain ⟨q1, q2⟩ := hSw
      go_simp
      all_goals with_reducible rfl
    try simp only [Act.put, List.setIfInBounds_toArray, List.set_cons_zero, List.set_cons_succ]
    clear hS
    refine held_one (i := 3) (by kernel_rfl) rfl rfl (fun K hK => ?_)
    go_simp
    refine (h3 _ hs1 ho1).mono ?_
    rintro e W3 ⟨U, cu, rfl, hU, hb⟩
    replace hU := hU.mono (Nat.zero_le _)
    replace hT := hT.below hb
    replace hP := hP.below hb
    replace hQ := hQ.below hb
    replace k3 := k3.below hb
    replace b := b.trans (hb.mono b.size)
    replace hs1 := hs1.below hb
    replace ho1 := ho1.below hb
    clear hb
    refine hK _ _ ⟨k3.cell, trivial⟩ ?_
    clear hK K h3
    try simp only [Act.put, List.setIfInBounds_toArray, List.set_cons_zero, List.set_cons_succ]
    refine held_one (i := 4) (by kernel_rfl) rfl rfl (fun K hK => ?_)
    go_simp
    refine (h4 _ _ _ hU).mono ?_
    rintro e W4 ⟨S, n4, cs, rfl, hS, hb⟩
    replace hS := hS.mono (Nat.zero_le _)
    replace hT := hT.below hb
    replace hP := hP.below hb
    replace hQ := hQ.below hb
    replace k3 := k3.below hb
    replace b := b.trans (hb.mono b.size)
    replace hs1 := hs1.below hb
    replace ho1 := ho1.below hb
    clear hb h4 hU hs1 ho1
    refine hK _ _ ⟨k3.cell, trivial⟩ ?_
    clear hK K
    try simp only [Act.put, List.setIfInBounds_toArray, List.set_cons_zero, List.set_cons_succ]
    have hSS : (fun w' : World => (∀ j, w'.cell? ⟨w.heap.size, j, none⟩ = #[Value.int .i64 f.start, .int .i64 f.every, .int .i64 f.srcs, .int .i64 f.shots, .int .i64 f.charge][j]?) ∧ True) W4 := ⟨k3.cell, trivial⟩
    refine held_take (i := 5) (v := ?_) 45 rfl rfl (by kernel_rfl) (by kernel_rfl) (by kernel_rfl) (fun _ _ _ h => h) (Or.inl ⟨by rfl, ?_⟩) hSS ?_
    rotate_left 1
    · intro w' hSw
      try dsimp only at hSw
      obtain ⟨q1, q2⟩ := hSw
      go_simp
      all_goals with_reducible rfl
    try simp only [Act.put, List.setIfInBounds_toArray, List.set_cons_zero, List.set_cons_succ]
    refine held_take (i := 6) (v := ?_) 51 rfl rfl (by kernel_rfl) (by kernel_rfl) (by kernel_rfl) (fun _ _ _ h => h) (Or.inl ⟨by rfl, ?_⟩) hSS ?_
    rotate_left 1
    · intro w' hSw
      try dsimp only at hSw
      obtain ⟨q1, q2⟩ := hSw
      go_simp
      all_goals with_reducible rfl
    try simp only [Act.put, List.setIfInBounds_toArray, List.set_cons_zero, List.set_cons_succ]
    refine held_take (i := 7) (v := ?_) 52 rfl rfl (by kernel_rfl) (by kernel_rfl) (by kernel_rfl) (fun _ _ _ h => h) (Or.inl ⟨by rfl, ?_⟩) hSS ?_
    rotate_left 1
    · intro w' hSw
      try dsimp only at hSw
      obtain ⟨q1, q2⟩ := hSw
      go_simp
      all_goals with_reducible rfl
    try simp only [Act.put, List.setIfInBounds_toArray, List.set_cons_zero, List.set_cons_succ]
    refine held_take (i := 8) (v := ?_) 12 rfl rfl (by kernel_rfl) (by kernel_rfl) (by kernel_rfl) (fun _ _ _ h => h) (Or.inl ⟨by rfl, ?_⟩) hSS ?_
    rotate_left 1
    · intro w' hSw
      try dsimp only at hSw
      obtain ⟨q1, q2⟩ := hSw
      go_simp
      all_goals with_reducible rfl
    try simp only [Act.put, List.setIfInBounds_toArray, List.set_cons_zero, List.set_cons_succ]
    refine held_take (i := 9) (v := ?_) 8 rfl rfl (by kernel_rfl) (by kernel_rfl) (by kernel_rfl) (fun _ _ _ h => h) (Or.inl ⟨by rfl, ?_⟩) hSS ?_
    rotate_left 1
    · intro w' hSw
      try dsimp only at hSw
      obtain ⟨q1, q2⟩ := hSw
      go_simp
      all_goals with_reducible rfl
    try simp only [Act.put, List.setIfInBounds_toArray, List.set_cons_zero, List.set_cons_succ]
    refine wpAnyH_done (by kernel_rfl) (noPanic_normal ?_) _
    clear hSS
    try simp only [Act.put, List.setIfInBounds_toArray, List.set_cons_zero, List.set_cons_succ]
    have e1 := hT.len
    have e2 := hP.len
    have e3 := hQ.len
    have e4 := hS.len
    rw [hlT.out] at e1
    rw [hlP.out] at e2
    rw [hlQ.out] at e3
    rw [hlS.out] at e4
    obtain rfl : n4 = n1 := e4.symm.trans e1
    obtain rfl : n4 = n2 := e4.symm.trans e2
    obtain rfl : n4 = n3 := e4.symm.trans e3
    have hsh : f.shots = (n4 : Int) := by omega
    clear e1 e2 e3
    replace e4 := Lib.hid e4
    have hsL : Hid ((shotL f (truthL bl bits)).length = n4) := by show _ = _; rw [hlS.out]; exact e4.out
    obtain ⟨c3, f3, l3⟩ := k3.rules
    rw [hsh] at c3
    replace hsh := Lib.hid hsh
    go_wp2_with fail
    clear c3 f3 l3
    go_loopw [13] (fun i wr => ∃ k : Nat, i = .int .i64 (k : Int) ∧ k ≤ n4 ∧ Below W4.heap.size W4 wr) (fun i wr => n4 - (intOf i).toNat)
    case atStart => exact ⟨0, rfl, Nat.zero_le _, Below.refl _ _⟩
    case round =>
      obtain ⟨k, rfl, hk, hbr⟩ := hrel
      replace k3 := k3.below hbr
      obtain ⟨c3, f3, l3⟩ := k3.rules
      rw [hsh.out] at c3
      by_cases hlt : k < n4
      · have hk0 : (0 : Int) ≤ (k : Int) := by omega
        have hk1 : (k : Int) < (n4 : Int) := by omega
        have hkf : k < f.shots.toNat := by have := hsh.out; omega
        replace hS := hS.below hbr
        have hxs : (shotL f (truthL bl bits))[k]? = some (shotS f (truthL bl bits) k) := mapRange_at _ hkf
        have hxt : (timeL f bl)[k]? = some (timeS f bl k) := mapRange_at _ hkf
        have hxp : (sureL f bl)[k]? = some (sureS f bl k) := mapRange_at _ hkf
        have hxq : (mayL f bl)[k]? = some (mayS f bl k) := mapRange_at _ hkf
        obtain ⟨bs, os, hA, -, -, s0, s1, s2⟩ := hS.sht hxs
        obtain ⟨bt, ot, hB, -, -, t0, t1⟩ := (hT.below hbr).bnd hxt
        obtain ⟨bp, op_, hC, -, -, x0⟩ := (hP.below hbr).boo hxp
        obtain ⟨bq, oq, hD, -, -, y0⟩ := (hQ.below hbr).boo hxq
        subst hA hB hC hD
        obtain ⟨hA1, hA2, hA3, hA4, hA5⟩ := hsaid.out k
        simp only [shotS] at s0 s1 s2
        clear hxs hxt hxp hxq hT hP hQ
        have hsr4 : (k : Int).tmod f.srcs = (k : Int) % f.srcs := Int.tmod_eq_emod_of_nonneg hk0
        have hsr1 : 0 ≤ (k : Int) % f.srcs := Int.emod_nonneg _ (by omega)
        have hsr3 : (k : Int) % f.srcs < f.srcs := Int.emod_lt_of_pos _ (by omega)
        generalize (k : Int) % f.srcs = sr at *
        have hsr5 := IntWalk.i64_in sr (by omega)
        have hz0 : ¬ f.srcs = 0 := by omega
        have hmx := fun ats ty => (max2_int ats ty 1 f.srcs).trans (by rw [show max 1 f.srcs = f.srcs by omega])
        have htb := tick_bd f (truthL bl bits) k
        have hA6 : tickS f (truthL bl bits) k < 0 → weakS f (truthL bl bits) k = false := fun h => by unfold weakS; rw [decide_eq_false (by omega)]; rfl
        generalize weakS f (truthL bl bits) k = we at *
        generalize sureS f bl k = su at *
        generalize mayS f bl k = ma at *
        generalize (timeS f bl k).lo = lo at *
        generalize (timeS f bl k).hi = hi at *
        generalize hti : tickS f (truthL bl bits) k = ti at *
        replace hti := Lib.hid hti
        replace hsaid := Lib.hid hsaid
        by_cases ht : ti < 0
        · have ht1 : ¬ (ti ≥ 0) := by omega
          have ht2 : ¬ (hi ≥ 0) := by have := hA1 ht; omega
          obtain rfl : we = false := hA6 ht
          obtain rfl : su = false := by cases su with | false => rfl | true => exact absurd (hA3 rfl) (by decide)
          clear hA1 hA2 hA6 htb
          by_cases hz : 0 < k
          · have hz1 : (k : Int) > 0 := by omega
            obtain ⟨y, hy⟩ := some_of_lt hsL.out (show k - 1 < n4 by omega)
            have hyv : y = shotS f (truthL bl bits) (k - 1) := by
              have : (shotL f (truthL bl bits))[k - 1]? = some (shotS f (truthL bl bits) (k - 1)) := mapRange_at _ (by omega)
              rw [this] at hy; exact (Option.some.inj hy).symm
            obtain ⟨bs2, os2, hS2, -, -, g0, -, -⟩ := hS.sht hy
            cases hS2
            have hyt : y.tick = tickS f (truthL bl bits) (k - 1) := by rw [hyv]; rfl
            rw [hyt] at g0
            have ky : IntKind.i64.wrap ((k : Int) - 1) = ((k - 1 : Nat) : Int) := by rw [IntWalk.i64_in _ (by omega)]; omega
            have ky0 : (0 : Int) ≤ ((k - 1 : Nat) : Int) := by omega
            have ky1 : ((k - 1 : Nat) : Int) < (n4 : Int) := by omega
            have hle := Lib.hid hA5
            clear hA5 hS hti hsaid
            clear hy hyv hyt
            generalize tickS f (truthL bl bits) (k - 1) = tp at *
            generalize k - 1 = kp at *
            clear hA3 hA4
            go_wp2_with fail
            have g1 : (ti ≥ 0) = False := eq_false (by omega)
            refine wp_region_quiet_lit (by kernel_rfl) (by kernel_rfl) ?_
            (iterate 57 (go_big_quiet_step (fail)))
            apply quiet_end
            rintro _ ⟨nq, rfl⟩
            go_wp2_with fail
            go_roundw
            case rel => exact ⟨k + 1, by go_num, by omega, below_drewN hbr _⟩
            case measure => simp [intOf]; omega
          · have hz1 : ¬ (k : Int) > 0 := by omega
            clear hA5 hS hti hsaid
            clear hA3 hA4
            go_wp2_with fail
            have g2 : ((k : Int) > 0) = False := eq_false (by omega)
            refine wp_region_quiet_lit (by kernel_rfl) (by kernel_rfl) ?_
            (iterate 57 (go_big_quiet_step (fail)))
            apply quiet_end
            rintro _ ⟨nq, rfl⟩
            go_wp2_with fail
            go_roundw
            case rel => exact ⟨k + 1, by go_num, by omega, below_drewN hbr _⟩
            case measure => simp [intOf]; omega
        · have ht1 : ti ≥ 0 := by omega
          obtain ⟨j1, j2, j3⟩ := hA2 (by omega)
          replace hA5 := hA5 (by omega)
          have j4 : ¬ (lo < 0) := by omega
          have j5 : ¬ (ti < lo) := by omega
          clear hA1 hA2 hA6 htb
          by_cases hh : 0 ≤ hi
          · have j6 : hi ≥ 0 := hh
            have j7 : ¬ (ti > hi) := by have := j3 hh; omega
            clear j3
            by_cases hz : 0 < k
            · have hz1 : (k : Int) > 0 := by omega
              obtain ⟨y, hy⟩ := some_of_lt hsL.out (show k - 1 < n4 by omega)
              have hyv : y = shotS f (truthL bl bits) (k - 1) := by
                have : (shotL f (truthL bl bits))[k - 1]? = some (shotS f (truthL bl bits) (k - 1)) := mapRange_at _ (by omega)
                rw [this] at hy; exact (Option.some.inj hy).symm
              obtain ⟨bs2, os2, hS2, -, -, g0, -, -⟩ := hS.sht hy
              cases hS2
              have hyt : y.tick = tickS f (truthL bl bits) (k - 1) := by rw [hyv]; rfl
              rw [hyt] at g0
              have ky : IntKind.i64.wrap ((k : Int) - 1) = ((k - 1 : Nat) : Int) := by rw [IntWalk.i64_in _ (by omega)]; omega
              have ky0 : (0 : Int) ≤ ((k - 1 : Nat) : Int) := by omega
              have ky1 : ((k - 1 : Nat) : Int) < (n4 : Int) := by omega
              have hle := Lib.hid hA5
              clear hA5 hS hti hsaid
              clear hy hyv hyt
              generalize tickS f (truthL bl bits) (k - 1) = tp at *
              generalize k - 1 = kp at *
              rcases flags3 hA3 hA4 with ⟨z1, z2, z3⟩ | ⟨z1, z2, z3⟩ | ⟨z1, z2⟩
              · subst z1; subst z2; subst z3
                clear hA3 hA4
                go_wp2_with fail
                have g1 : (tp > ti) = False := eq_false (by have := hle.out; omega)
                refine wp_region_quiet_lit (by kernel_rfl) (by kernel_rfl) ?_
                (iterate 57 (go_big_quiet_step (fail)))
                apply quiet_end
                rintro _ ⟨nq, rfl⟩
                go_wp2_with fail
                go_roundw
                case rel => exact ⟨k + 1, by go_num, by omega, below_drewN hbr _⟩
                case measure => simp [intOf]; omega
              · subst z1; subst z2; subst z3
                clear hA3 hA4
                go_wp2_with fail
                have g1 : (tp > ti) = False := eq_false (by have := hle.out; omega)
                refine wp_region_quiet_lit (by kernel_rfl) (by kernel_rfl) ?_
                (iterate 57 (go_big_quiet_step (fail)))
                apply quiet_end
                rintro _ ⟨nq, rfl⟩
                go_wp2_with fail
                go_roundw
                case rel => exact ⟨k + 1, by go_num, by omega, below_drewN hbr _⟩
                case measure => simp [intOf]; omega
              · subst z1; subst z2
                clear hA3 hA4
                go_wp2_with fail
                have g1 : (tp > ti) = False := eq_false (by have := hle.out; omega)
                refine wp_region_quiet_lit (by kernel_rfl) (by kernel_rfl) ?_
                (iterate 57 (go_big_quiet_step (fail)))
                apply quiet_end
                rintro _ ⟨nq, rfl⟩
                go_wp2_with fail
                go_roundw
                case rel => exact ⟨k + 1, by go_num, by omega, below_drewN hbr _⟩
                case measure => simp [intOf]; omega
            · have hz1 : ¬ (k : Int) > 0 := by omega
              clear hA5 hS hti hsaid
              rcases flags3 hA3 hA4 with ⟨z1, z2, z3⟩ | ⟨z1, z2, z3⟩ | ⟨z1, z2⟩
              · subst z1; subst z2; subst z3
                clear hA3 hA4
                go_wp2_with fail
                have g2 : ((k : Int) > 0) = False := eq_false (by omega)
                refine wp_region_quiet_lit (by kernel_rfl) (by kernel_rfl) ?_
                (iterate 57 (go_big_quiet_step (fail)))
                apply quiet_end
                rintro _ ⟨nq, rfl⟩
                go_wp2_with fail
                go_roundw
                case rel => exact ⟨k + 1, by go_num, by omega, below_drewN hbr _⟩
                case measure => simp [intOf]; omega
              · subst z1; subst z2; subst z3
                clear hA3 hA4
                go_wp2_with fail
                have g2 : ((k : Int) > 0) = False := eq_false (by omega)
                refine wp_region_quiet_lit (by kernel_rfl) (by kernel_rfl) ?_
                (iterate 57 (go_big_quiet_step (fail)))
                apply quiet_end
                rintro _ ⟨nq, rfl⟩
                go_wp2_with fail
                go_roundw
                case rel => exact ⟨k + 1, by go_num, by omega, below_drewN hbr _⟩
                case measure => simp [intOf]; omega
              · subst z1; subst z2
                clear hA3 hA4
                go_wp2_with fail
                have g2 : ((k : Int) > 0) = False := eq_false (by omega)
                refine wp_region_quiet_lit (by kernel_rfl) (by kernel_rfl) ?_
                (iterate 57 (go_big_quiet_step (fail)))
                apply quiet_end
                rintro _ ⟨nq, rfl⟩
                go_wp2_with fail
                go_roundw
                case rel => exact ⟨k + 1, by go_num, by omega, below_drewN hbr _⟩
                case measure => simp [intOf]; omega
          · have j6 : ¬ (hi ≥ 0) := hh
            clear j3
            by_cases hz : 0 < k
            · have hz1 : (k : Int) > 0 := by omega
              obtain ⟨y, hy⟩ := some_of_lt hsL.out (show k - 1 < n4 by omega)
              have hyv : y = shotS f (truthL bl bits) (k - 1) := by
                have : (shotL f (truthL bl bits))[k - 1]? = some (shotS f (truthL bl bits) (k - 1)) := mapRange_at _ (by omega)
                rw [this] at hy; exact (Option.some.inj hy).symm
              obtain ⟨bs2, os2, hS2, -, -, g0, -, -⟩ := hS.sht hy
              cases hS2
              have hyt : y.tick = tickS f (truthL bl bits) (k - 1) := by rw [hyv]; rfl
              rw [hyt] at g0
              have ky : IntKind.i64.wrap ((k : Int) - 1) = ((k - 1 : Nat) : Int) := by rw [IntWalk.i64_in _ (by omega)]; omega
              have ky0 : (0 : Int) ≤ ((k - 1 : Nat) : Int) := by omega
              have ky1 : ((k - 1 : Nat) : Int) < (n4 : Int) := by omega
              have hle := Lib.hid hA5
              clear hA5 hS hti hsaid
              clear hy hyv hyt
              generalize tickS f (truthL bl bits) (k - 1) = tp at *
              generalize k - 1 = kp at *
              rcases flags3 hA3 hA4 with ⟨z1, z2, z3⟩ | ⟨z1, z2, z3⟩ | ⟨z1, z2⟩
              · subst z1; subst z2; subst z3
                clear hA3 hA4
                go_wp2_with fail
                have g1 : (tp > ti) = False := eq_false (by have := hle.out; omega)
                refine wp_region_quiet_lit (by kernel_rfl) (by kernel_rfl) ?_
                (iterate 57 (go_big_quiet_step (fail)))
                apply quiet_end
                rintro _ ⟨nq, rfl⟩
                go_wp2_with fail
                go_roundw
                case rel => exact ⟨k + 1, by go_num, by omega, below_drewN hbr _⟩
                case measure => simp [intOf]; omega
              · subst z1; subst z2; subst z3
                clear hA3 hA4
                go_wp2_with fail
                have g1 : (tp > ti) = False := eq_false (by have := hle.out; omega)
                refine wp_region_quiet_lit (by kernel_rfl) (by kernel_rfl) ?_
                (iterate 57 (go_big_quiet_step (fail)))
                apply quiet_end
                rintro _ ⟨nq, rfl⟩
                go_wp2_with fail
                go_roundw
                case rel => exact ⟨k + 1, by go_num, by omega, below_drewN hbr _⟩
                case measure => simp [intOf]; omega
              · subst z1; subst z2
                clear hA3 hA4
                go_wp2_with fail
                have g1 : (tp > ti) = False := eq_false (by have := hle.out; omega)
                refine wp_region_quiet_lit (by kernel_rfl) (by kernel_rfl) ?_
                (iterate 57 (go_big_quiet_step (fail)))
                apply quiet_end
                rintro _ ⟨nq, rfl⟩
                go_wp2_with fail
                go_roundw
                case rel => exact ⟨k + 1, by go_num, by omega, below_drewN hbr _⟩
                case measure => simp [intOf]; omega
            · have hz1 : ¬ (k : Int) > 0 := by omega
              clear hA5 hS hti hsaid
              rcases flags3 hA3 hA4 with ⟨z1, z2, z3⟩ | ⟨z1, z2, z3⟩ | ⟨z1, z2⟩
              · subst z1; subst z2; subst z3
                clear hA3 hA4
                go_wp2_with fail
                have g2 : ((k : Int) > 0) = False := eq_false (by omega)
                refine wp_region_quiet_lit (by kernel_rfl) (by kernel_rfl) ?_
                (iterate 57 (go_big_quiet_step (fail)))
                apply quiet_end
                rintro _ ⟨nq, rfl⟩
                go_wp2_with fail
                go_roundw
                case rel => exact ⟨k + 1, by go_num, by omega, below_drewN hbr _⟩
                case measure => simp [intOf]; omega
              · subst z1; subst z2; subst z3
                clear hA3 hA4
                go_wp2_with fail
                have g2 : ((k : Int) > 0) = False := eq_false (by omega)
                refine wp_region_quiet_lit (by kernel_rfl) (by kernel_rfl) ?_
                (iterate 57 (go_big_quiet_step (fail)))
                apply quiet_end
                rintro _ ⟨nq, rfl⟩
                go_wp2_with fail
                go_roundw
                case rel => exact ⟨k + 1, by go_num, by omega, below_drewN hbr _⟩
                case measure => simp [intOf]; omega
              · subst z1; subst z2
                clear hA3 hA4
                go_wp2_with fail
                have g2 : ((k : Int) > 0) = False := eq_false (by omega)
                refine wp_region_quiet_lit (by kernel_rfl) (by kernel_rfl) ?_
                (iterate 57 (go_big_quiet_step (fail)))
                apply quiet_end
                rintro _ ⟨nq, rfl⟩
                go_wp2_with fail
                go_roundw
                case rel => exact ⟨k + 1, by go_num, by omega, below_drewN hbr _⟩
                case measure => simp [intOf]; omega
      · obtain rfl : k = n4 := by omega
        replace b := b.trans (hbr.mono b.size)
        go_wp2_with fail
        refine (works_any _).mono ?_
        rintro e W4 ⟨rfl, hb⟩
        go_wp2_with fail
        go_ret
        exact ⟨rfl, b.trans (hb.mono b.size)⟩
  · have hv1 : timeR f bl = ([], errT f bl) := by unfold timeR; rw [if_neg he]
    have hv2 : weakR f bl = ([], [], errT f bl) := by unfold weakR; rw [if_neg he]
    simp only [hv1] at h1
    simp only [hv2] at h2
    generalize errT f bl = er at *
    have hz : (er != 0) = true := by rw [bne_iff_ne]; exact he
    replace he := Lib.hid he
    clear hv1 hv2
    go_enter Try.func11, Try.ntmps11
    go_wp2_with fail
    rw [← hw1]
    clear hw1
    obtain ⟨c3, f3, l3⟩ := k3.rules
    go_wp2_with fail
    refine (h1 _ hs1).mono ?_
    rintro e W ⟨T, n1, ct, rfl, hT, hb⟩
    clear c3 f3 l3 h1
    obtain rfl : n1 = 0 := hT.len.symm
    clear hT
    replace k3 := k3.below hb
    replace b := b.trans (hb.mono b.size)
    replace hs1 := hs1.below hb
    replace ho1 := ho1.below hb
    clear hb
    obtain ⟨c3, f3, l3⟩ := k3.rules
    go_wp2_with fail
    refine (h2 _ hs1).mono ?_
    rintro e W2 ⟨P, n2, cp, Q, n3, cq, rfl, -, -, hb⟩
    clear c3 f3 l3 h2
    replace k3 := k3.below hb
    replace b := b.trans (hb.mono b.size)
    replace hs1 := hs1.below hb
    replace ho1 := ho1.below hb
    clear hb
    go_wp2_with fail
    refine (works_any _).mono ?_
    rintro e W4 ⟨rfl, hb⟩
    go_wp2_with fail
    go_ret
    exact ⟨rfl, b.trans (hb.mono b.size)⟩
end Go.Proofs.Ytfengddpfeneiaa
