/-
  The law ShotSteady.
-/
import Derived.Test.YtfengddpfeneiaaGreatUS
import Derived.Test.YtfengddpfeneiaaGreatUL
import Derived.Test.YtfengddpfeneiaaGreatS28
import Derived.Test.YtfengddpfeneiaaGreatS9
namespace Go.Proofs.YtfengddpfeneiaaGreat
open Go.RowKit Go.Shelf
set_option linter.unusedSimpArgs false
set_option linter.unusedVariables false

theorem regL_len (p : Pnt) (h : Hdg) (st s : Int) (n : Nat) : (regL p h st s n).length = n := by simp [regL]
theorem regL_succ (p : Pnt) (h : Hdg) (st s : Int) (n : Nat) : regL p h st s (n + 1) = regL p h st s n ++ [nearR s (plcS p h st n)] := by unfold regL; rw [List.range_succ, List.map_append]; rfl
theorem vL_succ (v : Nat → Int) (n : Nat) : vL (n + 1) v = vL n v ++ [v n] := by unfold vL; rw [List.range_succ, List.map_append]; rfl
set_option maxRecDepth 100000 in
set_option maxHeartbeats 4000000 in
theorem ShotSteady_any (f : Fir) (p : Pnt) (h : Hdg) (na nb nc : Int) (w : World) :
    Calls Tryz.prog 5 #[.agg #[.int .i64 f.start, .int .i64 f.every, .int .i64 f.srcs, .int .i64 f.shots, .int .i64 f.charge], .agg #[.int .i64 p.x, .int .i64 p.y, .int .i64 h.p, .int .i64 h.q, .int .i64 h.c], .agg #[.int .i64 na, .int .i64 nb, .int .i64 nc]] w fun e w' => e = .returned (.bool true) ∧ Below w.heap.size w w' := by
  have hR1 := fun W => Rest_any na 20 W (by omega)
  have hR2 := fun W => Rest_any nb 30 W (by omega)
  have hR3 := fun W => Rest_any nc 4 W (by omega)
  obtain ⟨a1, a2⟩ := restS_bd na (many := 20) (by omega)
  obtain ⟨b1, b2⟩ := restS_bd nb (many := 30) (by omega)
  obtain ⟨c1, c2⟩ := restS_bd nc (many := 4) (by omega)
  generalize restS na 20 = st at *
  generalize restS nb 30 = rb at *
  generalize restS nc 4 = s at *
  obtain ⟨n, hn⟩ : ∃ n : Nat, 1 + rb = (n : Int) := ⟨(1 + rb).toNat, by omega⟩
  have hw9 : IntKind.i64.wrap (1 + rb) = (n : Int) := by rw [IntWalk.i64_in _ (by omega)]; exact hn
  have hn1 : 1 ≤ n := by omega
  have hn2 : n ≤ 31 := by omega
  have hs3 : s ≤ 3 := by omega
  have hst : st ≤ 19 := by omega
  obtain ⟨w1, hw1⟩ : ∃ w1, w1 = ((w.alloc (.cells #[.int .i64 f.start, .int .i64 f.every, .int .i64 f.srcs, .int .i64 f.shots, .int .i64 f.charge] 47)).alloc (.cells #[.int .i64 p.x, .int .i64 p.y, .int .i64 h.p, .int .i64 h.q, .int .i64 h.c] 27)).alloc (.cells #[.int .i64 na, .int .i64 nb, .int .i64 nc] 48) := ⟨_, rfl⟩
  have k3 : Blk w1 w.heap.size 47 #[.int .i64 f.start, .int .i64 f.every, .int .i64 f.srcs, .int .i64 f.shots, .int .i64 f.charge] := by rw [hw1]; exact ((Blk.new _ _ _).alloc _).alloc _
  have k4 : Blk w1 (w.heap.size + 1) 27 #[.int .i64 p.x, .int .i64 p.y, .int .i64 h.p, .int .i64 h.q, .int .i64 h.c] := by rw [hw1]; exact (Blk.newAt (by simp)).alloc _
  have k5 : Blk w1 (w.heap.size + 1 + 1) 48 #[.int .i64 na, .int .i64 nb, .int .i64 nc] := by rw [hw1]; exact Blk.newAt (by simp)
  have b : Below w.heap.size w w1 := by rw [hw1]; exact (((Below.refl _ _).alloc (Nat.le_refl _) _).alloc (by simp) _).alloc (by simp; omega) _
  go_enter Tryz.func5, Tryz.ntmps5
  go_wp2_with fail
  rw [← hw1]
  clear hw1
  obtain ⟨c5, f5, l5⟩ := k5.rules
  go_quiet ((first | (go_at_call 15; with_reducible exact Calls.quiet_of_same (flip_w (hR1 _))) | (go_at_call 15; with_reducible exact Calls.quiet_of_same (flip_w (hR2 _))) | (go_at_call 15; with_reducible exact Calls.quiet_of_same (flip_w (hR3 _)))))
  clear c5 f5 l5 hR1 hR2 hR3 k5
  replace k3 := k3.drewN nq
  replace k4 := k4.drewN nq
  replace b := below_drewN b nq
  generalize w1.drewN nq = W at *
  clear hw9 hn
  have hu0 : IntKind.i64.wrap 0 = 0 := by decide
  have hg4 := k4.lt
  go_wp2_with fail
  go_loopw [10, 11, 12] (fun v u i wr => ∃ k : Nat, i = .int .i64 (k : Int) ∧ k ≤ n ∧ (∀ j, j < k → okPnt (plcS p h st j) = true) ∧ wr.ownsRow W.heap.size 42 8 v k ((regL p h st s k).flatMap Reg.cells) ∧ wr.ownsRow W.heap.size 3 1 u k ((vL k (disS h st)).map (.int .i64 ·)) ∧ (∀ q, v.ownBlock = some q → u.ownBlock = some q → False) ∧ Below W.heap.size W wr) (fun v u i wr => n - (intOf i).toNat)
  case atStart => exact ⟨0, rfl, Nat.zero_le _, (fun j hj => by omega), ⟨rfl, .inl ⟨rfl, rfl⟩⟩, ⟨rfl, .inl ⟨rfl, rfl⟩⟩, (fun q h => by cases h), Below.refl _ _⟩
  case round =>
    obtain ⟨k, rfl, hk, hP, rv, ru, hvu, hb⟩ := hrel
    have k4r := k4.below hb
    by_cases hlt : k < n
    · have hk0 : (0 : Int) ≤ (k : Int) := by omega
      have hk1 : (k : Int) < (n : Int) := by omega
      have d0 : 0 ≤ (k : Int) * st := Int.mul_nonneg (by omega) a1
      have d1 : (k : Int) * st ≤ 31 * 19 := Int.mul_le_mul (by omega) hst a1 (by omega)
      have u1 := IntWalk.i64_in ((k : Int) * st) (by omega)
      have u9 := IntWalk.i64_in ((k : Int) + 1) (by omega)
      obtain ⟨c4, f4, l4⟩ := k4r.rules
      go_wp2_with fail
      clear c4 f4 l4
      have hPx : wrap64 (p.x + wrap64 ((k : Int) * st * h.p)) = (plcS p h st k).x := rfl
      have hPy : wrap64 (p.y + wrap64 ((k : Int) * st * h.q)) = (plcS p h st k).y := rfl
      rw [hPx, hPy]
      clear hPx hPy
      have hrs := Lib.hid (regL_succ p h st s k)
      have hvs := Lib.hid (vL_succ (disS h st) k)
      have hdi : min 1048576 (wrap64 ((k : Int) * st * max 0 h.c)) = disS h st k := rfl
      generalize hPP : plcS p h st k = P at *
      have k13 : Blk ((wr.alloc (.cells #[.int .i64 P.x, .int .i64 P.y] 23)).alloc (.cells #[.int .i64 P.x, .int .i64 P.y] 23)) (wr.heap.size + 1) 23 #[.int .i64 P.x, .int .i64 P.y] := Blk.newAt (by simp)
      have hbel := ((Below.refl wr.heap.size wr).alloc (Nat.le_refl _) (.cells #[.int .i64 P.x, .int .i64 P.y] 23)).alloc (by simp) (.cells #[.int .i64 P.x, .int .i64 P.y] 23)
      refine (Of1_any P (wr.heap.size + 1) _ k13).mono ?_
      rintro e W9 ⟨rfl, hb9⟩
      replace hbel := hbel.trans (hb9.mono hbel.size)
      clear k13 hb9
      cases hok : okPnt P with
      | false =>
        rw [if_neg (by decide), show chkPnt P = 10 from by unfold chkPnt; rw [if_neg (by rw [hok]; decide)]]
        simp only [regA, noReg]
        have hbz := (hb.trans (hbel.mono hb.size))
        have hbz2 := hbz.alloc hbz.size (.cells #[.int .i64 0, .int .i64 0, .int .i64 0, .int .i64 0, .int .i64 0, .int .i64 0, .int .i64 0, .int .i64 0] 42)
        clear hvu rv ru hP
        go_wp2_with fail
        refine (works_any _).mono ?_
        rintro e W11 ⟨rfl, hb11⟩
        have hbq := b.trans (hbz2.mono b.size)
        go_wp2_with fail
        go_ret
        exact ⟨rfl, hbq.trans (hb11.mono hbq.size)⟩
      | true =>
        rw [if_pos rfl, show chkPnt P = 0 from by unfold chkPnt; rw [if_pos hok]]
        obtain ⟨t, ht, hN, -, -⟩ := near_is c1 hs3 hok
        have hre := fun W => Reach_any s c1 hs3 (ofP P) t (nearR s P) W (ofP_ok hok) ht hN
        have hP2 := Lib.hid (show ∀ j, j < k + 1 → okPnt (plcS p h st j) = true from fun j hj => by
          by_cases e : j = k
          · subst e; rw [hPP]; exact hok
          · exact hP j (by omega))
        clear hP ht hN
        generalize nearR s P = N at *
        generalize ofP P = O at *
        simp only [regA] at hre ⊢
        replace rv := ownsRow_below rv hbel
        replace ru := ownsRow_below ru hbel
        have k4s := k4r.below hbel
        replace hb := hb.trans (hbel.mono hb.size)
        clear hbel k4r
        have k14 := Blk.new W9 42 #[.int .i64 O.x.lo, .int .i64 O.x.hi, .int .i64 O.y.lo, .int .i64 O.y.hi, .int .i64 O.s.lo, .int .i64 O.s.hi, .int .i64 O.d.lo, .int .i64 O.d.hi]
        have hbel := (Below.refl W9.heap.size W9).alloc (Nat.le_refl _) (.cells #[.int .i64 O.x.lo, .int .i64 O.x.hi, .int .i64 O.y.lo, .int .i64 O.y.hi, .int .i64 O.s.lo, .int .i64 O.s.hi, .int .i64 O.d.lo, .int .i64 O.d.hi] 42)
        have hvx : ∀ q, u10.ownBlock = some q → W.heap.size ≤ q ∧ q < W9.heap.size := fun q e => rv.lt q e
        have hux : ∀ q, u11.ownBlock = some q → W.heap.size ≤ q ∧ q < W9.heap.size := fun q e => ru.lt q e
        have hg14 : W.heap.size ≤ W9.heap.size := hb.size
        replace rv := ownsRow_below rv hbel
        replace ru := ownsRow_below ru hbel
        replace k4s := k4s.below hbel
        replace hb := hb.trans (hbel.mono hb.size)
        clear hbel
        go_upto_region 9 with fail
        generalize W9.alloc (.cells #[.int .i64 O.x.lo, .int .i64 O.x.hi, .int .i64 O.y.lo, .int .i64 O.y.hi, .int .i64 O.s.lo, .int .i64 O.s.hi, .int .i64 O.d.lo, .int .i64 O.d.hi] 42) = W8 at *
        generalize W9.heap.size = g14 at *
        obtain ⟨c14, f14, l14⟩ := k14.rules
        go_wp2_with fail
        refine (hre _).mono ?_
        rintro e W7 ⟨rfl, hb7⟩
        clear c14 f14 l14 hre
        replace k14 := k14.below hb7
        replace k4s := k4s.below hb7
        replace rv := ownsRow_below rv hb7
        replace ru := ownsRow_below ru hb7
        replace hb := hb.trans (hb7.mono hb.size)
        clear hb7
        have kz := k14.set8 (.int .i64 N.x.lo) (.int .i64 N.x.hi) (.int .i64 N.y.lo) (.int .i64 N.y.hi) (.int .i64 N.s.lo) (.int .i64 N.s.hi) (.int .i64 N.d.lo) (.int .i64 N.d.hi)
        have bz := below_set8 (g := g14) hb hg14 (.int .i64 N.x.lo) (.int .i64 N.x.hi) (.int .i64 N.y.lo) (.int .i64 N.y.hi) (.int .i64 N.s.lo) (.int .i64 N.s.hi) (.int .i64 N.d.lo) (.int .i64 N.d.hi)
        have rvz := ownsRow_set8 rv (g := g14) (fun e => by have := hvx _ e; omega) (.int .i64 N.x.lo) (.int .i64 N.x.hi) (.int .i64 N.y.lo) (.int .i64 N.y.hi) (.int .i64 N.s.lo) (.int .i64 N.s.hi) (.int .i64 N.d.lo) (.int .i64 N.d.hi)
        have ruz := ownsRow_set8 ru (g := g14) (fun e => by have := hux _ e; omega) (.int .i64 N.x.lo) (.int .i64 N.x.hi) (.int .i64 N.y.lo) (.int .i64 N.y.hi) (.int .i64 N.s.lo) (.int .i64 N.s.hi) (.int .i64 N.d.lo) (.int .i64 N.d.hi)
        have k4z := far_set8 k4s (g := g14) (by omega) (.int .i64 N.x.lo) (.int .i64 N.x.hi) (.int .i64 N.y.lo) (.int .i64 N.y.hi) (.int .i64 N.s.lo) (.int .i64 N.s.hi) (.int .i64 N.d.lo) (.int .i64 N.d.hi)
        obtain ⟨V, hwz⟩ : ∃ x, x = set8 W7 g14 (.int .i64 N.x.lo) (.int .i64 N.x.hi) (.int .i64 N.y.lo) (.int .i64 N.y.hi) (.int .i64 N.s.lo) (.int .i64 N.s.hi) (.int .i64 N.d.lo) (.int .i64 N.d.hi) := ⟨_, rfl⟩
        rw [← hwz] at kz bz rvz ruz k4z
        simp only [set8] at hwz
        obtain ⟨c14, f14, l14⟩ := k14.rules
        go_wp2_with fail
        rw [← hwz]
        clear hwz c14 f14 l14 k14 k4s rv ru hb
        have k14 := kz
        have hb := bz
        have rv := rvz
        have ru := ruz
        clear kz bz rvz ruz
        have hg14V : g14 < V.heap.size := k14.lt
        have hvx : ∀ q, u10.ownBlock = some q → W.heap.size ≤ q ∧ q < V.heap.size ∧ q < g14 := fun q e => by have := hvx q e; omega
        have hux : ∀ q, u11.ownBlock = some q → W.heap.size ≤ q ∧ q < V.heap.size ∧ q < g14 := fun q e => by have := hux q e; omega
        obtain ⟨is, ish, is0, is1, is2⟩ := info_parts Tryz.infoReg
        obtain ⟨ib, ibh, ib0, ib1, ib2⟩ := info_parts Tryz.infoInt
        have hbig1 : Hid (k + 1 ≤ maxLen) := by show k + 1 ≤ maxLen; unfold maxLen; omega
        have hbig2 : Hid ((k + 1) * 64 ≤ 140737488355328) := by show (k + 1) * 64 ≤ 140737488355328; omega
        have hbig3 : Hid ((k + 1) * 8 ≤ 140737488355328) := by show (k + 1) * 8 ≤ 140737488355328; omega
        have hmax := max2_int
        have hmin := min2_int
        refine wp_held_np (fun w' : World => (∀ j, w'.cell? ⟨g14, j, none⟩ = #[Value.int .i64 N.x.lo, .int .i64 N.x.hi, .int .i64 N.y.lo, .int .i64 N.y.hi, .int .i64 N.s.lo, .int .i64 N.s.hi, .int .i64 N.d.lo, .int .i64 N.d.hi][j]?) ∧ (∀ j, w'.cell? ⟨w.heap.size + 1, j, none⟩ = #[Value.int .i64 p.x, .int .i64 p.y, .int .i64 h.p, .int .i64 h.q, .int .i64 h.c][j]?)) (by kernel_rfl) ?_
        have hSb : Hid (∀ W', Below W.heap.size V W' → Blk W' g14 42 #[.int .i64 N.x.lo, .int .i64 N.x.hi, .int .i64 N.y.lo, .int .i64 N.y.hi, .int .i64 N.s.lo, .int .i64 N.s.hi, .int .i64 N.d.lo, .int .i64 N.d.hi] → (fun w' : World => (∀ j, w'.cell? ⟨g14, j, none⟩ = #[Value.int .i64 N.x.lo, .int .i64 N.x.hi, .int .i64 N.y.lo, .int .i64 N.y.hi, .int .i64 N.s.lo, .int .i64 N.s.hi, .int .i64 N.d.lo, .int .i64 N.d.hi][j]?) ∧ (∀ j, w'.cell? ⟨w.heap.size + 1, j, none⟩ = #[Value.int .i64 p.x, .int .i64 p.y, .int .i64 h.p, .int .i64 h.q, .int .i64 h.c][j]?)) W') := by
          show ∀ _, _
          intro W' h1 h2
          exact ⟨h2.cell, (k4z.belowB h1 (by omega)).cell⟩
        have hb9 : Below W.heap.size V V.drew := (Below.refl _ _).drew
        replace k14 := k14.drew
        have hS := hSb.out _ hb9 k14
        have sbVd : V.heap.size ≤ V.drew.heap.size := Nat.le_refl _
        replace rv : V.drew.ownsRow _ _ _ _ _ _ := rv
        replace ru : V.drew.ownsRow _ _ _ _ _ _ := ru
        generalize V.drew = Vd at *
        refine held_take (i := 0) (v := ?_) 78 rfl rfl (by kernel_rfl) (by kernel_rfl) (by kernel_rfl) (fun _ _ _ h => h) (Or.inl ⟨by rfl, ?_⟩) hS ?_
        rotate_left 1
        · intro w' hSw
          try dsimp only at hSw
          obtain ⟨z0, z1⟩ := hSw
          go_simp
          all_goals with_reducible rfl
        try simp only [Act.put, List.setIfInBounds_toArray, List.set_cons_zero, List.set_cons_succ]
        refine held_take (i := 1) (v := ?_) 79 rfl rfl (by kernel_rfl) (by kernel_rfl) (by kernel_rfl) (fun _ _ _ h => h) (Or.inl ⟨by rfl, ?_⟩) hS ?_
        rotate_left 1
        · intro w' hSw
          try dsimp only at hSw
          obtain ⟨z0, z1⟩ := hSw
          go_simp
          all_goals with_reducible rfl
        try simp only [Act.put, List.setIfInBounds_toArray, List.set_cons_zero, List.set_cons_succ]
        refine held_take (i := 4) (v := ?_) 82 rfl rfl (by kernel_rfl) (by kernel_rfl) (by kernel_rfl) (fun _ _ _ h => h) (Or.inl ⟨by rfl, ?_⟩) hS ?_
        rotate_left 1
        · intro w' hSw
          try dsimp only at hSw
          obtain ⟨z0, z1⟩ := hSw
          go_simp
          all_goals with_reducible rfl
        try simp only [Act.put, List.setIfInBounds_toArray, List.set_cons_zero, List.set_cons_succ]
        refine held_take (i := 5) (v := ?_) 83 rfl rfl (by kernel_rfl) (by kernel_rfl) (by kernel_rfl) (fun _ _ _ h => h) (Or.inl ⟨by rfl, ?_⟩) hS ?_
        rotate_left 1
        · intro w' hSw
          try dsimp only at hSw
          obtain ⟨z0, z1⟩ := hSw
          go_simp
          all_goals with_reducible rfl
        try simp only [Act.put, List.setIfInBounds_toArray, List.set_cons_zero, List.set_cons_succ]
        refine held_take (i := 6) (v := ?_) 84 rfl rfl (by kernel_rfl) (by kernel_rfl) (by kernel_rfl) (fun _ _ _ h => h) (Or.inl ⟨by rfl, ?_⟩) hS ?_
        rotate_left 1
        · intro w' hSw
          try dsimp only at hSw
          obtain ⟨z0, z1⟩ := hSw
          go_simp
          all_goals with_reducible rfl
        try simp only [Act.put, List.setIfInBounds_toArray, List.set_cons_zero, List.set_cons_succ]
        refine held_take (i := 7) (v := ?_) 85 rfl rfl (by kernel_rfl) (by kernel_rfl) (by kernel_rfl) (fun _ _ _ h => h) (Or.inl ⟨by rfl, ?_⟩) hS ?_
        rotate_left 1
        · intro w' hSw
          try dsimp only at hSw
          obtain ⟨z0, z1⟩ := hSw
          go_simp
          all_goals with_reducible rfl
        try simp only [Act.put, List.setIfInBounds_toArray, List.set_cons_zero, List.set_cons_succ]
        refine held_take (i := 8) (v := ?_) 86 rfl rfl (by kernel_rfl) (by kernel_rfl) (by kernel_rfl) (fun _ _ _ h => h) (Or.inl ⟨by rfl, ?_⟩) hS ?_
        rotate_left 1
        · intro w' hSw
          try dsimp only at hSw
          obtain ⟨z0, z1⟩ := hSw
          go_simp
          all_goals with_reducible rfl
        try simp only [Act.put, List.setIfInBounds_toArray, List.set_cons_zero, List.set_cons_succ]
        refine held_take (i := 9) (v := ?_) 87 rfl rfl (by kernel_rfl) (by kernel_rfl) (by kernel_rfl) (fun _ _ _ h => h) (Or.inl ⟨by rfl, ?_⟩) hS ?_
        rotate_left 1
        · intro w' hSw
          try dsimp only at hSw
          obtain ⟨z0, z1⟩ := hSw
          go_simp
          all_goals with_reducible rfl
        try simp only [Act.put, List.setIfInBounds_toArray, List.set_cons_zero, List.set_cons_succ]
        refine held_take (i := 10) (v := ?_) 88 rfl rfl (by kernel_rfl) (by kernel_rfl) (by kernel_rfl) (fun _ _ _ h => h) (Or.inl ⟨by rfl, ?_⟩) hS ?_
        rotate_left 1
        · intro w' hSw
          try dsimp only at hSw
          obtain ⟨z0, z1⟩ := hSw
          go_simp
          all_goals with_reducible rfl
        try simp only [Act.put, List.setIfInBounds_toArray, List.set_cons_zero, List.set_cons_succ]
        refine held_take (i := 11) (v := ?_) 89 rfl rfl (by kernel_rfl) (by kernel_rfl) (by kernel_rfl) (fun _ _ _ h => h) (Or.inl ⟨by rfl, ?_⟩) hS ?_
        rotate_left 1
        · intro w' hSw
          try dsimp only at hSw
          obtain ⟨z0, z1⟩ := hSw
          go_simp
          all_goals with_reducible rfl
        try simp only [Act.put, List.setIfInBounds_toArray, List.set_cons_zero, List.set_cons_succ]
        refine held_take (i := 12) (v := ?_) 90 rfl rfl (by kernel_rfl) (by kernel_rfl) (by kernel_rfl) (fun _ _ _ h => h) (Or.inl ⟨by rfl, ?_⟩) hS ?_
        rotate_left 1
        · intro w' hSw
          try dsimp only at hSw
          obtain ⟨z0, z1⟩ := hSw
          go_simp
          all_goals with_reducible rfl
        try simp only [Act.put, List.setIfInBounds_toArray, List.set_cons_zero, List.set_cons_succ]
        refine held_take (i := 13) (v := ?_) 91 rfl rfl (by kernel_rfl) (by kernel_rfl) (by kernel_rfl) (fun _ _ _ h => h) (Or.inl ⟨by rfl, ?_⟩) hS ?_
        rotate_left 1
        · intro w' hSw
          try dsimp only at hSw
          obtain ⟨z0, z1⟩ := hSw
          go_simp
          all_goals with_reducible rfl
        try simp only [Act.put, List.setIfInBounds_toArray, List.set_cons_zero, List.set_cons_succ]
        have hdi2 : min 1048576 (IntKind.i64.wrap ((k : Int) * st * max 0 h.c)) = disS h st k := by rw [IntWalk.i64_left]; exact hdi
        first | rw [hdi2] | rw [hdi]
        clear hdi hdi2
        generalize disS h st k = di at *
        clear hS
        refine wpAnyH_fin (f := fun a (q : Value × Value × Value × Value) => (((((a.put (some 80) q.1).put (some 81) q.2.1).put (some 92) q.2.2.1).put (some 93) q.2.2.2).put (some 10) q.2.1).put (some 11) q.2.2.2) (B := fun q W' => W'.ownsRow W.heap.size 42 8 q.2.1 (k + 1) ((regL p h st s k).flatMap Reg.cells ++ Reg.cells N) ∧ W'.ownsRow W.heap.size 3 1 q.2.2.2 (k + 1) ((vL k (disS h st)).map (.int .i64 ·) ++ [Value.int .i64 di]) ∧ (∀ p, q.2.1.ownBlock = some p → q.2.2.2.ownBlock = some p → False) ∧ Below W.heap.size V W') ?_ (fun hrest => ?_)
        · rintro ⟨v19, v20, v27, v28⟩ W3 ⟨ha1, ha2, ha3, ha4⟩
          try simp only [Act.put, List.setIfInBounds_toArray, List.set_cons_zero, List.set_cons_succ]
          refine noPanic_normal ?_
          clear hSb hb9
          go_wp2_with fail
          go_roundw
          case rel =>
            refine ⟨k + 1, by go_num, by omega, hP2.out, ?_, ?_, ha3, hb.trans ha4⟩
            · rw [hrs.out, List.flatMap_append]; simpa using ha1
            · rw [hvs.out, List.map_append]; simpa using ha2
          case measure => simp [intOf]; omega
        · try simp only [Act.put, List.setIfInBounds_toArray, List.set_cons_zero, List.set_cons_succ] at hrest
          refine held_two (i := 2) (j := 14) (by kernel_rfl) rfl rfl rfl rfl (fun K hK => ?_) (fun K hK => ?_)
          · skip
            go_simp
            have n2 := Blk.new Vd 42 #[.int .i64 N.x.lo, .int .i64 N.x.hi, .int .i64 N.y.lo, .int .i64 N.y.hi, .int .i64 N.s.lo, .int .i64 N.s.hi, .int .i64 N.d.lo, .int .i64 N.d.hi]
            have hbel := (Below.refl Vd.heap.size Vd).alloc (Nat.le_refl _) (.cells #[.int .i64 N.x.lo, .int .i64 N.x.hi, .int .i64 N.y.lo, .int .i64 N.y.hi, .int .i64 N.s.lo, .int .i64 N.s.hi, .int .i64 N.d.lo, .int .i64 N.d.hi] 42)
            have szB : Vd.heap.size < (Vd.alloc (.cells #[.int .i64 N.x.lo, .int .i64 N.x.hi, .int .i64 N.y.lo, .int .i64 N.y.hi, .int .i64 N.s.lo, .int .i64 N.s.hi, .int .i64 N.d.lo, .int .i64 N.d.hi] 42)).heap.size := by rw [World.size_alloc]; omega
            generalize Vd.alloc (.cells #[.int .i64 N.x.lo, .int .i64 N.x.hi, .int .i64 N.y.lo, .int .i64 N.y.hi, .int .i64 N.s.lo, .int .i64 N.s.hi, .int .i64 N.d.lo, .int .i64 N.d.hi] 42) = X1 at *
            have szX1 : Vd.heap.size < X1.heap.size := szB
            clear szB
            try replace n2 := n2.below hbel
            try replace n14 := n14.below hbel
            replace k14 := k14.below hbel
            try replace rv := ownsRow_below rv hbel
            try replace ru := ownsRow_below ru hbel
            try replace r3 := ownsRow_below r3 hbel
            replace hb9 := hb9.trans (hbel.mono (Nat.le_trans hb.size sbVd))
            clear hbel
            have sbX1 := Nat.le_trans sbVd (Nat.le_of_lt szX1)
            refine hK _ _ (hSb.out _ hb9 k14) ?_
            clear hK K
            try simp only [Act.put, List.setIfInBounds_toArray, List.set_cons_zero, List.set_cons_succ]
            have hg2 : V.heap.size ≤ Vd.heap.size := sbVd
            generalize hge2 : Vd.heap.size = g_2 at n2 hg2
            refine held_two (i := 3) (j := 14) (by kernel_rfl) rfl rfl rfl rfl (fun K hK => ?_) (fun K hK => ?_)
            · skip
              refine wp_append_lies _ _ _ 28 (by rfl) W.heap.size 42 is (.agg #[.int .i64 0, .int .i64 0, .int .i64 0, .int .i64 0, .int .i64 0, .int .i64 0, .int .i64 0, .int .i64 0]) 8 64 Tryz.underlying28 ish is0 is1 is2 rfl (by omega) u10 k ((regL p h st s k).flatMap Reg.cells) (by rfl) rv ⟨g_2, 0, none⟩ 1 1 (Reg.cells N) (by rfl) rfl (World.news_of_block (cs := #[Value.int .i64 N.x.lo, .int .i64 N.x.hi, .int .i64 N.y.lo, .int .i64 N.y.hi, .int .i64 N.s.lo, .int .i64 N.s.hi, .int .i64 N.d.lo, .int .i64 N.d.hi]) n2) (by simp [Value.oneCell', Reg.cells]) (by omega) hbig1.out hbig2.out (Nat.le_trans hb.size sbX1) X1.heap.size rfl ?_
              intro b3 c3 X2 r3 hgrow hlies3 hlt3
              have hbx : Below W.heap.size X1 X2 := ⟨hgrow.os, hgrow.tape, hgrow.output, hgrow.size, fun b hb2 => hgrow.block b (Nat.lt_of_lt_of_le hb2 (Nat.le_trans hb.size sbX1)) (fun e => by have := hvx _ e.symm; omega)⟩
              have sbX2 := Nat.le_trans sbX1 hgrow.size
              replace k14 := k14.grown hgrow (fun e => by have := hvx _ e.symm; omega)
              replace ru := ru.kept hgrow (by
                by_cases h0 : u11.ownBlock = none
                · exact .inl h0
                · obtain ⟨q, hq⟩ := Option.ne_none_iff_exists'.1 h0
                  exact .inr (fun e => hvu q (by rw [← e]; exact hq) hq))
              try replace n14 := n14.grown hgrow (fun e => by have := hvx _ e.symm; omega)
              have hd7 : u11.ownBlock ≠ some b3 := fun e => by
                rcases hlies3 with h | h
                · exact hvu _ h e
                · have := hux _ e; omega
              replace hb9 := hb9.trans hbx
              clear hbx hgrow
              refine hK _ _ (hSb.out _ hb9 k14) ?_
              clear hK K
              try simp only [Act.put, List.setIfInBounds_toArray, List.set_cons_zero, List.set_cons_succ]
              refine held_one (i := 14) (by kernel_rfl) rfl rfl (fun K hK => ?_)
              go_simp
              have n14 := Blk.new X2 3 #[.int .i64 di]
              have hbel := (Below.refl X2.heap.size X2).alloc (Nat.le_refl _) (.cells #[.int .i64 di] 3)
              have szB : X2.heap.size < (X2.alloc (.cells #[.int .i64 di] 3)).heap.size := by rw [World.size_alloc]; omega
              generalize X2.alloc (.cells #[.int .i64 di] 3) = X3 at *
              have szX3 : X2.heap.size < X3.heap.size := szB
              clear szB
              try replace n2 := n2.below hbel
              try replace n14 := n14.below hbel
              replace k14 := k14.below hbel
              try replace rv := ownsRow_below rv hbel
              try replace ru := ownsRow_below ru hbel
              try replace r3 := ownsRow_below r3 hbel
              replace hb9 := hb9.trans (hbel.mono (Nat.le_trans hb.size sbX2))
              clear hbel
              have sbX3 := Nat.le_trans sbX2 (Nat.le_of_lt szX3)
              refine hK _ _ (hSb.out _ hb9 k14) ?_
              clear hK K
              try simp only [Act.put, List.setIfInBounds_toArray, List.set_cons_zero, List.set_cons_succ]
              have hg14 : V.heap.size ≤ X2.heap.size := sbX2
              generalize hge14 : X2.heap.size = g_14 at n14 hg14
              refine held_one (i := 15) (by kernel_rfl) rfl rfl (fun K hK => ?_)
              refine wp_append_lies _ _ _ 36 (by rfl) W.heap.size 3 ib (.int .i64 0) 1 8 Tryz.underlying36 ibh ib0 ib1 ib2 rfl (by omega) u11 k ((vL k (disS h st)).map (.int .i64 ·)) (by rfl) ru ⟨g_14, 0, none⟩ 1 1 [Value.int .i64 di] (by rfl) rfl (World.news_of_block (cs := #[Value.int .i64 di]) n14) (by simp [Value.oneCell', Reg.cells]) (by omega) hbig1.out hbig3.out (Nat.le_trans hb.size sbX3) X3.heap.size rfl ?_
              intro b15 c15 X4 r15 hgrow hlies15 hlt15
              have hbx : Below W.heap.size X3 X4 := ⟨hgrow.os, hgrow.tape, hgrow.output, hgrow.size, fun b hb2 => hgrow.block b (Nat.lt_of_lt_of_le hb2 (Nat.le_trans hb.size sbX3)) (fun e => by have := hux _ e.symm; omega)⟩
              have sbX4 := Nat.le_trans sbX3 hgrow.size
              replace k14 := k14.grown hgrow (fun e => by have := hux _ e.symm; omega)
              have hlt7b := r3.lt b3 rfl
              have hd15 : b3 ≠ b15 := fun e => by
                rcases hlies15 with h | h
                · exact hd7 (by rw [e]; exact h)
                · omega
              replace r3 := r3.kept hgrow (.inr (fun e => hd7 (by rw [← e]; rfl)))
              replace hb9 := hb9.trans hbx
              clear hbx hgrow
              refine hK _ _ (hSb.out _ hb9 k14) ?_
              clear hK K
              try simp only [Act.put, List.setIfInBounds_toArray, List.set_cons_zero, List.set_cons_succ]
              have hS := hSb.out _ hb9 k14
              refine held_take (i := 16) (v := ?_) 10 rfl rfl (by kernel_rfl) (by kernel_rfl) (by kernel_rfl) (fun _ _ _ h => h) (Or.inl ⟨by rfl, ?_⟩) hS ?_
              rotate_left 1
              · intro w' hSw
                try dsimp only at hSw
                obtain ⟨z0, z1⟩ := hSw
                go_simp
                all_goals with_reducible rfl
              try simp only [Act.put, List.setIfInBounds_toArray, List.set_cons_zero, List.set_cons_succ]
              refine held_take (i := 17) (v := ?_) 11 rfl rfl (by kernel_rfl) (by kernel_rfl) (by kernel_rfl) (fun _ _ _ h => h) (Or.inl ⟨by rfl, ?_⟩) hS ?_
              rotate_left 1
              · intro w' hSw
                try dsimp only at hSw
                obtain ⟨z0, z1⟩ := hSw
                go_simp
                all_goals with_reducible rfl
              try simp only [Act.put, List.setIfInBounds_toArray, List.set_cons_zero, List.set_cons_succ]
              refine wpAnyH_done (by kernel_rfl) (hrest (_, _, _, _) _ ⟨r3, r15, (by intro q h1 h2; simp only [Value.ownBlock, Option.some.injEq] at h1 h2; omega), hb9⟩) _
            · skip
              go_simp
              have n14 := Blk.new X1 3 #[.int .i64 di]
              have hbel := (Below.refl X1.heap.size X1).alloc (Nat.le_refl _) (.cells #[.int .i64 di] 3)
              have szB : X1.heap.size < (X1.alloc (.cells #[.int .i64 di] 3)).heap.size := by rw [World.size_alloc]; omega
              generalize X1.alloc (.cells #[.int .i64 di] 3) = X5 at *
              have szX5 : X1.heap.size < X5.heap.size := szB
              clear szB
              try replace n2 := n2.below hbel
              try replace n14 := n14.below hbel
              replace k14 := k14.below hbel
              try replace rv := ownsRow_below rv hbel
              try replace ru := ownsRow_below ru hbel
              try replace r3 := ownsRow_below r3 hbel
              replace hb9 := hb9.trans (hbel.mono (Nat.le_trans hb.size sbX1))
              clear hbel
              have sbX5 := Nat.le_trans sbX1 (Nat.le_of_lt szX5)
              refine hK _ _ (hSb.out _ hb9 k14) ?_
              clear hK K
              try simp only [Act.put, List.setIfInBounds_toArray, List.set_cons_zero, List.set_cons_succ]
              have hg14 : V.heap.size ≤ X1.heap.size := sbX1
              generalize hge14 : X1.heap.size = g_14 at n14 hg14
              refine held_one (i := 3) (by kernel_rfl) rfl rfl (fun K hK => ?_)
              refine wp_append_lies _ _ _ 28 (by rfl) W.heap.size 42 is (.agg #[.int .i64 0, .int .i64 0, .int .i64 0, .int .i64 0, .int .i64 0, .int .i64 0, .int .i64 0, .int .i64 0]) 8 64 Tryz.underlying28 ish is0 is1 is2 rfl (by omega) u10 k ((regL p h st s k).flatMap Reg.cells) (by rfl) rv ⟨g_2, 0, none⟩ 1 1 (Reg.cells N) (by rfl) rfl (World.news_of_block (cs := #[Value.int .i64 N.x.lo, .int .i64 N.x.hi, .int .i64 N.y.lo, .int .i64 N.y.hi, .int .i64 N.s.lo, .int .i64 N.s.hi, .int .i64 N.d.lo, .int .i64 N.d.hi]) n2) (by simp [Value.oneCell', Reg.cells]) (by omega) hbig1.out hbig2.out (Nat.le_trans hb.size sbX5) X5.heap.size rfl ?_
              intro b3 c3 X6 r3 hgrow hlies3 hlt3
              have hbx : Below W.heap.size X5 X6 := ⟨hgrow.os, hgrow.tape, hgrow.output, hgrow.size, fun b hb2 => hgrow.block b (Nat.lt_of_lt_of_le hb2 (Nat.le_trans hb.size sbX5)) (fun e => by have := hvx _ e.symm; omega)⟩
              have sbX6 := Nat.le_trans sbX5 hgrow.size
              replace k14 := k14.grown hgrow (fun e => by have := hvx _ e.symm; omega)
              replace ru := ru.kept hgrow (by
                by_cases h0 : u11.ownBlock = none
                · exact .inl h0
                · obtain ⟨q, hq⟩ := Option.ne_none_iff_exists'.1 h0
                  exact .inr (fun e => hvu q (by rw [← e]; exact hq) hq))
              try replace n14 := n14.grown hgrow (fun e => by have := hvx _ e.symm; omega)
              have hd7 : u11.ownBlock ≠ some b3 := fun e => by
                rcases hlies3 with h | h
                · exact hvu _ h e
                · have := hux _ e; omega
              replace hb9 := hb9.trans hbx
              clear hbx hgrow
              refine hK _ _ (hSb.out _ hb9 k14) ?_
              clear hK K
              try simp only [Act.put, List.setIfInBounds_toArray, List.set_cons_zero, List.set_cons_succ]
              refine held_one (i := 15) (by kernel_rfl) rfl rfl (fun K hK => ?_)
              refine wp_append_lies _ _ _ 36 (by rfl) W.heap.size 3 ib (.int .i64 0) 1 8 Tryz.underlying36 ibh ib0 ib1 ib2 rfl (by omega) u11 k ((vL k (disS h st)).map (.int .i64 ·)) (by rfl) ru ⟨g_14, 0, none⟩ 1 1 [Value.int .i64 di] (by rfl) rfl (World.news_of_block (cs := #[Value.int .i64 di]) n14) (by simp [Value.oneCell', Reg.cells]) (by omega) hbig1.out hbig3.out (Nat.le_trans hb.size sbX6) X6.heap.size rfl ?_
              intro b15 c15 X7 r15 hgrow hlies15 hlt15
              have hbx : Below W.heap.size X6 X7 := ⟨hgrow.os, hgrow.tape, hgrow.output, hgrow.size, fun b hb2 => hgrow.block b (Nat.lt_of_lt_of_le hb2 (Nat.le_trans hb.size sbX6)) (fun e => by have := hux _ e.symm; omega)⟩
              have sbX7 := Nat.le_trans sbX6 hgrow.size
              replace k14 := k14.grown hgrow (fun e => by have := hux _ e.symm; omega)
              have hlt7b := r3.lt b3 rfl
              have hd15 : b3 ≠ b15 := fun e => by
                rcases hlies15 with h | h
                · exact hd7 (by rw [e]; exact h)
                · omega
              replace r3 := r3.kept hgrow (.inr (fun e => hd7 (by rw [← e]; rfl)))
              replace hb9 := hb9.trans hbx
              clear hbx hgrow
              refine hK _ _ (hSb.out _ hb9 k14) ?_
              clear hK K
              try simp only [Act.put, List.setIfInBounds_toArray, List.set_cons_zero, List.set_cons_succ]
              have hS := hSb.out _ hb9 k14
              refine held_take (i := 16) (v := ?_) 10 rfl rfl (by kernel_rfl) (by kernel_rfl) (by kernel_rfl) (fun _ _ _ h => h) (Or.inl ⟨by rfl, ?_⟩) hS ?_
              rotate_left 1
              · intro w' hSw
                try dsimp only at hSw
                obtain ⟨z0, z1⟩ := hSw
                go_simp
                all_goals with_reducible rfl
              try simp only [Act.put, List.setIfInBounds_toArray, List.set_cons_zero, List.set_cons_succ]
              refine held_take (i := 17) (v := ?_) 11 rfl rfl (by kernel_rfl) (by kernel_rfl) (by kernel_rfl) (fun _ _ _ h => h) (Or.inl ⟨by rfl, ?_⟩) hS ?_
              rotate_left 1
              · intro w' hSw
                try dsimp only at hSw
                obtain ⟨z0, z1⟩ := hSw
                go_simp
                all_goals with_reducible rfl
              try simp only [Act.put, List.setIfInBounds_toArray, List.set_cons_zero, List.set_cons_succ]
              refine wpAnyH_done (by kernel_rfl) (hrest (_, _, _, _) _ ⟨r3, r15, (by intro q h1 h2; simp only [Value.ownBlock, Option.some.injEq] at h1 h2; omega), hb9⟩) _
          · skip
            go_simp
            have n14 := Blk.new Vd 3 #[.int .i64 di]
            have hbel := (Below.refl Vd.heap.size Vd).alloc (Nat.le_refl _) (.cells #[.int .i64 di] 3)
            have szB : Vd.heap.size < (Vd.alloc (.cells #[.int .i64 di] 3)).heap.size := by rw [World.size_alloc]; omega
            generalize Vd.alloc (.cells #[.int .i64 di] 3) = X8 at *
            have szX8 : Vd.heap.size < X8.heap.size := szB
            clear szB
            try replace n2 := n2.below hbel
            try replace n14 := n14.below hbel
            replace k14 := k14.below hbel
            try replace rv := ownsRow_below rv hbel
            try replace ru := ownsRow_below ru hbel
            try replace r3 := ownsRow_below r3 hbel
            replace hb9 := hb9.trans (hbel.mono (Nat.le_trans hb.size sbVd))
            clear hbel
            have sbX8 := Nat.le_trans sbVd (Nat.le_of_lt szX8)
            refine hK _ _ (hSb.out _ hb9 k14) ?_
            clear hK K
            try simp only [Act.put, List.setIfInBounds_toArray, List.set_cons_zero, List.set_cons_succ]
            have hg14 : V.heap.size ≤ Vd.heap.size := sbVd
            generalize hge14 : Vd.heap.size = g_14 at n14 hg14
            refine held_one (i := 2) (by kernel_rfl) rfl rfl (fun K hK => ?_)
            go_simp
            have n2 := Blk.new X8 42 #[.int .i64 N.x.lo, .int .i64 N.x.hi, .int .i64 N.y.lo, .int .i64 N.y.hi, .int .i64 N.s.lo, .int .i64 N.s.hi, .int .i64 N.d.lo, .int .i64 N.d.hi]
            have hbel := (Below.refl X8.heap.size X8).alloc (Nat.le_refl _) (.cells #[.int .i64 N.x.lo, .int .i64 N.x.hi, .int .i64 N.y.lo, .int .i64 N.y.hi, .int .i64 N.s.lo, .int .i64 N.s.hi, .int .i64 N.d.lo, .int .i64 N.d.hi] 42)
            have szB : X8.heap.size < (X8.alloc (.cells #[.int .i64 N.x.lo, .int .i64 N.x.hi, .int .i64 N.y.lo, .int .i64 N.y.hi, .int .i64 N.s.lo, .int .i64 N.s.hi, .int .i64 N.d.lo, .int .i64 N.d.hi] 42)).heap.size := by rw [World.size_alloc]; omega
            generalize X8.alloc (.cells #[.int .i64 N.x.lo, .int .i64 N.x.hi, .int .i64 N.y.lo, .int .i64 N.y.hi, .int .i64 N.s.lo, .int .i64 N.s.hi, .int .i64 N.d.lo, .int .i64 N.d.hi] 42) = X9 at *
            have szX9 : X8.heap.size < X9.heap.size := szB
            clear szB
            try replace n2 := n2.below hbel
            try replace n14 := n14.below hbel
            replace k14 := k14.below hbel
            try replace rv := ownsRow_below rv hbel
            try replace ru := ownsRow_below ru hbel
            try replace r3 := ownsRow_below r3 hbel
            replace hb9 := hb9.trans (hbel.mono (Nat.le_trans hb.size sbX8))
            clear hbel
            have sbX9 := Nat.le_trans sbX8 (Nat.le_of_lt szX9)
            refine hK _ _ (hSb.out _ hb9 k14) ?_
            clear hK K
            try simp only [Act.put, List.setIfInBounds_toArray, List.set_cons_zero, List.set_cons_succ]
            have hg2 : V.heap.size ≤ X8.heap.size := sbX8
            generalize hge2 : X8.heap.size = g_2 at n2 hg2
            refine held_one (i := 3) (by kernel_rfl) rfl rfl (fun K hK => ?_)
            refine wp_append_lies _ _ _ 28 (by rfl) W.heap.size 42 is (.agg #[.int .i64 0, .int .i64 0, .int .i64 0, .int .i64 0, .int .i64 0, .int .i64 0, .int .i64 0, .int .i64 0]) 8 64 Tryz.underlying28 ish is0 is1 is2 rfl (by omega) u10 k ((regL p h st s k).flatMap Reg.cells) (by rfl) rv ⟨g_2, 0, none⟩ 1 1 (Reg.cells N) (by rfl) rfl (World.news_of_block (cs := #[Value.int .i64 N.x.lo, .int .i64 N.x.hi, .int .i64 N.y.lo, .int .i64 N.y.hi, .int .i64 N.s.lo, .int .i64 N.s.hi, .int .i64 N.d.lo, .int .i64 N.d.hi]) n2) (by simp [Value.oneCell', Reg.cells]) (by omega) hbig1.out hbig2.out (Nat.le_trans hb.size sbX9) X9.heap.size rfl ?_
            intro b3 c3 X10 r3 hgrow hlies3 hlt3
            have hbx : Below W.heap.size X9 X10 := ⟨hgrow.os, hgrow.tape, hgrow.output, hgrow.size, fun b hb2 => hgrow.block b (Nat.lt_of_lt_of_le hb2 (Nat.le_trans hb.size sbX9)) (fun e => by have := hvx _ e.symm; omega)⟩
            have sbX10 := Nat.le_trans sbX9 hgrow.size
            replace k14 := k14.grown hgrow (fun e => by have := hvx _ e.symm; omega)
            replace ru := ru.kept hgrow (by
              by_cases h0 : u11.ownBlock = none
              · exact .inl h0
              · obtain ⟨q, hq⟩ := Option.ne_none_iff_exists'.1 h0
                exact .inr (fun e => hvu q (by rw [← e]; exact hq) hq))
            try replace n14 := n14.grown hgrow (fun e => by have := hvx _ e.symm; omega)
            have hd7 : u11.ownBlock ≠ some b3 := fun e => by
              rcases hlies3 with h | h
              · exact hvu _ h e
              · have := hux _ e; omega
            replace hb9 := hb9.trans hbx
            clear hbx hgrow
            refine hK _ _ (hSb.out _ hb9 k14) ?_
            clear hK K
            try simp only [Act.put, List.setIfInBounds_toArray, List.set_cons_zero, List.set_cons_succ]
            refine held_one (i := 15) (by kernel_rfl) rfl rfl (fun K hK => ?_)
            refine wp_append_lies _ _ _ 36 (by rfl) W.heap.size 3 ib (.int .i64 0) 1 8 Tryz.underlying36 ibh ib0 ib1 ib2 rfl (by omega) u11 k ((vL k (disS h st)).map (.int .i64 ·)) (by rfl) ru ⟨g_14, 0, none⟩ 1 1 [Value.int .i64 di] (by rfl) rfl (World.news_of_block (cs := #[Value.int .i64 di]) n14) (by simp [Value.oneCell', Reg.cells]) (by omega) hbig1.out hbig3.out (Nat.le_trans hb.size sbX10) X10.heap.size rfl ?_
            intro b15 c15 X11 r15 hgrow hlies15 hlt15
            have hbx : Below W.heap.size X10 X11 := ⟨hgrow.os, hgrow.tape, hgrow.output, hgrow.size, fun b hb2 => hgrow.block b (Nat.lt_of_lt_of_le hb2 (Nat.le_trans hb.size sbX10)) (fun e => by have := hux _ e.symm; omega)⟩
            have sbX11 := Nat.le_trans sbX10 hgrow.size
            replace k14 := k14.grown hgrow (fun e => by have := hux _ e.symm; omega)
            have hlt7b := r3.lt b3 rfl
            have hd15 : b3 ≠ b15 := fun e => by
              rcases hlies15 with h | h
              · exact hd7 (by rw [e]; exact h)
              · omega
            replace r3 := r3.kept hgrow (.inr (fun e => hd7 (by rw [← e]; rfl)))
            replace hb9 := hb9.trans hbx
            clear hbx hgrow
            refine hK _ _ (hSb.out _ hb9 k14) ?_
            clear hK K
            try simp only [Act.put, List.setIfInBounds_toArray, List.set_cons_zero, List.set_cons_succ]
            have hS := hSb.out _ hb9 k14
            refine held_take (i := 16) (v := ?_) 10 rfl rfl (by kernel_rfl) (by kernel_rfl) (by kernel_rfl) (fun _ _ _ h => h) (Or.inl ⟨by rfl, ?_⟩) hS ?_
            rotate_left 1
            · intro w' hSw
              try dsimp only at hSw
              obtain ⟨z0, z1⟩ := hSw
              go_simp
              all_goals with_reducible rfl
            try simp only [Act.put, List.setIfInBounds_toArray, List.set_cons_zero, List.set_cons_succ]
            refine held_take (i := 17) (v := ?_) 11 rfl rfl (by kernel_rfl) (by kernel_rfl) (by kernel_rfl) (fun _ _ _ h => h) (Or.inl ⟨by rfl, ?_⟩) hS ?_
            rotate_left 1
            · intro w' hSw
              try dsimp only at hSw
              obtain ⟨z0, z1⟩ := hSw
              go_simp
              all_goals with_reducible rfl
            try simp only [Act.put, List.setIfInBounds_toArray, List.set_cons_zero, List.set_cons_succ]
            refine wpAnyH_done (by kernel_rfl) (hrest (_, _, _, _) _ ⟨r3, r15, (by intro q h1 h2; simp only [Value.ownBlock, Option.some.injEq] at h1 h2; omega), hb9⟩) _
    · obtain rfl : k = n := by omega
      obtain ⟨P1, pc, rfl, hRs⟩ := SlAt.of_own (enc := Reg.cells) rv (by omega) (regL p h st s k) rfl (fun _ => rfl) (regL_len _ _ _ _ _)
      obtain ⟨Q1, qc, rfl, hVs⟩ := SlAt.of_own (enc := ivs) ru (by omega) (vL k (disS h st)) (by rw [flatMap_ivs]) (fun _ => rfl) (vL_len _ _)
      clear rv ru hvu
      have k3r := k3.below hb
      replace b := b.trans (hb.mono b.size)
      have h1 := fun W g => Ways_any p h (regL p h st s k) P1 k pc 0 W g
      have h3 := fun W g => Fire_any f (vL k (disS h st)) Q1 k qc 0 W g
      unfold RetSl at h1 h3
      obtain ⟨c4, f4, l4⟩ := k4r.rules
      go_wp2_with fail
      refine (h1 _ (hRs.mono (Nat.zero_le _))).mono ?_
      rintro e W2 ⟨T, n1, ct, rfl, hT, hbel⟩
      clear c4 f4 l4 h1 hRs k4r hb
      replace k3r := k3r.below hbel
      replace b := b.trans (hbel.mono b.size)
      replace hVs := hVs.below hbel
      clear hbel
      by_cases hz : (waysR p h (regL p h st s k)).2 = 0
      · obtain ⟨e1, e2, e3, e4, hsaid⟩ := steady_said hz a1 hst c1 hs3 hn2 hP f
        rw [hz]
        rw [e1] at hT
        replace hsaid := Lib.hid hsaid
        clear hz e1 hP
        generalize bL k (fun j => wayB p h (nearR s (plcS p h st j))) = B at *
        generalize vL k (disS h st) = D at *
        have h2 := fun W g => Times_any f B T n1 ct 0 W g
        unfold RetSl at h2
        cases hf : okFir f with
        | true =>
          rw [e3 hf] at e2 h3
          have e5 : timeR f B = (timeL f B, 0) := by unfold timeR; rw [if_pos e2]
          rw [e5] at h2
          obtain ⟨s1, s2, s3, s4, s5, s6, s7, s8, s9, s10⟩ := okFir_is hf
          have hlT : (timeL f B).length = f.shots.toNat := by simp [timeL]
          have hlS : (shotL f D).length = f.shots.toNat := by simp [shotL]
          clear e2 e3 e4 e5 hf
          obtain ⟨c3, f3, l3⟩ := k3r.rules
          go_wp2_with fail
          refine (h2 _ (hT.mono (Nat.zero_le _))).mono ?_
          rintro e W3 ⟨U, n2, cu, rfl, hU, hbel⟩
          clear c3 f3 l3 h2 hT
          replace k3r := k3r.below hbel
          replace b := b.trans (hbel.mono b.size)
          replace hVs := hVs.below hbel
          clear hbel
          obtain ⟨c3, f3, l3⟩ := k3r.rules
          go_wp2_with fail
          refine (h3 _ (hVs.mono (Nat.zero_le _))).mono ?_
          rintro e W4 ⟨X, n3, cx, rfl, hX, hbel⟩
          clear c3 f3 l3 h3 hVs
          replace b := b.trans (hbel.mono b.size)
          replace hU := hU.below hbel
          clear hbel k3r
          obtain rfl : n2 = n3 := by have := hU.len; have := hX.len; omega
          have hns : Hid (f.shots.toNat = n2) := Lib.hid (by have := hU.len; omega)
          have hn64 : n2 ≤ 64 := by have := hns.out; omega
          clear hlT hlS
          go_wp2_with fail
          go_loopw [21] (fun i wr => ∃ q : Nat, i = .int .i64 (q : Int) ∧ q ≤ n2 ∧ Below W4.heap.size W4 wr) (fun i wr => n2 - (intOf i).toNat)
          case atStart => exact ⟨0, rfl, Nat.zero_le _, Below.refl _ _⟩
          case round =>
            obtain ⟨q, rfl, hq, hb⟩ := hrel
            by_cases hlt : q < n2
            · have hq0 : (0 : Int) ≤ (q : Int) := by omega
              have hq1 : (q : Int) < (n2 : Int) := by omega
              have u9 := IntWalk.i64_in ((q : Int) + 1) (by omega)
              have hqf : q < f.shots.toNat := by have := hns.out; omega
              have hxs : (shotL f D)[q]? = some (shotS f D q) := mapRange_at _ hqf
              have hxt : (timeL f B)[q]? = some (timeS f B q) := mapRange_at _ hqf
              obtain ⟨bs, os, hA, -, -, v0, v1, v2⟩ := (hX.below hb).sht hxs
              obtain ⟨bt, ot, hB, -, -, t0, t1⟩ := (hU.below hb).bnd hxt
              subst hA hB
              obtain ⟨hA1, hA2⟩ := hsaid.out q
              simp only [shotS] at v0 v1 v2
              clear hxs hxt
              have hbe := fun W => Between_any (timeS f B q).lo 0 (tickS f D q) W
              generalize (timeS f B q).lo = lo at *
              generalize (timeS f B q).hi = hi at *
              generalize tickS f D q = ti at *
              by_cases ht : ti < 0
              · have ht1 : ¬ (ti ≥ 0) := by omega
                have ht2 : ¬ (hi ≥ 0) := by have := hA1 ht; omega
                clear hA1 hA2 hbe
                go_wp2_with fail
                go_roundw
                case rel => exact ⟨q + 1, by go_num, by omega, hb⟩
                case measure => simp [intOf]; omega
              · have ht1 : ti ≥ 0 := by omega
                obtain ⟨j1, j2, j3⟩ := hA2 (by omega)
                simp only [show decide (0 ≤ lo ∧ lo ≤ ti) = true from decide_eq_true ⟨j1, j2⟩] at hbe
                clear hA1 hA2
                by_cases hh : 0 ≤ hi
                · have j6 : hi ≥ 0 := hh
                  have j7 : ¬ (ti > hi) := by have := j3 hh; omega
                  clear j3
                  go_wp2_with fail
                  refine (hbe _).mono ?_
                  rintro e w' ⟨rfl, rfl⟩
                  clear hbe
                  go_wp2_with fail
                  go_roundw
                  case rel => exact ⟨q + 1, by go_num, by omega, hb⟩
                  case measure => simp [intOf]; omega
                · have j6 : ¬ (hi ≥ 0) := hh
                  clear j3
                  go_wp2_with fail
                  refine (hbe _).mono ?_
                  rintro e w' ⟨rfl, rfl⟩
                  clear hbe
                  go_wp2_with fail
                  go_roundw
                  case rel => exact ⟨q + 1, by go_num, by omega, hb⟩
                  case measure => simp [intOf]; omega
            · obtain rfl : q = n2 := by omega
              replace b := b.trans (hb.mono b.size)
              go_wp2_with fail
              refine (works_any _).mono ?_
              rintro e W11 ⟨rfl, hb11⟩
              go_wp2_with fail
              go_ret
              exact ⟨rfl, b.trans (hb11.mono b.size)⟩
        | false =>
          rw [e4 hf] at e2 h3
          have e5 : timeR f B = ([], 52) := by unfold timeR; rw [e2, if_neg (by decide)]
          rw [e5] at h2
          clear e2 e3 e4 e5 hf
          obtain ⟨c3, f3, l3⟩ := k3r.rules
          go_wp2_with fail
          refine (h2 _ (hT.mono (Nat.zero_le _))).mono ?_
          rintro e W3 ⟨U, n2, cu, rfl, hU, hbel⟩
          clear c3 f3 l3 h2 hT
          replace k3r := k3r.below hbel
          replace b := b.trans (hbel.mono b.size)
          replace hVs := hVs.below hbel
          clear hbel
          obtain ⟨c3, f3, l3⟩ := k3r.rules
          go_wp2_with fail
          refine (h3 _ (hVs.mono (Nat.zero_le _))).mono ?_
          rintro e W4 ⟨X, n3, cx, rfl, hX, hbel⟩
          clear c3 f3 l3 h3 hVs
          replace b := b.trans (hbel.mono b.size)
          go_wp2_with fail
          refine (works_any _).mono ?_
          rintro e W11 ⟨rfl, hb11⟩
          go_wp2_with fail
          go_ret
          exact ⟨rfl, b.trans (hb11.mono b.size)⟩
      · have hv := waysR_no hz
        rw [hv] at hT
        generalize (waysR p h (regL p h st s k)).2 = er at *
        have her2 : (er != 0) = true := by rw [bne_iff_ne]; exact hz
        clear hv hz
        obtain rfl : n1 = 0 := by have := hT.len; simp at this; omega
        go_wp2_with fail
        refine (works_any _).mono ?_
        rintro e W11 ⟨rfl, hb11⟩
        go_wp2_with fail
        go_ret
        exact ⟨rfl, b.trans (hb11.mono b.size)⟩
end Go.Proofs.YtfengddpfeneiaaGreat
