/-
  The law ShotNarrower.
-/
import Derived.Test.YtfengddpfeneiaaS28
import Derived.Test.YtfengddpfeneiaaS31
namespace Go.Proofs.Ytfengddpfeneiaa
open Go.RowKit Go.Shelf
set_option linter.unusedSimpArgs false
set_option linter.unusedVariables false

set_option maxRecDepth 100000 in
set_option maxHeartbeats 8000000 in
theorem ShotNarrower_any (f : Fir) (A O : Option Addr) (n c no co : Nat) (bl : List Bnd) (bits : List Int) (w : World) (hs : SlAt w 0 2 Bnd.cells A n c bl) (ho : SlAt w 0 1 ivs O no co bits) :
    Calls Try.prog 12 #[.agg #[.int .i64 f.start, .int .i64 f.every, .int .i64 f.srcs, .int .i64 f.shots, .int .i64 f.charge], .slice A n c, .slice O no co] w fun e w' => e = .returned (.bool true) ∧ Below w.heap.size w w' := by
  have h1 := fun W h => Times_any f bl A n c 0 W h
  have h2 := fun W h => Weak_any f bl A n c 0 W h
  unfold RetWk at h2
  unfold RetSl at h1
  obtain ⟨w1, hw1⟩ : ∃ w1, w1 = w.alloc (.cells #[.int .i64 f.start, .int .i64 f.every, .int .i64 f.srcs, .int .i64 f.shots, .int .i64 f.charge] 38) := ⟨_, rfl⟩
  have k3 : Blk w1 w.heap.size 38 #[.int .i64 f.start, .int .i64 f.every, .int .i64 f.srcs, .int .i64 f.shots, .int .i64 f.charge] := by rw [hw1]; exact Blk.new _ _ _
  have b : Below w.heap.size w w1 := by rw [hw1]; exact (Below.refl _ _).alloc (Nat.le_refl _) _
  have hs1 : SlAt w1 0 2 Bnd.cells A n c bl := by rw [hw1]; exact hs.alloc _
  have ho1 : SlAt w1 0 1 ivs O no co bits := by rw [hw1]; exact ho.alloc _
  have hl := Lib.hid hs.len
  clear hs ho
  by_cases he : errT f bl = 0
  · have hv1 : timeR f bl = (timeL f bl, 0) := by unfold timeR; rw [if_pos he]
    have hv2 : weakR f bl = (sureL f bl, mayL f bl, 0) := by unfold weakR; rw [if_pos he]
    simp only [hv1] at h1
    simp only [hv2] at h2
    obtain ⟨hf, hd, hev⟩ := errT_ok he
    have hfo := okFir_is hf
    have h3 := fun W h h' => truth_any bl hd hev bits A O n c no co 0 0 W h h'
    have hnr := (okDists_is hd).1
    rw [hl.out] at hnr
    have hlq : errT f (lessL bl bits) = 0 := errT_mk hf (less_dists bits hd hev) (less_even bits hd hev)
    have h5 := fun P pc W h => Times_any f (lessL bl bits) P n pc 0 W h
    have h6 := fun P pc W h => Weak_any f (lessL bl bits) P n pc 0 W h
    have hv5 : timeR f (lessL bl bits) = (timeL f (lessL bl bits), 0) := by unfold timeR; rw [if_pos hlq]
    have hv6 : weakR f (lessL bl bits) = (sureL f (lessL bl bits), mayL f (lessL bl bits), 0) := by unfold weakR; rw [if_pos hlq]
    unfold RetSl at h5
    unfold RetWk at h6
    simp only [hv5] at h5
    simp only [hv6] at h6
    have hsaid := Lib.hid (fun k => less_said hfo (b := bl) bits hd hev k)
    have hll := Lib.hid (show (lessL bl bits).length = n by rw [lessL_len, hl.out])
    have hat := Lib.hid (fun (k : Nat) (x : Bnd) (h : bl[k]? = some x) => show (lessL bl bits)[k]? = some ⟨trA bl bits (k + 1), x.hi⟩ by rw [lessL_at bl bits (List.getElem?_eq_some_iff.1 h).1, List.getD_eq_getElem?_getD, h]; rfl)
    have htat := Lib.hid (fun (k : Nat) (h : k < bl.length) => truthL_at bl bits h)
    have hLT : (timeL f (lessL bl bits)).length = f.shots.toNat := by simp [timeL]
    have hLP := sureL_len f (lessL bl bits)
    have hLQ := mayL_len f (lessL bl bits)
    replace hLT := Lib.hid hLT
    replace hLP := Lib.hid hLP
    replace hLQ := Lib.hid hLQ
    have hlT : (timeL f bl).length = f.shots.toNat := by simp [timeL]
    have hlP := sureL_len f bl
    have hlQ := mayL_len f bl
    replace hlT := Lib.hid hlT
    replace hlP := Lib.hid hlP
    replace hlQ := Lib.hid hlQ
    clear hv1 hv2 hv5 hv6 he hlq
    obtain ⟨p1, p2, p3, p4, p5, p6, p7, p8, p9, p10⟩ := hfo
    replace hd := Lib.hid hd
    replace hev := Lib.hid hev
    replace hf := Lib.hid hf
    go_enter Try.func12, Try.ntmps12
    go_wp2_with fail
    rw [← hw1]
    clear hw1
    obtain ⟨c3, f3, l3⟩ := k3.rules
    go_wp2_with fail
    refine (h1 _ hs1).mono ?_
    rintro e W ⟨T, n1, ct, rfl, hT, hb⟩
    clear c3 f3 l3 h1
    replace hT := hT.mono (Nat.zero_le _)
    replace k3 := k3.below hb
    replace b := b.trans (hb.mono b.size)
    replace hs1 := hs1.below hb
    replace ho1 := ho1.below hb
    clear hb
    obtain ⟨c3, f3, l3⟩ := k3.rules
    go_wp2_with fail
    refine (h2 _ hs1).mono ?_
    rintro e W2 ⟨P, n2, cp, Q, n3, cq, rfl, hP, hQ, hb⟩
    clear c3 f3 l3 h2
    replace hP := hP.mono (Nat.zero_le _)
    replace hQ := hQ.mono (Nat.zero_le _)
    replace hT := hT.below hb
    replace k3 := k3.below hb
    replace b := b.trans (hb.mono b.size)
    replace hs1 := hs1.below hb
    replace ho1 := ho1.below hb
    clear hb
    obtain ⟨c3, f3, l3⟩ := k3.rules
    go_wp2_with fail
    refine (h3 _ hs1 ho1).mono ?_
    rintro e W3 ⟨U, cu, rfl, hU, hb⟩
    clear c3 f3 l3 h3
    replace hU := hU.mono (Nat.zero_le _)
    replace hT := hT.below hb
    replace hP := hP.below hb
    replace hQ := hQ.below hb
    replace k3 := k3.below hb
    replace b := b.trans (hb.mono b.size)
    replace hs1 := hs1.below hb
    replace ho1 := ho1.below hb
    clear hb
    obtain ⟨i0, hi0, hz0, hz1, hz2⟩ := info_parts Try.infoBnd
    go_wp2_with fail
    go_loopw [13, 14] (fun v i wr => ∃ k : Nat, i = .int .i64 (k : Int) ∧ k ≤ n ∧ wr.ownsRow W3.heap.size 62 2 v k (((lessL bl bits).take k).flatMap Bnd.cells) ∧ Below W3.heap.size W3 wr) (fun v i wr => n - (intOf i).toNat)
    case atStart => exact ⟨0, rfl, Nat.zero_le _, ⟨rfl, .inl ⟨rfl, rfl⟩⟩, Below.refl _ _⟩
    case round =>
      obtain ⟨k, rfl, hk, hown, hb⟩ := hrel
      by_cases hlt : k < n
      · have hk0 : (0 : Int) ≤ (k : Int) := by omega
        have hk1 : (k : Int) < (n : Int) := by omega
        obtain ⟨x, hx⟩ := some_of_lt hl.out hlt
        have hxu := htat.out k (by rw [hl.out]; exact hlt)
        have hxl := hat.out k x hx
        obtain ⟨bq, oq, hA, -, gy1, y0, y1⟩ := hs1.bnd hx
        obtain ⟨bu, ou, hA2, -, gy2, x0⟩ := hU.int hxu
        replace y1 := (hb.cell gy1).trans y1
        replace x0 := (hb.cell gy2).trans x0
        have gz1 := Lib.hid gy1
        have gz2 := Lib.hid gy2
        have g1 := Nat.lt_of_lt_of_le gy1 hb.size
        have g2 := Nat.lt_of_lt_of_le gy2 hb.size
        clear gy1 gy2
        have htk : Hid (((lessL bl bits).take (k + 1)).flatMap Bnd.cells = ((lessL bl bits).take k).flatMap Bnd.cells ++ [.int .i64 (trA bl bits (k + 1)), .int .i64 x.hi]) := by show _ = _; rw [List.take_add_one, hxl]; simp [Bnd.cells]
        subst hA hA2
        clear hx hxu hxl y0
        generalize trA bl bits (k + 1) = xa at *
        generalize x.hi = xb at *
        have hbig1 : Hid (k + 1 ≤ maxLen) := by show k + 1 ≤ maxLen; unfold maxLen; omega
        have hbig2 : Hid ((k + 1) * 16 ≤ 140737488355328) := by show (k + 1) * 16 ≤ 140737488355328; omega
        go_wp2_with fail
        refine wp_held_np (fun w' : World => w'.cell? ⟨bq, oq + k * 2 + 1, none⟩ = some (.int .i64 xb) ∧ w'.cell? ⟨bu, ou + k, none⟩ = some (.int .i64 xa)) (by kernel_rfl) ?_
        replace hown : wr.drew.ownsRow _ _ _ _ _ _ := hown
        replace hb := hb.drew
        have hSx : (fun w' : World => w'.cell? ⟨bq, oq + k * 2 + 1, none⟩ = some (.int .i64 xb) ∧ w'.cell? ⟨bu, ou + k, none⟩ = some (.int .i64 xa)) wr.drew := ⟨y1, x0⟩
        replace g1 : bq < wr.drew.heap.size := g1
        replace g2 : bu < wr.drew.heap.size := g2
        replace x0 := hSx.2
        replace y1 := hSx.1
        generalize wr.drew = we at *
        refine held_take (i := 0) (v := ?_) 53 rfl rfl (by kernel_rfl) (by kernel_rfl) (by kernel_rfl) (fun _ _ _ h => h) (Or.inl ⟨by rfl, ?_⟩) hSx ?_
        rotate_left 1
        · intro w' hSw
          try dsimp only at hSw
          obtain ⟨q1, q2⟩ := hSw
          go_simp
          all_goals with_reducible rfl
        try simp only [Act.put, List.setIfInBounds_toArray, List.set_cons_zero, List.set_cons_succ]
        refine held_take (i := 1) (v := ?_) 54 rfl rfl (by kernel_rfl) (by kernel_rfl) (by kernel_rfl) (fun _ _ _ h => h) (Or.inl ⟨by rfl, ?_⟩) hSx ?_
        rotate_left 1
        · intro w' hSw
          try dsimp only at hSw
          obtain ⟨q1, q2⟩ := hSw
          go_simp
          all_goals with_reducible rfl
        try simp only [Act.put, List.setIfInBounds_toArray, List.set_cons_zero, List.set_cons_succ]
        refine held_take (i := 2) (v := ?_) 55 rfl rfl (by kernel_rfl) (by kernel_rfl) (by kernel_rfl) (fun _ _ _ h => h) (Or.inl ⟨by rfl, ?_⟩) hSx ?_
        rotate_left 1
        · intro w' hSw
          try dsimp only at hSw
          obtain ⟨q1, q2⟩ := hSw
          go_simp
          all_goals with_reducible rfl
        try simp only [Act.put, List.setIfInBounds_toArray, List.set_cons_zero, List.set_cons_succ]
        refine held_take (i := 3) (v := ?_) 56 rfl rfl (by kernel_rfl) (by kernel_rfl) (by kernel_rfl) (fun _ _ _ h => h) (Or.inl ⟨by rfl, ?_⟩) hSx ?_
        rotate_left 1
        · intro w' hSw
          try dsimp only at hSw
          obtain ⟨q1, q2⟩ := hSw
          go_simp
          all_goals with_reducible rfl
        try simp only [Act.put, List.setIfInBounds_toArray, List.set_cons_zero, List.set_cons_succ]
        refine held_take (i := 4) (v := ?_) 57 rfl rfl (by kernel_rfl) (by kernel_rfl) (by kernel_rfl) (fun _ _ _ h => h) (Or.inl ⟨by rfl, ?_⟩) hSx ?_
        rotate_left 1
        · intro w' hSw
          try dsimp only at hSw
          obtain ⟨q1, q2⟩ := hSw
          go_simp
          all_goals with_reducible rfl
        try simp only [Act.put, List.setIfInBounds_toArray, List.set_cons_zero, List.set_cons_succ]
        refine held_take (i := 5) (v := ?_) 58 rfl rfl (by kernel_rfl) (by kernel_rfl) (by kernel_rfl) (fun _ _ _ h => h) (Or.inl ⟨by rfl, ?_⟩) hSx ?_
        rotate_left 1
        · intro w' hSw
          try dsimp only at hSw
          obtain ⟨q1, q2⟩ := hSw
          go_simp
          all_goals with_reducible rfl
        try simp only [Act.put, List.setIfInBounds_toArray, List.set_cons_zero, List.set_cons_succ]
        refine held_take (i := 6) (v := ?_) 59 rfl rfl (by kernel_rfl) (by kernel_rfl) (by kernel_rfl) (fun _ _ _ h => h) (Or.inl ⟨by rfl, ?_⟩) hSx ?_
        rotate_left 1
        · intro w' hSw
          try dsimp only at hSw
          obtain ⟨q1, q2⟩ := hSw
          go_simp
          all_goals with_reducible rfl
        try simp only [Act.put, List.setIfInBounds_toArray, List.set_cons_zero, List.set_cons_succ]
        refine held_take (i := 7) (v := ?_) 60 rfl rfl (by kernel_rfl) (by kernel_rfl) (by kernel_rfl) (fun _ _ _ h => h) (Or.inl ⟨by rfl, ?_⟩) hSx ?_
        rotate_left 1
        · intro w' hSw
          try dsimp only at hSw
          obtain ⟨q1, q2⟩ := hSw
          go_simp
          all_goals with_reducible rfl
        try simp only [Act.put, List.setIfInBounds_toArray, List.set_cons_zero, List.set_cons_succ]
        refine held_take (i := 8) (v := ?_) 61 rfl rfl (by kernel_rfl) (by kernel_rfl) (by kernel_rfl) (fun _ _ _ h => h) (Or.inl ⟨by rfl, ?_⟩) hSx ?_
        rotate_left 1
        · intro w' hSw
          try dsimp only at hSw
          obtain ⟨q1, q2⟩ := hSw
          go_simp
          all_goals with_reducible rfl
        try simp only [Act.put, List.setIfInBounds_toArray, List.set_cons_zero, List.set_cons_succ]
        refine held_take (i := 9) (v := ?_) 62 rfl rfl (by kernel_rfl) (by kernel_rfl) (by kernel_rfl) (fun _ _ _ h => h) (Or.inl ⟨by rfl, ?_⟩) hSx ?_
        rotate_left 1
        · intro w' hSw
          try dsimp only at hSw
          obtain ⟨q1, q2⟩ := hSw
          go_simp
          all_goals with_reducible rfl
        try simp only [Act.put, List.setIfInBounds_toArray, List.set_cons_zero, List.set_cons_succ]
        refine held_take (i := 10) (v := ?_) 63 rfl rfl (by kernel_rfl) (by kernel_rfl) (by kernel_rfl) (fun _ _ _ h => h) (Or.inl ⟨by rfl, ?_⟩) hSx ?_
        rotate_left 1
        · intro w' hSw
          try dsimp only at hSw
          obtain ⟨q1, q2⟩ := hSw
          go_simp
          all_goals with_reducible rfl
        try simp only [Act.put, List.setIfInBounds_toArray, List.set_cons_zero, List.set_cons_succ]
        clear hSx
        have hnews : ∀ (j : Nat) (u : Value), ([.int .i64 xa, .int .i64 xb] : List Value)[j]? = some u → (we.alloc (.cells #[.int .i64 xa, .int .i64 xb] 62)).cell? ((⟨we.heap.size, 0, none⟩ : Addr).add j) = some u :=
          World.news_of_block (cs := #[.int .i64 xa, .int .i64 xb]) (World.alloc_heap_new we _)
        have hownf := hown.alloc (.cells #[.int .i64 xa, .int .i64 xb] 62)
        have hbf := hb.alloc hb.size (.cells #[.int .i64 xa, .int .i64 xb] 62)
        have hba := (Below.refl we.heap.size we).alloc (Nat.le_refl _) (.cells #[.int .i64 xa, .int .i64 xb] 62)
        refine held_one (i := 11) (by kernel_rfl) rfl rfl (fun K hK => ?_)
        go_simp
        refine hK _ _ ⟨(hba.cell g1).trans y1, (hba.cell g2).trans x0⟩ ?_
        clear hK K
        try simp only [Act.put, List.setIfInBounds_toArray, List.set_cons_zero, List.set_cons_succ]
        refine held_one (i := 12) (by kernel_rfl) rfl rfl (fun K hK => ?_)
        refine wp_append_lies _ _ _ 47 (by rfl) W3.heap.size 62 i0 (.agg #[.int .i64 0, .int .i64 0]) 2 16 Try.underlying47 hi0 hz0 hz1 hz2 rfl (by omega) u13 k (((lessL bl bits).take k).flatMap Bnd.cells) (by rfl) hownf ⟨we.heap.size, 0, none⟩ 1 1 [.int .i64 xa, .int .i64 xb] (by rfl) rfl hnews (by simp [Value.oneCell']) (by omega) hbig1.out hbig2.out (hbf.size) (we.heap.size + 1) (by simp) ?_
        intro g cap w7 hown7 hgrow hlies hlt7
        have hbg : Below W3.heap.size _ w7 := ⟨hgrow.os, hgrow.tape, hgrow.output, hgrow.size, fun b hb2 => hgrow.block b (Nat.lt_of_lt_of_le hb2 hbf.size) (fun e => by have := (hownf.lt _ e.symm).1; omega)⟩
        have hbh := hbf.trans hbg
        have hSx : (fun w' : World => w'.cell? ⟨bq, oq + k * 2 + 1, none⟩ = some (.int .i64 xb) ∧ w'.cell? ⟨bu, ou + k, none⟩ = some (.int .i64 xa)) w7 := ⟨(hbg.cell gz1.out).trans ((hba.cell g1).trans y1), (hbg.cell gz2.out).trans ((hba.cell g2).trans x0)⟩
        refine hK _ _ hSx ?_
        clear hK K
        try simp only [Act.put, List.setIfInBounds_toArray, List.set_cons_zero, List.set_cons_succ]
        refine held_take (i := 13) (v := ?_) 13 rfl rfl (by kernel_rfl) (by kernel_rfl) (by kernel_rfl) (fun _ _ _ h => h) (Or.inl ⟨by rfl, ?_⟩) hSx ?_
        rotate_left 1
        · intro w' hSw
          try dsimp only at hSw
          obtain ⟨q1, q2⟩ := hSw
          go_simp
          all_goals with_reducible rfl
        try simp only [Act.put, List.setIfInBounds_toArray, List.set_cons_zero, List.set_cons_succ]
        refine wpAnyH_done (by kernel_rfl) (noPanic_normal ?_) _
        clear hSx
        try simp only [Act.put, List.setIfInBounds_toArray, List.set_cons_zero, List.set_cons_succ]
        go_wp2_with fail
        go_roundw
        case rel => exact ⟨k + 1, by go_num, by omega, by rw [htk.out]; exact hown7, hbh⟩
        case measure => simp [intOf]; omega
      · obtain rfl : k = n := by omega
        rw [List.take_of_length_le (by rw [hll.out]; exact Nat.le_refl _)] at hown
        obtain ⟨X, xc, rfl, hX⟩ := SlAt.of_own (enc := Bnd.cells) hown (by omega) (lessL bl bits) rfl (fun _ => rfl) hll.out
        replace hX := hX.mono (Nat.zero_le _)
        replace hT := hT.below hb
        replace hP := hP.below hb
        replace hQ := hQ.below hb
        replace k3 := k3.below hb
        replace b := b.trans (hb.mono b.size)
        replace hs1 := hs1.below hb
        replace ho1 := ho1.below hb
        clear hb hown hs1 ho1 hU hat htat hll
        obtain ⟨c3, f3, l3⟩ := k3.rules
        go_wp2_with fail
        refine (h5 _ _ _ hX).mono ?_
        rintro e W4 ⟨T2, m1, ct2, rfl, hT2, hb⟩
        replace hT2 := hT2.mono (Nat.zero_le _)
        replace hX := hX.below hb
        replace hT := hT.below hb
        replace hP := hP.below hb
        replace hQ := hQ.below hb
        replace k3 := k3.below hb
        replace b := b.trans (hb.mono b.size)
        clear hb c3 f3 l3 h5
        obtain ⟨c3, f3, l3⟩ := k3.rules
        go_wp2_with fail
        refine (h6 _ _ _ hX).mono ?_
        rintro e W5 ⟨P2, m2, cp2, Q2, m3, cq2, rfl, hP2, hQ2, hb⟩
        replace hP2 := hP2.mono (Nat.zero_le _)
        replace hQ2 := hQ2.mono (Nat.zero_le _)
        replace hT2 := hT2.below hb
        replace hT := hT.below hb
        replace hP := hP.below hb
        replace hQ := hQ.below hb
        replace b := b.trans (hb.mono b.size)
        clear hb c3 f3 l3 h6 hX k3
        have e1 := hT.len
        have e2 := hP.len
        have e3 := hQ.len
        have e4 := hT2.len
        have e5 := hP2.len
        have e6 := hQ2.len
        rw [hlT.out] at e1
        rw [hlP.out] at e2
        rw [hlQ.out] at e3
        rw [hLT.out] at e4
        rw [hLP.out] at e5
        rw [hLQ.out] at e6
        obtain rfl : n1 = n2 := e1.symm.trans e2
        obtain rfl : n1 = n3 := e1.symm.trans e3
        obtain rfl : n1 = m1 := e1.symm.trans e4
        obtain rfl : n1 = m2 := e1.symm.trans e5
        obtain rfl : n1 = m3 := e1.symm.trans e6
        replace e1 := Lib.hid e1
        clear e2 e3 e4 e5 e6 hlT hlP hlQ hLT hLP hLQ hk hlt
        have hnb := hT.le
        go_wp2_with fail
        go_loopw [18] (fun i wr => ∃ k : Nat, i = .int .i64 (k : Int) ∧ k ≤ n1 ∧ Below W5.heap.size W5 wr) (fun i wr => n1 - (intOf i).toNat)
        case atStart => exact ⟨0, rfl, Nat.zero_le _, Below.refl _ _⟩
        case round =>
          obtain ⟨k, rfl, hk, hbr⟩ := hrel
          by_cases hlt : k < n1
          · have hk0 : (0 : Int) ≤ (k : Int) := by omega
            have hk1 : (k : Int) < (n1 : Int) := by omega
            have hkf : k < f.shots.toNat := by have := e1.out; omega
            have hxt : (timeL f bl)[k]? = some (timeS f bl k) := mapRange_at _ hkf
            have hxp : (sureL f bl)[k]? = some (sureS f bl k) := mapRange_at _ hkf
            have hxq : (mayL f bl)[k]? = some (mayS f bl k) := mapRange_at _ hkf
            have hyt : (timeL f (lessL bl bits))[k]? = some (timeS f (lessL bl bits) k) := mapRange_at _ hkf
            have hyp : (sureL f (lessL bl bits))[k]? = some (sureS f (lessL bl bits) k) := mapRange_at _ hkf
            have hyq : (mayL f (lessL bl bits))[k]? = some (mayS f (lessL bl bits) k) := mapRange_at _ hkf
            obtain ⟨bt, ot, hB, -, -, t0, t1⟩ := (hT.below hbr).bnd hxt
            obtain ⟨bp, op_, hC, -, -, x0⟩ := (hP.below hbr).boo hxp
            obtain ⟨bq, oq, hD, -, -, y0⟩ := (hQ.below hbr).boo hxq
            obtain ⟨bt2, ot2, hB2, -, -, s0, s1⟩ := (hT2.below hbr).bnd hyt
            obtain ⟨bp2, op2, hC2, -, -, v0⟩ := (hP2.below hbr).boo hyp
            obtain ⟨bq2, oq2, hD2, -, -, z0⟩ := (hQ2.below hbr).boo hyq
            subst hB hC hD hB2 hC2 hD2
            obtain ⟨hA1, hA2, hA3, hA4⟩ := hsaid.out k
            rw [hA1] at s0
            clear hxt hxp hxq hyt hyp hyq hT hP hQ hT2 hP2 hQ2 hA1
            replace hsaid := Lib.hid hsaid
            generalize sureS f bl k = su at *
            generalize mayS f bl k = ma at *
            generalize sureS f (lessL bl bits) k = su2 at *
            generalize mayS f (lessL bl bits) k = ma2 at *
            generalize (timeS f bl k).lo = lo at *
            generalize (timeS f bl k).hi = hi at *
            generalize (timeS f (lessL bl bits) k).hi = hi2 at *
            by_cases hh : 0 ≤ hi
            · obtain ⟨hA5, hA6⟩ := hA2 hh
              have j1 : (hi ≥ 0) = True := eq_true hh
              have j2 : (hi2 < 0) = False := eq_false (by omega)
              have j3 : (hi2 > hi) = False := eq_false (by omega)
              clear hA2 hA5 hA6 hh
              cases su with
              | true =>
                obtain rfl : su2 = true := hA3 rfl
                cases ma2 with
                | true =>
                  obtain rfl : ma = true := hA4 rfl
                  clear hA3 hA4
                  go_wp2_with fail
                  refine wp_region_quiet_lit (by kernel_rfl) (by kernel_rfl) ?_
                  simp only [List.append_eq, List.cons_append, List.nil_append]
                  (iterate 66 (go_big_quiet_step (fail)))
                  apply quiet_end
                  rintro _ ⟨nq, rfl⟩
                  go_wp2_with fail
                  go_roundw
                  case rel => exact ⟨k + 1, by go_num, by omega, below_drewN hbr _⟩
                  case measure => simp [intOf]; omega
                | false =>
                  clear hA3 hA4
                  go_wp2_with fail
                  refine wp_region_quiet_lit (by kernel_rfl) (by kernel_rfl) ?_
                  simp only [List.append_eq, List.cons_append, List.nil_append]
                  (iterate 66 (go_big_quiet_step (fail)))
                  apply quiet_end
                  rintro _ ⟨nq, rfl⟩
                  go_wp2_with fail
                  go_roundw
                  case rel => exact ⟨k + 1, by go_num, by omega, below_drewN hbr _⟩
                  case measure => simp [intOf]; omega
              | false =>
                cases ma2 with
                | true =>
                  obtain rfl : ma = true := hA4 rfl
                  clear hA3 hA4
                  go_wp2_with fail
                  refine wp_region_quiet_lit (by kernel_rfl) (by kernel_rfl) ?_
                  simp only [List.append_eq, List.cons_append, List.nil_append]
                  (iterate 66 (go_big_quiet_step (fail)))
                  apply quiet_end
                  rintro _ ⟨nq, rfl⟩
                  go_wp2_with fail
                  go_roundw
                  case rel => exact ⟨k + 1, by go_num, by omega, below_drewN hbr _⟩
                  case measure => simp [intOf]; omega
                | false =>
                  clear hA3 hA4
                  go_wp2_with fail
                  refine wp_region_quiet_lit (by kernel_rfl) (by kernel_rfl) ?_
                  simp only [List.append_eq, List.cons_append, List.nil_append]
                  (iterate 66 (go_big_quiet_step (fail)))
                  apply quiet_end
                  rintro _ ⟨nq, rfl⟩
                  go_wp2_with fail
                  go_roundw
                  case rel => exact ⟨k + 1, by go_num, by omega, below_drewN hbr _⟩
                  case measure => simp [intOf]; omega
            · have j1 : (hi ≥ 0) = False := eq_false hh
              clear hA2 hh
              cases su with
              | true =>
                obtain rfl : su2 = true := hA3 rfl
                cases ma2 with
                | true =>
                  obtain rfl : ma = true := hA4 rfl
                  clear hA3 hA4
                  go_wp2_with fail
                  refine wp_region_quiet_lit (by kernel_rfl) (by kernel_rfl) ?_
                  simp only [List.append_eq, List.cons_append, List.nil_append]
                  (iterate 66 (go_big_quiet_step (fail)))
                  apply quiet_end
                  rintro _ ⟨nq, rfl⟩
                  go_wp2_with fail
                  go_roundw
                  case rel => exact ⟨k + 1, by go_num, by omega, below_drewN hbr _⟩
                  case measure => simp [intOf]; omega
                | false =>
                  clear hA3 hA4
                  go_wp2_with fail
                  refine wp_region_quiet_lit (by kernel_rfl) (by kernel_rfl) ?_
                  simp only [List.append_eq, List.cons_append, List.nil_append]
                  (iterate 66 (go_big_quiet_step (fail)))
                  apply quiet_end
                  rintro _ ⟨nq, rfl⟩
                  go_wp2_with fail
                  go_roundw
                  case rel => exact ⟨k + 1, by go_num, by omega, below_drewN hbr _⟩
                  case measure => simp [intOf]; omega
              | false =>
                cases ma2 with
                | true =>
                  obtain rfl : ma = true := hA4 rfl
                  clear hA3 hA4
                  go_wp2_with fail
                  refine wp_region_quiet_lit (by kernel_rfl) (by kernel_rfl) ?_
                  simp only [List.append_eq, List.cons_append, List.nil_append]
                  (iterate 66 (go_big_quiet_step (fail)))
                  apply quiet_end
                  rintro _ ⟨nq, rfl⟩
                  go_wp2_with fail
                  go_roundw
                  case rel => exact ⟨k + 1, by go_num, by omega, below_drewN hbr _⟩
                  case measure => simp [intOf]; omega
                | false =>
                  clear hA3 hA4
                  go_wp2_with fail
                  refine wp_region_quiet_lit (by kernel_rfl) (by kernel_rfl) ?_
                  simp only [List.append_eq, List.cons_append, List.nil_append]
                  (iterate 66 (go_big_quiet_step (fail)))
                  apply quiet_end
                  rintro _ ⟨nq, rfl⟩
                  go_wp2_with fail
                  go_roundw
                  case rel => exact ⟨k + 1, by go_num, by omega, below_drewN hbr _⟩
                  case measure => simp [intOf]; omega
          · obtain rfl : k = n1 := by omega
            replace b := b.trans (hbr.mono b.size)
            go_wp2_with fail
            refine (works_any _).mono ?_
            rintro e W4 ⟨rfl, hb⟩
            go_wp2_with fail
            go_ret
            exact ⟨rfl, b.trans (hb.mono b.size)⟩
  · have hv1 : timeR f bl = ([], errT f bl) := by unfold timeR; rw [if_neg he]
    have hv2 : weakR f bl = ([], [], errT f bl) := by unfold weakR; rw [if_neg he]
    simp only [hv1] at h1
    simp only [hv2] at h2
    generalize errT f bl = er at *
    have hz : (er != 0) = true := by rw [bne_iff_ne]; exact he
    replace he := Lib.hid he
    clear hv1 hv2
    go_enter Try.func12, Try.ntmps12
    go_wp2_with fail
    rw [← hw1]
    clear hw1
    obtain ⟨c3, f3, l3⟩ := k3.rules
    go_wp2_with fail
    refine (h1 _ hs1).mono ?_
    rintro e W ⟨T, n1, ct, rfl, hT, hb⟩
    clear c3 f3 l3 h1
    obtain rfl : n1 = 0 := hT.len.symm
    clear hT
    replace k3 := k3.below hb
    replace b := b.trans (hb.mono b.size)
    replace hs1 := hs1.below hb
    replace ho1 := ho1.below hb
    clear hb
    obtain ⟨c3, f3, l3⟩ := k3.rules
    go_wp2_with fail
    refine (h2 _ hs1).mono ?_
    rintro e W2 ⟨P, n2, cp, Q, n3, cq, rfl, -, -, hb⟩
    clear c3 f3 l3 h2
    replace k3 := k3.below hb
    replace b := b.trans (hb.mono b.size)
    replace hs1 := hs1.below hb
    replace ho1 := ho1.below hb
    clear hb
    go_wp2_with fail
    refine (works_any _).mono ?_
    rintro e W4 ⟨rfl, hb⟩
    go_wp2_with fail
    go_ret
    exact ⟨rfl, b.trans (hb.mono b.size)⟩
end Go.Proofs.Ytfengddpfeneiaa
