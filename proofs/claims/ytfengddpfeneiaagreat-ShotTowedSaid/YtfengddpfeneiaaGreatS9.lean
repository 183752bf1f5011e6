/-
  Shots, walks: Fire, evened bounds, Times, Weak, Pace.
-/
import Derived.Test.YtfengddpfeneiaaGreatS10
namespace Go.Proofs.YtfengddpfeneiaaGreat
open Go.RowKit Go.Shelf
set_option linter.unusedSimpArgs false
set_option linter.unusedVariables false

set_option maxRecDepth 100000 in
set_option maxHeartbeats 2000000 in
theorem Fire_any (f : Fir) (l : List Int) (A : Option Addr) (n c B : Nat) (w : World) (hs : SlAt w B 1 ivs A n c l) :
    Calls Tryz.prog 19 #[.agg #[.int .i64 f.start, .int .i64 f.every, .int .i64 f.srcs, .int .i64 f.shots, .int .i64 f.charge], .slice A n c] w (RetSl 3 Sht.cells (fireR f l) w) := by
  have h1 := fun W => sCheckFiring_any f W
  have hl := Lib.hid hs.len
  have hn := hs.le
  obtain ⟨w1, hw1⟩ : ∃ w1, w1 = w.alloc (.cells #[.int .i64 f.start, .int .i64 f.every, .int .i64 f.srcs, .int .i64 f.shots, .int .i64 f.charge] 47) := ⟨_, rfl⟩
  have k3 : Blk w1 w.heap.size 47 #[.int .i64 f.start, .int .i64 f.every, .int .i64 f.srcs, .int .i64 f.shots, .int .i64 f.charge] := by rw [hw1]; exact Blk.new _ _ _
  have b : Below w.heap.size w w1 := by rw [hw1]; exact (Below.refl _ _).alloc (Nat.le_refl _) _
  have hs1 : SlAt w1 B 1 ivs A n c l := by rw [hw1]; exact hs.alloc _
  clear hs
  unfold chkFir at h1
  by_cases hf : okFir f = true
  · rw [if_pos hf] at h1
    by_cases hr : 1 ≤ (n : Int) ∧ (n : Int) ≤ 512
    · have h2 := fun W => sWithin_yes hr W
      have h3 := fun W h => isSorted_any l A n c B W h
      unfold SrtRes at h3
      cases hsr : sorted l with
      | false =>
        have hv : Hid (fireR f l = ([], 53)) := by
          show _ = _
          unfold fireR okWay
          rw [if_pos hf, hsr]; simp
        simp only [hsr] at h3
        replace hr := Lib.hid hr
        go_enter Tryz.func19, Tryz.ntmps19
        go_wp2_with fail
        rw [← hw1]
        clear hw1
        obtain ⟨c3, f3, l3⟩ := k3.rules
        go_wp2_with fail
        refine (h1 _).mono ?_
        rintro e W ⟨rfl, hb⟩
        clear c3 f3 l3 h1
        replace k3 := k3.below hb
        replace b := b.trans (hb.mono b.size)
        replace hs1 := hs1.below hb
        clear hb
        go_wp2_with fail
        refine (h2 _).mono ?_
        rintro e w' ⟨rfl, rfl⟩
        go_wp2_with fail
        refine (h3 _ hs1).mono ?_
        rintro e W3 ⟨rfl, hb⟩
        go_wp2_with fail
        go_ret2
        rw [hv.out]
        exact RetSl.none_ (b.trans (hb.mono b.size))
      | true =>
        simp only [hsr] at h3
        obtain ⟨x, hx⟩ := some_of_lt hl.out (show 0 < n by omega)
        obtain ⟨y, hy⟩ := some_of_lt hl.out (show n - 1 < n by omega)
        have hends := okWay_ends (by rw [hl.out]; omega) (by rw [hl.out]; omega) hsr hx (by rw [hl.out]; exact hy)
        have hv : Hid (fireR f l = if 0 ≤ x ∧ y ≤ 1048576 then (shotL f l, 0) else ([], 53)) := by
          show _ = _
          unfold fireR
          rw [if_pos hf, hends]
          simp only [decide_eq_true_eq]
        have h4 := fun W h => fire_any f (okFir_is hf) l A n c B W h
        have hn1 : 1 ≤ n := by omega
        replace hr := Lib.hid hr
        clear hends
        go_enter Tryz.func19, Tryz.ntmps19
        go_wp2_with fail
        rw [← hw1]
        clear hw1
        obtain ⟨c3, f3, l3⟩ := k3.rules
        go_wp2_with fail
        refine (h1 _).mono ?_
        rintro e W ⟨rfl, hb⟩
        clear c3 f3 l3 h1
        replace k3 := k3.below hb
        replace b := b.trans (hb.mono b.size)
        replace hs1 := hs1.below hb
        clear hb
        go_wp2_with fail
        refine (h2 _).mono ?_
        rintro e w' ⟨rfl, rfl⟩
        go_wp2_with fail
        refine (h3 _ hs1).mono ?_
        rintro e W3 ⟨rfl, hb⟩
        replace k3 := k3.below hb
        replace b := b.trans (hb.mono b.size)
        replace hs1 := hs1.below hb
        clear hb h2 h3
        have hs2 := hs1
        obtain ⟨bb, off, hA, -, hbl, e0⟩ := hs1.int hx
        obtain ⟨bb2, off2, hA2, -, -, e1⟩ := hs1.int hy
        rw [hA] at hA2
        simp only [Option.some.injEq, Addr.mk.injEq, and_true] at hA2
        obtain ⟨rfl, rfl⟩ := hA2
        subst hA
        rw [Nat.add_zero] at e0
        have t1 : IntKind.i64.wrap ((n : Int) - 1) = ((n - 1 : Nat) : Int) := by rw [IntWalk.i64_in _ (by omega)]; omega
        have n0 : (0 : Int) < (n : Int) := by omega
        have n1 : ((n - 1 : Nat) : Int) < (n : Int) := by omega
        have n2 : (0 : Int) ≤ ((n - 1 : Nat) : Int) := by omega
        replace hx := Lib.hid hx
        replace hy := Lib.hid hy
        generalize n - 1 = m at *
        by_cases q1 : x < 0
        · rw [if_neg (by omega)] at hv
          clear h4
          go_wp2_with fail
          go_ret2
          rw [hv.out]
          exact RetSl.none_ b
        · by_cases q2 : y > 1048576
          · rw [if_neg (by omega)] at hv
            clear h4
            go_wp2_with fail
            go_ret2
            rw [hv.out]
            exact RetSl.none_ b
          · rw [if_pos (by omega)] at hv
            obtain ⟨c3, f3, l3⟩ := k3.rules
            go_wp2_with fail
            refine (h4 _ hs2).mono ?_
            rintro e W4 ⟨P, pc, rfl, hP, hb⟩
            go_wp2_with fail
            go_ret2
            rw [hv.out]
            exact ⟨P, _, pc, rfl, hP.mono b.size, b.trans (hb.mono b.size)⟩
    · have h2 := fun W => sWithin_no hr W
      have hv : Hid (fireR f l = ([], 53)) := by
        show _ = _
        unfold fireR okWay
        rw [if_pos hf, decide_eq_false (by rw [hl.out]; omega)]; simp
      replace hr := Lib.hid hr
      go_enter Tryz.func19, Tryz.ntmps19
      go_wp2_with fail
      rw [← hw1]
      clear hw1
      obtain ⟨c3, f3, l3⟩ := k3.rules
      go_wp2_with fail
      refine (h1 _).mono ?_
      rintro e W ⟨rfl, hb⟩
      clear c3 f3 l3 h1
      replace k3 := k3.below hb
      replace b := b.trans (hb.mono b.size)
      replace hs1 := hs1.below hb
      clear hb
      go_wp2_with fail
      refine (h2 _).mono ?_
      rintro e w' ⟨rfl, rfl⟩
      go_wp2_with fail
      go_ret2
      rw [hv.out]
      exact RetSl.none_ b
  · rw [if_neg hf] at h1
    have hv : Hid (fireR f l = ([], 52)) := by show _ = _; unfold fireR; rw [if_neg hf]
    go_enter Tryz.func19, Tryz.ntmps19
    go_wp2_with fail
    rw [← hw1]
    clear hw1
    obtain ⟨c3, f3, l3⟩ := k3.rules
    go_wp2_with fail
    refine (h1 _).mono ?_
    rintro e W ⟨rfl, hb⟩
    clear c3 f3 l3 h1
    replace k3 := k3.below hb
    replace b := b.trans (hb.mono b.size)
    replace hs1 := hs1.below hb
    clear hb
    go_wp2_with fail
    go_ret2
    rw [hv.out]
    exact RetSl.none_ b
set_option maxRecDepth 100000 in
set_option maxHeartbeats 2000000 in
theorem Times_any (f : Fir) (bl : List Bnd) (A : Option Addr) (n c B : Nat) (w : World) (hs : SlAt w B 2 Bnd.cells A n c bl) :
    Calls Tryz.prog 18 #[.agg #[.int .i64 f.start, .int .i64 f.every, .int .i64 f.srcs, .int .i64 f.shots, .int .i64 f.charge], .slice A n c] w (RetSl 2 Bnd.cells (timeR f bl) w) := by
  have h1 := fun W => sCheckFiring_any f W
  have h2 := fun W h => evened_any bl A n c B W h
  unfold RetEv at h2
  have hl := Lib.hid hs.len
  have hn := hs.le
  obtain ⟨w1, hw1⟩ : ∃ w1, w1 = w.alloc (.cells #[.int .i64 f.start, .int .i64 f.every, .int .i64 f.srcs, .int .i64 f.shots, .int .i64 f.charge] 47) := ⟨_, rfl⟩
  have k3 : Blk w1 w.heap.size 47 #[.int .i64 f.start, .int .i64 f.every, .int .i64 f.srcs, .int .i64 f.shots, .int .i64 f.charge] := by rw [hw1]; exact Blk.new _ _ _
  have b : Below w.heap.size w w1 := by rw [hw1]; exact (Below.refl _ _).alloc (Nat.le_refl _) _
  have hs1 : SlAt w1 B 2 Bnd.cells A n c bl := by rw [hw1]; exact hs.alloc _
  clear hs
  unfold chkFir at h1
  by_cases hf : okFir f = true
  · rw [if_pos hf] at h1
    have hv0 : errT f bl = errE bl := by unfold errT errE; rw [if_pos hf]
    by_cases he : errE bl = 0
    · have hv : Hid (timeR f bl = (timeL f bl, 0)) := by show _ = _; unfold timeR; rw [hv0, if_pos he]
      simp only [he] at h2
      have hfo := okFir_is hf
      have hre0 := Lib.hid (fun l far O no co B W (hsx : SlAt W B 1 ivs O no co l) => reached_any l far O no co B W hsx)
      have hdu0 := Lib.hid (fun k (hk : k ≤ 1000) W => due_any f k W hfo hk)
      clear hv0
      go_enter Tryz.func18, Tryz.ntmps18
      go_wp2_with fail
      rw [← hw1]
      clear hw1
      obtain ⟨c3, f3, l3⟩ := k3.rules
      go_wp2_with fail
      refine (h1 _).mono ?_
      rintro e W ⟨rfl, hb⟩
      clear c3 f3 l3 h1
      replace k3 := k3.below hb
      replace b := b.trans (hb.mono b.size)
      replace hs1 := hs1.below hb
      clear hb
      go_wp2_with fail
      refine (h2 _ hs1).mono ?_
      rintro e W ⟨L, nl, cl, H, nh, ch, rfl, hLH, hb⟩
      clear h2 hs1
      obtain ⟨hsL, hsH⟩ := hLH trivial
      clear hLH
      replace k3 := k3.below hb
      have hwb : Hid (w.heap.size ≤ W.heap.size) := by show _ ≤ _; have := b.size; have := hb.size; omega
      replace b := b.trans (hb.mono b.size)
      clear hb
      replace hsL := hsL.mono (Nat.zero_le _)
      replace hsH := hsH.mono (Nat.zero_le _)
      obtain ⟨c3, f3, l3⟩ := k3.rules
      go_wp2_with fail
      clear c3 f3 l3
      obtain ⟨p1, p2, p3, p4, p5, p6, p7, p8, p9, p10⟩ := hfo
      go_loopw [10, 28] (fun v i wr => ∃ k : Nat, i = .int .i64 (k : Int) ∧ k ≤ f.shots.toNat ∧ wr.ownsRow W.heap.size 40 2 v k (((List.range k).map (timeS f bl)).flatMap Bnd.cells) ∧ Below W.heap.size W wr) (fun v i wr => f.shots.toNat - (intOf i).toNat)
      case atStart => exact ⟨0, rfl, Nat.zero_le _, ⟨rfl, .inl ⟨rfl, rfl⟩⟩, Below.refl _ _⟩
      case round =>
        obtain ⟨k, rfl, hk, hown, hb⟩ := hrel
        by_cases hlt : k < f.shots.toNat
        · have hk1 : (k : Int) < f.shots := by omega
          have hk0 : (0 : Int) ≤ (k : Int) := by omega
          have hdu := fun W => hdu0.out k (by omega) W
          have hnx : Hid (timeS f bl k = ⟨reachS (highsL bl) (dueS f k) 0, reachS (lowsL bl) (dueS f k) 0⟩) := rfl
          have hreH := fun W hsx => hre0.out (highsL bl) (dueS f k) H nh ch 0 W hsx
          have hreL := fun W hsx => hre0.out (lowsL bl) (dueS f k) L nl cl 0 W hsx
          generalize dueS f k = due at *
          generalize reachS (highsL bl) due 0 = xa at *
          generalize reachS (lowsL bl) due 0 = xb at *
          have hbig1 : Hid (k + 1 ≤ maxLen) := by show k + 1 ≤ maxLen; unfold maxLen; omega
          have hbig2 : Hid ((k + 1) * 16 ≤ 140737488355328) := by show (k + 1) * 16 ≤ 140737488355328; omega
          obtain ⟨i0, hi0, hz0, hz1, hz2⟩ := info_parts Tryz.infoBnd
          have k30 := k3
          have hsL0 := hsL
          have hsH0 := hsH
          replace k3 := k3.below hb
          replace hsL := hsL.below hb
          replace hsH := hsH.below hb
          have hlk := k30.lt
          go_wp2_with fail
          refine wp_held_np (fun w' : World => (∀ j, w'.cell? ⟨w.heap.size, j, none⟩ = #[Value.int .i64 f.start, .int .i64 f.every, .int .i64 f.srcs, .int .i64 f.shots, .int .i64 f.charge][j]?) ∧ True) (by kernel_rfl) ?_
          replace k3 := k3.drew
          replace hown : wr.drew.ownsRow _ _ _ _ _ _ := hown
          replace hsL := hsL.drew
          replace hsH := hsH.drew
          replace hb := hb.drew
          generalize wr.drew = wd at *
          have hS : (fun w' : World => (∀ j, w'.cell? ⟨w.heap.size, j, none⟩ = #[Value.int .i64 f.start, .int .i64 f.every, .int .i64 f.srcs, .int .i64 f.shots, .int .i64 f.charge][j]?) ∧ True) wd := ⟨k3.cell, trivial⟩
          refine held_take (i := 0) (v := ?_) 31 rfl rfl (by kernel_rfl) (by kernel_rfl) (by kernel_rfl) (fun _ _ _ h => h) (Or.inl ⟨by rfl, ?_⟩) hS ?_
          rotate_left 1
          · intro w' hSw
            try dsimp only at hSw
            obtain ⟨q1, q2⟩ := hSw
            go_simp
            all_goals with_reducible rfl
          try simp only [Act.put, List.setIfInBounds_toArray, List.set_cons_zero, List.set_cons_succ]
          refine held_take (i := 1) (v := ?_) 32 rfl rfl (by kernel_rfl) (by kernel_rfl) (by kernel_rfl) (fun _ _ _ h => h) (Or.inl ⟨by rfl, ?_⟩) hS ?_
          rotate_left 1
          · intro w' hSw
            try dsimp only at hSw
            obtain ⟨q1, q2⟩ := hSw
            go_simp
            all_goals with_reducible rfl
          try simp only [Act.put, List.setIfInBounds_toArray, List.set_cons_zero, List.set_cons_succ]
          refine held_take (i := 2) (v := ?_) 33 rfl rfl (by kernel_rfl) (by kernel_rfl) (by kernel_rfl) (fun _ _ _ h => h) (Or.inl ⟨by rfl, ?_⟩) hS ?_
          rotate_left 1
          · intro w' hSw
            try dsimp only at hSw
            obtain ⟨q1, q2⟩ := hSw
            go_simp
            all_goals with_reducible rfl
          try simp only [Act.put, List.setIfInBounds_toArray, List.set_cons_zero, List.set_cons_succ]
          refine held_take (i := 3) (v := ?_) 34 rfl rfl (by kernel_rfl) (by kernel_rfl) (by kernel_rfl) (fun _ _ _ h => h) (Or.inl ⟨by rfl, ?_⟩) hS ?_
          rotate_left 1
          · intro w' hSw
            try dsimp only at hSw
            obtain ⟨q1, q2⟩ := hSw
            go_simp
            all_goals with_reducible rfl
          try simp only [Act.put, List.setIfInBounds_toArray, List.set_cons_zero, List.set_cons_succ]
          refine held_take (i := 6) (v := ?_) 37 rfl rfl (by kernel_rfl) (by kernel_rfl) (by kernel_rfl) (fun _ _ _ h => h) (Or.inl ⟨by rfl, ?_⟩) hS ?_
          rotate_left 1
          · intro w' hSw
            try dsimp only at hSw
            obtain ⟨q1, q2⟩ := hSw
            go_simp
            all_goals with_reducible rfl
          try simp only [Act.put, List.setIfInBounds_toArray, List.set_cons_zero, List.set_cons_succ]
          refine held_take (i := 7) (v := ?_) 38 rfl rfl (by kernel_rfl) (by kernel_rfl) (by kernel_rfl) (fun _ _ _ h => h) (Or.inl ⟨by rfl, ?_⟩) hS ?_
          rotate_left 1
          · intro w' hSw
            try dsimp only at hSw
            obtain ⟨q1, q2⟩ := hSw
            go_simp
            all_goals with_reducible rfl
          try simp only [Act.put, List.setIfInBounds_toArray, List.set_cons_zero, List.set_cons_succ]
          refine held_take (i := 8) (v := ?_) 39 rfl rfl (by kernel_rfl) (by kernel_rfl) (by kernel_rfl) (fun _ _ _ h => h) (Or.inl ⟨by rfl, ?_⟩) hS ?_
          rotate_left 1
          · intro w' hSw
            try dsimp only at hSw
            obtain ⟨q1, q2⟩ := hSw
            go_simp
            all_goals with_reducible rfl
          try simp only [Act.put, List.setIfInBounds_toArray, List.set_cons_zero, List.set_cons_succ]
          clear hS
          refine held_one (i := 4) (by kernel_rfl) rfl rfl (fun K hK => ?_)
          go_simp
          refine (hdu _).mono ?_
          rintro e wa ⟨rfl, hbel⟩
          replace k3 := k3.below hbel
          replace hown := ownsRow_below hown hbel
          replace hsL := hsL.below hbel
          replace hsH := hsH.below hbel
          replace hb := hb.trans (hbel.mono hb.size)
          clear hbel
          refine hK _ _ ⟨k3.cell, trivial⟩ ?_
          clear hK K
          try simp only [Act.put, List.setIfInBounds_toArray, List.set_cons_zero, List.set_cons_succ]
          refine held_one (i := 5) (by kernel_rfl) rfl rfl (fun K hK => ?_)
          go_simp
          refine (hreH _ hsH).mono ?_
          rintro e wb ⟨rfl, hbel⟩
          replace k3 := k3.below hbel
          replace hown := ownsRow_below hown hbel
          replace hsL := hsL.below hbel
          replace hsH := hsH.below hbel
          replace hb := hb.trans (hbel.mono hb.size)
          clear hbel
          refine hK _ _ ⟨k3.cell, trivial⟩ ?_
          clear hK K
          try simp only [Act.put, List.setIfInBounds_toArray, List.set_cons_zero, List.set_cons_succ]
          refine held_one (i := 9) (by kernel_rfl) rfl rfl (fun K hK => ?_)
          go_simp
          refine (hdu _).mono ?_
          rintro e wc ⟨rfl, hbel⟩
          replace k3 := k3.below hbel
          replace hown := ownsRow_below hown hbel
          replace hsL := hsL.below hbel
          replace hsH := hsH.below hbel
          replace hb := hb.trans (hbel.mono hb.size)
          clear hbel
          refine hK _ _ ⟨k3.cell, trivial⟩ ?_
          clear hK K
          try simp only [Act.put, List.setIfInBounds_toArray, List.set_cons_zero, List.set_cons_succ]
          refine held_one (i := 10) (by kernel_rfl) rfl rfl (fun K hK => ?_)
          go_simp
          refine (hreL _ hsL).mono ?_
          rintro e we ⟨rfl, hbel⟩
          replace k3 := k3.below hbel
          replace hown := ownsRow_below hown hbel
          replace hsL := hsL.below hbel
          replace hsH := hsH.below hbel
          replace hb := hb.trans (hbel.mono hb.size)
          clear hbel
          refine hK _ _ ⟨k3.cell, trivial⟩ ?_
          clear hK K
          try simp only [Act.put, List.setIfInBounds_toArray, List.set_cons_zero, List.set_cons_succ]
          have hS : (fun w' : World => (∀ j, w'.cell? ⟨w.heap.size, j, none⟩ = #[Value.int .i64 f.start, .int .i64 f.every, .int .i64 f.srcs, .int .i64 f.shots, .int .i64 f.charge][j]?) ∧ True) we := ⟨k3.cell, trivial⟩
          refine held_take (i := 11) (v := ?_) 42 rfl rfl (by kernel_rfl) (by kernel_rfl) (by kernel_rfl) (fun _ _ _ h => h) (Or.inl ⟨by rfl, ?_⟩) hS ?_
          rotate_left 1
          · intro w' hSw
            try dsimp only at hSw
            obtain ⟨q1, q2⟩ := hSw
            go_simp
            all_goals with_reducible rfl
          try simp only [Act.put, List.setIfInBounds_toArray, List.set_cons_zero, List.set_cons_succ]
          clear hS
          have hnews : ∀ (j : Nat) (u : Value), ([.int .i64 xa, .int .i64 xb] : List Value)[j]? = some u → (we.alloc (.cells #[.int .i64 xa, .int .i64 xb] 40)).cell? ((⟨we.heap.size, 0, none⟩ : Addr).add j) = some u :=
            World.news_of_block (cs := #[.int .i64 xa, .int .i64 xb]) (World.alloc_heap_new we _)
          have hownf := hown.alloc (.cells #[.int .i64 xa, .int .i64 xb] 40)
          have hbf := hb.alloc hb.size (.cells #[.int .i64 xa, .int .i64 xb] 40)
          have k3f := k3.alloc (.cells #[.int .i64 xa, .int .i64 xb] 40)
          refine held_one (i := 12) (by kernel_rfl) rfl rfl (fun K hK => ?_)
          go_simp
          refine hK _ _ ⟨k3f.cell, trivial⟩ ?_
          clear hK K
          try simp only [Act.put, List.setIfInBounds_toArray, List.set_cons_zero, List.set_cons_succ]
          refine held_one (i := 13) (by kernel_rfl) rfl rfl (fun K hK => ?_)
          refine wp_append_lies _ _ _ 29 (by rfl) W.heap.size 40 i0 (.agg #[.int .i64 0, .int .i64 0]) 2 16 Tryz.underlying29 hi0 hz0 hz1 hz2 rfl (by omega) u10 k (((List.range k).map (timeS f bl)).flatMap Bnd.cells) (by rfl) hownf ⟨we.heap.size, 0, none⟩ 1 1 [.int .i64 xa, .int .i64 xb] (by rfl) rfl hnews (by simp [Value.oneCell']) (by omega) hbig1.out hbig2.out (hbf.size) (we.heap.size + 1) (by simp) ?_
          intro g cap w7 hown7 hgrow hlies hlt7
          have hbg : Below W.heap.size _ w7 := ⟨hgrow.os, hgrow.tape, hgrow.output, hgrow.size, fun b hb2 => hgrow.block b (Nat.lt_of_lt_of_le hb2 hbf.size) (fun e => by have := (hownf.lt _ e.symm).1; omega)⟩
          have hbh := hbf.trans hbg
          have k3h := k30.below hbh
          refine hK _ _ ⟨k3h.cell, trivial⟩ ?_
          clear hK K
          try simp only [Act.put, List.setIfInBounds_toArray, List.set_cons_zero, List.set_cons_succ]
          have hS : (fun w' : World => (∀ j, w'.cell? ⟨w.heap.size, j, none⟩ = #[Value.int .i64 f.start, .int .i64 f.every, .int .i64 f.srcs, .int .i64 f.shots, .int .i64 f.charge][j]?) ∧ True) w7 := ⟨k3h.cell, trivial⟩
          refine held_take (i := 14) (v := ?_) 10 rfl rfl (by kernel_rfl) (by kernel_rfl) (by kernel_rfl) (fun _ _ _ h => h) (Or.inl ⟨by rfl, ?_⟩) hS ?_
          rotate_left 1
          · intro w' hSw
            try dsimp only at hSw
            obtain ⟨q1, q2⟩ := hSw
            go_simp
            all_goals with_reducible rfl
          try simp only [Act.put, List.setIfInBounds_toArray, List.set_cons_zero, List.set_cons_succ]
          refine wpAnyH_done (by kernel_rfl) (noPanic_normal ?_) _
          clear hS
          try simp only [Act.put, List.setIfInBounds_toArray, List.set_cons_zero, List.set_cons_succ]
          go_wp2_with fail
          go_roundw
          case rel =>
            refine ⟨k + 1, by go_num, by omega, ?_, hbh⟩
            rw [mapRange_succ, List.flatMap_append, hnx.out]
            exact hown7
          case measure => simp [intOf]; omega
        · obtain rfl : k = f.shots.toNat := by omega
          have hx : ¬ ((f.shots.toNat : Nat) : Int) < f.shots := by omega
          obtain ⟨O, co, rfl, h1⟩ := SlAt.of_own (enc := Bnd.cells) hown (by omega) (timeL f bl) rfl (fun _ => rfl) (by simp [timeL])
          clear hown
          go_wp2_with fail
          go_ret2
          rw [hv.out]
          exact ⟨O, _, co, rfl, h1.mono hwb.out, b.trans (hb.mono b.size)⟩
    · have hv : Hid (timeR f bl = ([], errE bl)) := by show _ = _; unfold timeR; rw [hv0, if_neg he]
      generalize errE bl = er at *
      have hz : (er != 0) = true := by rw [bne_iff_ne]; exact he
      replace he := Lib.hid he
      clear hv0
      go_enter Tryz.func18, Tryz.ntmps18
      go_wp2_with fail
      rw [← hw1]
      clear hw1
      obtain ⟨c3, f3, l3⟩ := k3.rules
      go_wp2_with fail
      refine (h1 _).mono ?_
      rintro e W ⟨rfl, hb⟩
      clear c3 f3 l3 h1
      replace k3 := k3.below hb
      replace b := b.trans (hb.mono b.size)
      replace hs1 := hs1.below hb
      clear hb
      go_wp2_with fail
      refine (h2 _ hs1).mono ?_
      rintro e W ⟨L, nl, cl, H, nh, ch, rfl, -, hb⟩
      clear h2
      go_wp2_with fail
      go_ret2
      rw [hv.out]
      exact RetSl.none_ (b.trans (hb.mono b.size))
  · rw [if_neg hf] at h1
    have hv : Hid (timeR f bl = ([], 52)) := by show _ = _; unfold timeR errT; simp only [if_neg hf]; first | rfl | done
    go_enter Tryz.func18, Tryz.ntmps18
    go_wp2_with fail
    rw [← hw1]
    clear hw1
    obtain ⟨c3, f3, l3⟩ := k3.rules
    go_wp2_with fail
    refine (h1 _).mono ?_
    rintro e W ⟨rfl, hb⟩
    clear c3 f3 l3 h1
    replace k3 := k3.below hb
    replace b := b.trans (hb.mono b.size)
    replace hs1 := hs1.below hb
    clear hb
    go_wp2_with fail
    go_ret2
    rw [hv.out]
    exact RetSl.none_ b
end Go.Proofs.YtfengddpfeneiaaGreat
