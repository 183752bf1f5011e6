/-
  Shots, walks of the specification: Signature, Misfit.
-/
import Derived.Test.YtfengddpfeneiaaS42
namespace Go.Proofs.Ytfengddpfeneiaa
open Go.RowKit Go.Shelf
set_option linter.unusedSimpArgs false
set_option linter.unusedVariables false

set_option maxRecDepth 100000 in
set_option maxHeartbeats 4000000 in
theorem Rmisfit_any (a : Arr) (ha : okArr a = true) (ds loss : List Int) (hds : isDel ds) (S G D L : Option Addr) (ns cs ng cg cd nl cl : Nat) (w : World)
    (hS : SlAt w 0 1 ivs S ns cs a.sh) (hG : SlAt w 0 4 Gun.cells G ng cg a.gs) (hD : SlAt w 0 1 ivs D ng cd ds) (hL : SlAt w 0 1 ivs L nl cl loss) :
    Calls Try.prog 117 #[.agg #[.slice S ns cs, .slice G ng cg], .slice D ng cd, .slice L nl cl] w fun e w' => e = .returned (.int .i64 (misS a ds loss)) ∧ Below w.heap.size w w' := by
  have hsl := hS.len
  have hgl := hG.len
  have har := okArr_len ha
  unfold arrLen at har
  rw [hsl, hgl] at har
  have hng8 : ng ≤ 1000000 := by omega
  have hs1 := fun W h1 h2 h3 h4 => Rsignature_any a ha ds loss hds S G D L ns cs ng cg cd nl cl 0 0 0 0 W h1 h2 h3 h4
  have hs2 := fun W gm h1 h2 h3 => Rsignature_any a ha (onL a) [] (onL_isDel a) S G (some ⟨gm, 0, none⟩) none ns cs ng cg ng 0 0 0 0 0 0 W h1 h2 h3 (SlAt.nil _ _ _ _)
  have hon : Hid (onL a = List.replicate ng 0) := by show _ = _; unfold onL; rw [hgl]
  have hbm := Lib.hid (fun k => misTo_bd (B := 8000000) (fun t => sigL_bd ha ds loss t) (fun t => sigL_bd ha (onL a) [] t) k)
  have hxb := Lib.hid (fun k => sigL_bd ha ds loss k)
  have hyb := Lib.hid (fun k => sigL_bd ha (onL a) [] k)
  have hval : Hid (misTo (sigL a ds loss) (sigL a (onL a) []) (ns + 48) = misS a ds loss) := by show _ = _; unfold misS misL; rw [hsl]
  obtain ⟨i0, hi0, hz0, hz1, hz2⟩ := info_parts Try.infoInt
  have hc1 := Lib.hid (show i0.bytes * ng ≤ 281474976710656 by rw [hz2]; omega)
  have hc2 := Lib.hid (show ng ≤ maxLen by unfold maxLen; omega)
  obtain ⟨w1, hw1⟩ : ∃ w1, w1 = w.alloc (.cells #[.slice S ns cs, .slice G ng cg] 25) := ⟨_, rfl⟩
  have k3 : Blk w1 w.heap.size 25 #[.slice S ns cs, .slice G ng cg] := by rw [hw1]; exact Blk.new _ _ _
  have b : Below w.heap.size w w1 := by rw [hw1]; exact (Below.refl _ _).alloc (Nat.le_refl _) _
  have hS1 : SlAt w1 0 1 ivs S ns cs a.sh := by rw [hw1]; exact hS.alloc _
  have hG1 : SlAt w1 0 4 Gun.cells G ng cg a.gs := by rw [hw1]; exact hG.alloc _
  have hD1 : SlAt w1 0 1 ivs D ng cd ds := by rw [hw1]; exact hD.alloc _
  have hL1 : SlAt w1 0 1 ivs L nl cl loss := by rw [hw1]; exact hL.alloc _
  obtain ⟨r1, r2, r3, r4⟩ := har
  clear hS hG hD hL hsl hgl
  go_enter Try.func117, Try.ntmps117
  go_wp2_with fail
  rw [← hw1]
  clear hw1
  refine wp_held_np (fun w' : World => (∀ j, w'.cell? ⟨w.heap.size, j, none⟩ = #[Value.slice S ns cs, .slice G ng cg][j]?) ∧ True) (by kernel_rfl) ?_
  have hb9 : Below w1.heap.size w1 w1.drew := (Below.refl _ _).drew
  have hSx : (fun w' : World => (∀ j, w'.cell? ⟨w.heap.size, j, none⟩ = #[Value.slice S ns cs, .slice G ng cg][j]?) ∧ True) w1.drew := ⟨(k3.below hb9).cell, trivial⟩
  generalize w1.drew = wd at *
  refine held_take (i := 0) (v := ?_) 11 rfl rfl (by kernel_rfl) (by kernel_rfl) (by kernel_rfl) (fun _ _ _ h => h) (Or.inl ⟨by rfl, ?_⟩) hSx ?_
  rotate_left 1
  · intro w' hSw
    try dsimp only at hSw
    obtain ⟨q1, q2⟩ := hSw
    go_simp
    all_goals with_reducible rfl
  try simp only [Act.put, List.setIfInBounds_toArray, List.set_cons_zero, List.set_cons_succ]
  refine held_take (i := 1) (v := ?_) 12 rfl rfl (by kernel_rfl) (by kernel_rfl) (by kernel_rfl) (fun _ _ _ h => h) (Or.inl ⟨by rfl, ?_⟩) hSx ?_
  rotate_left 1
  · intro w' hSw
    try dsimp only at hSw
    obtain ⟨q1, q2⟩ := hSw
    go_simp
    all_goals with_reducible rfl
  try simp only [Act.put, List.setIfInBounds_toArray, List.set_cons_zero, List.set_cons_succ]
  refine held_take (i := 2) (v := ?_) 13 rfl rfl (by kernel_rfl) (by kernel_rfl) (by kernel_rfl) (fun _ _ _ h => h) (Or.inl ⟨by rfl, ?_⟩) hSx ?_
  rotate_left 1
  · intro w' hSw
    try dsimp only at hSw
    obtain ⟨q1, q2⟩ := hSw
    go_simp
    all_goals with_reducible rfl
  try simp only [Act.put, List.setIfInBounds_toArray, List.set_cons_zero, List.set_cons_succ]
  refine held_take (i := 4) (v := ?_) 15 rfl rfl (by kernel_rfl) (by kernel_rfl) (by kernel_rfl) (fun _ _ _ h => h) (Or.inl ⟨by rfl, ?_⟩) hSx ?_
  rotate_left 1
  · intro w' hSw
    try dsimp only at hSw
    obtain ⟨q1, q2⟩ := hSw
    go_simp
    all_goals with_reducible rfl
  try simp only [Act.put, List.setIfInBounds_toArray, List.set_cons_zero, List.set_cons_succ]
  refine held_take (i := 5) (v := ?_) 16 rfl rfl (by kernel_rfl) (by kernel_rfl) (by kernel_rfl) (fun _ _ _ h => h) (Or.inl ⟨by rfl, ?_⟩) hSx ?_
  rotate_left 1
  · intro w' hSw
    try dsimp only at hSw
    obtain ⟨q1, q2⟩ := hSw
    go_simp
    all_goals with_reducible rfl
  try simp only [Act.put, List.setIfInBounds_toArray, List.set_cons_zero, List.set_cons_succ]
  refine held_take (i := 6) (v := ?_) 17 rfl rfl (by kernel_rfl) (by kernel_rfl) (by kernel_rfl) (fun _ _ _ h => h) (Or.inl ⟨by rfl, ?_⟩) hSx ?_
  rotate_left 1
  · intro w' hSw
    try dsimp only at hSw
    obtain ⟨q1, q2⟩ := hSw
    go_simp
    all_goals with_reducible rfl
  try simp only [Act.put, List.setIfInBounds_toArray, List.set_cons_zero, List.set_cons_succ]
  refine held_take (i := 7) (v := ?_) 18 rfl rfl (by kernel_rfl) (by kernel_rfl) (by kernel_rfl) (fun _ _ _ h => h) (Or.inl ⟨by rfl, ?_⟩) hSx ?_
  rotate_left 1
  · intro w' hSw
    try dsimp only at hSw
    obtain ⟨q1, q2⟩ := hSw
    go_simp
    all_goals with_reducible rfl
  try simp only [Act.put, List.setIfInBounds_toArray, List.set_cons_zero, List.set_cons_succ]
  refine wpAnyH_fin (f := fun a (q : Option Addr × Nat × Nat × Option Addr × Nat) => ((((a.put (some 14) (.slice q.1 (ns + 48) q.2.1)).put (some 19) (.slice (some ⟨q.2.2.1, 0, none⟩) ng ng)).put (some 20) (.slice q.2.2.2.1 (ns + 48) q.2.2.2.2)).put (some 7) (.slice q.1 (ns + 48) q.2.1)).put (some 8) (.slice q.2.2.2.1 (ns + 48) q.2.2.2.2)) (B := fun q W' => SlAt W' 0 1 ivs q.1 (ns + 48) q.2.1 (sigL a ds loss) ∧ SlAt W' 0 1 ivs q.2.2.2.1 (ns + 48) q.2.2.2.2 (sigL a (onL a) []) ∧ Below w1.heap.size w1 W') ?_ (fun hrest => ?_)
  · rintro ⟨X, cx, gm, Y, cy⟩ W ⟨hX, hY, hb⟩
    try simp only [Act.put, List.setIfInBounds_toArray, List.set_cons_zero, List.set_cons_succ]
    refine noPanic_normal ?_
    dsimp only at hX hY
    clear hSx hb9 hs1 hs2 hS1 hG1 hD1 hL1 k3
    replace b := b.trans (hb.mono b.size)
    clear hb
    have hxl := Lib.hid hX.len
    have hyl := Lib.hid hY.len
    generalize sigL a ds loss = x at *
    generalize sigL a (onL a) [] = y at *
    go_wp2_with fail
    go_loopw [9, 10] (fun v i wr => ∃ k : Nat, i = .int .i64 (k : Int) ∧ k ≤ ns + 48 ∧ v = .int .i64 (misTo x y k) ∧ Below W.heap.size W wr) (fun v i wr => ns + 48 - (intOf i).toNat)
    case atStart => exact ⟨0, rfl, Nat.zero_le _, rfl, Below.refl _ _⟩
    case round =>
      obtain ⟨k, rfl, hk, rfl, hb9⟩ := hrel
      by_cases hlt : k < ns + 48
      · have hyk := get_getD (l := y) (i := k) 0 (by rw [hyl.out]; exact hlt)
        have hxk := get_getD (l := x) (i := k) 0 (by rw [hxl.out]; exact hlt)
        obtain ⟨bP, oP, hA, -, hbP, y0⟩ := (hY.below hb9).int hyk
        obtain ⟨bM, oM, hA2, -, hbM, x0⟩ := (hX.below hb9).int hxk
        have hms : Hid (misTo x y (k + 1) = misTo x y k + magI (x.getD k 0 - y.getD k 0)) := rfl
        have b1 := hxb.out k
        have b2 := hyb.out k
        have b3 := hbm.out k
        have hmg := magI_bd (n := x.getD k 0 - y.getD k 0) (B := 16000000) (by omega) (by omega)
        have hM := fun W => flip_w (Mag_any (x.getD k 0 - y.getD k 0) W (by omega) (by omega))
        rw [show magS (x.getD k 0 - y.getD k 0) = magI (x.getD k 0 - y.getD k 0) from rfl] at hM
        generalize x.getD k 0 = p at *
        generalize y.getD k 0 = q at *
        generalize misTo x y k = m at *
        subst hA hA2
        clear hyk hxk
        have u1 := IntWalk.i64_in (p - q) (by omega)
        have hk0 : (0 : Int) ≤ (k : Int) := by omega
        have hk1 : (k : Int) < (ns : Int) + 48 := by omega
        have u3 := IntWalk.i64_in (m + magI (p - q)) (by omega)
        have hw64 : Hid (wrap64 (m + magI (p - q)) = m + magI (p - q)) := by show _ = _; unfold wrap64; omega
        generalize hg : magI (p - q) = g at *
        clear hg hmg
        go_wp2_with fail
        go_quiet ((go_at_call 58; with_reducible exact Calls.quiet_of_same (hM _)))
        go_wp2_with fail
        go_roundw
        case rel => exact ⟨k + 1, by go_num, by omega, by first | (rw [hms.out]; done) | (rw [hms.out, hw64.out]), below_drewN hb9 _⟩
        case measure => simp [intOf]; omega
      · obtain rfl : k = ns + 48 := by omega
        go_wp2_with fail
        go_ret
        exact ⟨ret_int hval.out, b.trans (hb9.mono b.size)⟩
  · try simp only [Act.put, List.setIfInBounds_toArray, List.set_cons_zero, List.set_cons_succ] at hrest
    refine held_two (i := 3) (j := 8) (by kernel_rfl) rfl rfl rfl rfl (fun K hK => ?_) (fun K hK => ?_)
    · skip
      go_simp
      refine (hs1 wd (hS1.below hb9) (hG1.below hb9) (hD1.below hb9) (hL1.below hb9)).mono ?_
      rintro e X1 ⟨X, cx, rfl, hX, hbel⟩
      replace hX := hX.mono (Nat.zero_le _)
      replace hb9 := hb9.trans (hbel.mono hb9.size)
      try replace hM := hM.below hbel
      clear hSx
      have hSx : (fun w' : World => (∀ j, w'.cell? ⟨w.heap.size, j, none⟩ = #[Value.slice S ns cs, .slice G ng cg][j]?) ∧ True) X1 := ⟨(k3.below hb9).cell, trivial⟩
      refine hK _ _ hSx ?_
      clear hK K hbel
      try simp only [Act.put, List.setIfInBounds_toArray, List.set_cons_zero, List.set_cons_succ]
      refine held_one (i := 8) (by kernel_rfl) rfl rfl (fun K hK => ?_)
      refine wp_make_fullQ X1 _ _ 22 rfl X1.heap.size 3 i0 (.int .i64 0) 1 Try.underlying22 hi0 hz0 hz1 _ _ _ _ ng rfl rfl rfl rfl hc1.out hc2.out (Nat.le_refl _) ?_
      intro X2 r8 hgrow
      obtain ⟨O8, co8, e8, hM⟩ := ownsOf r8 hng8
      simp only [Value.slice.injEq, true_and] at e8
      obtain ⟨rfl, rfl⟩ := e8
      rw [← hon.out] at hM
      replace hM := hM.mono (Nat.zero_le _)
      have hbel := (Below.refl X1.heap.size X1).grown hgrow (Nat.le_refl _) (fun k e => by cases e)
      try replace hX := hX.below hbel
      replace hb9 := hb9.trans (hbel.mono hb9.size)
      clear hSx
      have hSx : (fun w' : World => (∀ j, w'.cell? ⟨w.heap.size, j, none⟩ = #[Value.slice S ns cs, .slice G ng cg][j]?) ∧ True) X2 := ⟨(k3.below hb9).cell, trivial⟩
      refine hK _ _ hSx ?_
      clear hK K hbel hgrow r8
      try simp only [Act.put, List.setIfInBounds_toArray, List.set_cons_zero, List.set_cons_succ]
      generalize X1.heap.size = gm at *
      refine held_one (i := 9) (by kernel_rfl) rfl rfl (fun K hK => ?_)
      go_simp
      refine (hs2 X2 gm (hS1.below hb9) (hG1.below hb9) hM).mono ?_
      rintro e X3 ⟨Y, cy, rfl, hY, hbel⟩
      replace hY := hY.mono (Nat.zero_le _)
      replace hX := hX.below hbel
      replace hb9 := hb9.trans (hbel.mono hb9.size)
      clear hSx
      have hSx : (fun w' : World => (∀ j, w'.cell? ⟨w.heap.size, j, none⟩ = #[Value.slice S ns cs, .slice G ng cg][j]?) ∧ True) X3 := ⟨(k3.below hb9).cell, trivial⟩
      refine hK _ _ hSx ?_
      clear hK K hbel
      try simp only [Act.put, List.setIfInBounds_toArray, List.set_cons_zero, List.set_cons_succ]
      refine held_take (i := 10) (v := ?_) 7 rfl rfl (by kernel_rfl) (by kernel_rfl) (by kernel_rfl) (fun _ _ _ h => h) (Or.inl ⟨by rfl, ?_⟩) hSx ?_
      rotate_left 1
      · intro w' hSw
        try dsimp only at hSw
        obtain ⟨q1, q2⟩ := hSw
        go_simp
        all_goals with_reducible rfl
      try simp only [Act.put, List.setIfInBounds_toArray, List.set_cons_zero, List.set_cons_succ]
      refine held_take (i := 11) (v := ?_) 8 rfl rfl (by kernel_rfl) (by kernel_rfl) (by kernel_rfl) (fun _ _ _ h => h) (Or.inl ⟨by rfl, ?_⟩) hSx ?_
      rotate_left 1
      · intro w' hSw
        try dsimp only at hSw
        obtain ⟨q1, q2⟩ := hSw
        go_simp
        all_goals with_reducible rfl
      try simp only [Act.put, List.setIfInBounds_toArray, List.set_cons_zero, List.set_cons_succ]
      refine wpAnyH_done (by kernel_rfl) (hrest (X, cx, gm, Y, cy) _ ⟨hX, hY, hb9⟩) _
    · skip
      refine wp_make_fullQ wd _ _ 22 rfl wd.heap.size 3 i0 (.int .i64 0) 1 Try.underlying22 hi0 hz0 hz1 _ _ _ _ ng rfl rfl rfl rfl hc1.out hc2.out (Nat.le_refl _) ?_
      intro X4 r8 hgrow
      obtain ⟨O8, co8, e8, hM⟩ := ownsOf r8 hng8
      simp only [Value.slice.injEq, true_and] at e8
      obtain ⟨rfl, rfl⟩ := e8
      rw [← hon.out] at hM
      replace hM := hM.mono (Nat.zero_le _)
      have hbel := (Below.refl wd.heap.size wd).grown hgrow (Nat.le_refl _) (fun k e => by cases e)
      try replace hX := hX.below hbel
      replace hb9 := hb9.trans (hbel.mono hb9.size)
      clear hSx
      have hSx : (fun w' : World => (∀ j, w'.cell? ⟨w.heap.size, j, none⟩ = #[Value.slice S ns cs, .slice G ng cg][j]?) ∧ True) X4 := ⟨(k3.below hb9).cell, trivial⟩
      refine hK _ _ hSx ?_
      clear hK K hbel hgrow r8
      try simp only [Act.put, List.setIfInBounds_toArray, List.set_cons_zero, List.set_cons_succ]
      generalize wd.heap.size = gm at *
      refine held_one (i := 3) (by kernel_rfl) rfl rfl (fun K hK => ?_)
      go_simp
      refine (hs1 X4 (hS1.below hb9) (hG1.below hb9) (hD1.below hb9) (hL1.below hb9)).mono ?_
      rintro e X5 ⟨X, cx, rfl, hX, hbel⟩
      replace hX := hX.mono (Nat.zero_le _)
      replace hb9 := hb9.trans (hbel.mono hb9.size)
      try replace hM := hM.below hbel
      clear hSx
      have hSx : (fun w' : World => (∀ j, w'.cell? ⟨w.heap.size, j, none⟩ = #[Value.slice S ns cs, .slice G ng cg][j]?) ∧ True) X5 := ⟨(k3.below hb9).cell, trivial⟩
      refine hK _ _ hSx ?_
      clear hK K hbel
      try simp only [Act.put, List.setIfInBounds_toArray, List.set_cons_zero, List.set_cons_succ]
      refine held_one (i := 9) (by kernel_rfl) rfl rfl (fun K hK => ?_)
      go_simp
      refine (hs2 X5 gm (hS1.below hb9) (hG1.below hb9) hM).mono ?_
      rintro e X6 ⟨Y, cy, rfl, hY, hbel⟩
      replace hY := hY.mono (Nat.zero_le _)
      replace hX := hX.below hbel
      replace hb9 := hb9.trans (hbel.mono hb9.size)
      clear hSx
      have hSx : (fun w' : World => (∀ j, w'.cell? ⟨w.heap.size, j, none⟩ = #[Value.slice S ns cs, .slice G ng cg][j]?) ∧ True) X6 := ⟨(k3.below hb9).cell, trivial⟩
      refine hK _ _ hSx ?_
      clear hK K hbel
      try simp only [Act.put, List.setIfInBounds_toArray, List.set_cons_zero, List.set_cons_succ]
      refine held_take (i := 10) (v := ?_) 7 rfl rfl (by kernel_rfl) (by kernel_rfl) (by kernel_rfl) (fun _ _ _ h => h) (Or.inl ⟨by rfl, ?_⟩) hSx ?_
      rotate_left 1
      · intro w' hSw
        try dsimp only at hSw
        obtain ⟨q1, q2⟩ := hSw
        go_simp
        all_goals with_reducible rfl
      try simp only [Act.put, List.setIfInBounds_toArray, List.set_cons_zero, List.set_cons_succ]
      refine held_take (i := 11) (v := ?_) 8 rfl rfl (by kernel_rfl) (by kernel_rfl) (by kernel_rfl) (fun _ _ _ h => h) (Or.inl ⟨by rfl, ?_⟩) hSx ?_
      rotate_left 1
      · intro w' hSw
        try dsimp only at hSw
        obtain ⟨q1, q2⟩ := hSw
        go_simp
        all_goals with_reducible rfl
      try simp only [Act.put, List.setIfInBounds_toArray, List.set_cons_zero, List.set_cons_succ]
      refine wpAnyH_done (by kernel_rfl) (hrest (X, cx, gm, Y, cy) _ ⟨hX, hY, hb9⟩) _
def RetSignature (a : Arr) (ds : List Int) (w : World) : Ending → World → Prop := RetSl 1 ivs (sigR a ds) w
def RetMisfit (a : Arr) (ds : List Int) (w : World) (e : Ending) (w' : World) : Prop := e = .returned (.tuple #[.int .i64 (misR a ds).1, .int .i64 (misR a ds).2]) ∧ Below w.heap.size w w'
theorem retSignature_err {a : Arr} {ds : List Int} {er : Int} {w w' : World} (h : errA a ds = er) (hz : er ≠ 0) (hb : Below w.heap.size w w') : RetSignature a ds w (.returned (.tuple #[.slice none 0 0, .int .i64 er])) w' := by
  unfold RetSignature sigR
  rw [h, if_neg hz]
  exact RetSl.none_ hb
theorem retMisfit_err {a : Arr} {ds : List Int} {er : Int} {w w' : World} (h : errA a ds = er) (hz : er ≠ 0) (hb : Below w.heap.size w w') : RetMisfit a ds w (.returned (.tuple #[.int .i64 0, .int .i64 er])) w' := by
  unfold RetMisfit misR
  rw [h, if_neg hz]
  exact ⟨rfl, hb⟩
set_option maxRecDepth 100000 in
set_option maxHeartbeats 2000000 in
theorem RSignature_any (a : Arr) (S G D : Option Addr) (ns cs ng cg nd cd : Nat) (ds : List Int) (w : World) (hS : SlAt w 0 1 ivs S ns cs a.sh) (hG : SlAt w 0 4 Gun.cells G ng cg a.gs) (hD : SlAt w 0 1 ivs D nd cd ds) :
    Calls Try.prog 63 #[.agg #[.slice S ns cs, .slice G ng cg], .slice D nd cd] w (RetSignature a ds w) := by
  have h1 := fun W h1 h2 => RCheckA_any a S G ns cs ng cg W h1 h2
  have h2 := fun W h1 h2 => Rdelays_any a S G D ns cs ng cg nd cd ds W h1 h2
  have hgl := Lib.hid hG.len
  have hdl := Lib.hid hD.len
  obtain ⟨w1, hw1⟩ : ∃ w1, w1 = w.alloc (.cells #[.slice S ns cs, .slice G ng cg] 25) := ⟨_, rfl⟩
  have k3 : Blk w1 w.heap.size 25 #[.slice S ns cs, .slice G ng cg] := by rw [hw1]; exact Blk.new _ _ _
  have b : Below w.heap.size w w1 := by rw [hw1]; exact (Below.refl _ _).alloc (Nat.le_refl _) _
  have hS1 : SlAt w1 0 1 ivs S ns cs a.sh := by rw [hw1]; exact hS.alloc _
  have hG1 : SlAt w1 0 4 Gun.cells G ng cg a.gs := by rw [hw1]; exact hG.alloc _
  have hD1 : SlAt w1 0 1 ivs D nd cd ds := by rw [hw1]; exact hD.alloc _
  clear hS hG hD
  unfold chkArr at h1
  by_cases ha : okArr a = true
  · rw [if_pos ha] at h1
    cases hd : okDel a ds with
    | true =>
      obtain ⟨hdd, hdi⟩ := okDel_is hd
      obtain rfl : ng = nd := by rw [← hgl.out, ← hdl.out, hdd]
      have hv : Hid (errA a ds = 0) := by show _ = _; unfold errA; rw [if_pos ha, if_pos hd]
      rw [hd] at h2
      go_enter Try.func63, Try.ntmps63
      go_wp2_with fail
      rw [← hw1]
      clear hw1
      obtain ⟨c3, f3, l3⟩ := k3.rules
      go_wp2_with fail
      refine (h1 _ hS1 hG1).mono ?_
      rintro e W ⟨rfl, hb⟩
      clear c3 f3 l3 h1
      replace k3 := k3.below hb
      replace b := b.trans (hb.mono b.size)
      replace hS1 := hS1.below hb
      replace hG1 := hG1.below hb
      replace hD1 := hD1.below hb
      clear hb
      obtain ⟨c3, f3, l3⟩ := k3.rules
      go_wp2_with fail
      refine (h2 _ hG1 hD1).mono ?_
      rintro e W2 ⟨rfl, hb⟩
      clear c3 f3 l3 h2
      replace k3 := k3.below hb
      replace b := b.trans (hb.mono b.size)
      replace hS1 := hS1.below hb
      replace hG1 := hG1.below hb
      replace hD1 := hD1.below hb
      clear hb
      have h3 := fun W h1 h2 h3 => Rsignature_any a ha ds [] hdi S G D none ns cs ng cg cd 0 0 0 0 0 0 W h1 h2 h3 (SlAt.nil _ _ _ _)
      obtain ⟨c3, f3, l3⟩ := k3.rules
      clear hd ha hdi
      go_wp2_with fail
      refine (h3 _ hS1 hG1 hD1).mono ?_
      rintro e W3 ⟨P, pc, rfl, hP, hb⟩
      go_wp2_with fail
      go_ret2
      unfold RetSignature sigR
      rw [hv.out, if_pos rfl]
      exact ⟨P, _, pc, rfl, hP.mono b.size, b.trans (hb.mono b.size)⟩
    | false =>
      have hv : Hid (errA a ds = 51) := by show _ = _; unfold errA; rw [if_pos ha, if_neg (by rw [hd]; decide)]
      rw [hd] at h2
      clear hd ha
      go_enter Try.func63, Try.ntmps63
      go_wp2_with fail
      rw [← hw1]
      clear hw1
      obtain ⟨c3, f3, l3⟩ := k3.rules
      go_wp2_with fail
      refine (h1 _ hS1 hG1).mono ?_
      rintro e W ⟨rfl, hb⟩
      clear c3 f3 l3 h1
      replace k3 := k3.below hb
      replace b := b.trans (hb.mono b.size)
      replace hS1 := hS1.below hb
      replace hG1 := hG1.below hb
      replace hD1 := hD1.below hb
      clear hb
      obtain ⟨c3, f3, l3⟩ := k3.rules
      go_wp2_with fail
      refine (h2 _ hG1 hD1).mono ?_
      rintro e W2 ⟨rfl, hb⟩
      clear c3 f3 l3 h2
      replace k3 := k3.below hb
      replace b := b.trans (hb.mono b.size)
      replace hS1 := hS1.below hb
      replace hG1 := hG1.below hb
      replace hD1 := hD1.below hb
      clear hb
      go_wp2_with fail
      go_ret2
      exact retSignature_err hv.out (by decide) b
  · rw [if_neg ha] at h1
    have hv : Hid (errA a ds = 50) := by show _ = _; unfold errA; rw [if_neg ha]
    clear ha h2
    go_enter Try.func63, Try.ntmps63
    go_wp2_with fail
    rw [← hw1]
    clear hw1
    obtain ⟨c3, f3, l3⟩ := k3.rules
    go_wp2_with fail
    refine (h1 _ hS1 hG1).mono ?_
    rintro e W ⟨rfl, hb⟩
    clear c3 f3 l3 h1
    replace k3 := k3.below hb
    replace b := b.trans (hb.mono b.size)
    replace hS1 := hS1.below hb
    replace hG1 := hG1.below hb
    replace hD1 := hD1.below hb
    clear hb
    go_wp2_with fail
    go_ret2
    exact retSignature_err hv.out (by decide) b
set_option maxRecDepth 100000 in
set_option maxHeartbeats 2000000 in
theorem RMisfit_any (a : Arr) (S G D : Option Addr) (ns cs ng cg nd cd : Nat) (ds : List Int) (w : World) (hS : SlAt w 0 1 ivs S ns cs a.sh) (hG : SlAt w 0 4 Gun.cells G ng cg a.gs) (hD : SlAt w 0 1 ivs D nd cd ds) :
    Calls Try.prog 68 #[.agg #[.slice S ns cs, .slice G ng cg], .slice D nd cd] w (RetMisfit a ds w) := by
  have h1 := fun W h1 h2 => RCheckA_any a S G ns cs ng cg W h1 h2
  have h2 := fun W h1 h2 => Rdelays_any a S G D ns cs ng cg nd cd ds W h1 h2
  have hgl := Lib.hid hG.len
  have hdl := Lib.hid hD.len
  obtain ⟨w1, hw1⟩ : ∃ w1, w1 = w.alloc (.cells #[.slice S ns cs, .slice G ng cg] 25) := ⟨_, rfl⟩
  have k3 : Blk w1 w.heap.size 25 #[.slice S ns cs, .slice G ng cg] := by rw [hw1]; exact Blk.new _ _ _
  have b : Below w.heap.size w w1 := by rw [hw1]; exact (Below.refl _ _).alloc (Nat.le_refl _) _
  have hS1 : SlAt w1 0 1 ivs S ns cs a.sh := by rw [hw1]; exact hS.alloc _
  have hG1 : SlAt w1 0 4 Gun.cells G ng cg a.gs := by rw [hw1]; exact hG.alloc _
  have hD1 : SlAt w1 0 1 ivs D nd cd ds := by rw [hw1]; exact hD.alloc _
  clear hS hG hD
  unfold chkArr at h1
  by_cases ha : okArr a = true
  · rw [if_pos ha] at h1
    cases hd : okDel a ds with
    | true =>
      obtain ⟨hdd, hdi⟩ := okDel_is hd
      obtain rfl : ng = nd := by rw [← hgl.out, ← hdl.out, hdd]
      have hv : Hid (errA a ds = 0) := by show _ = _; unfold errA; rw [if_pos ha, if_pos hd]
      rw [hd] at h2
      go_enter Try.func68, Try.ntmps68
      go_wp2_with fail
      rw [← hw1]
      clear hw1
      obtain ⟨c3, f3, l3⟩ := k3.rules
      go_wp2_with fail
      refine (h1 _ hS1 hG1).mono ?_
      rintro e W ⟨rfl, hb⟩
      clear c3 f3 l3 h1
      replace k3 := k3.below hb
      replace b := b.trans (hb.mono b.size)
      replace hS1 := hS1.below hb
      replace hG1 := hG1.below hb
      replace hD1 := hD1.below hb
      clear hb
      obtain ⟨c3, f3, l3⟩ := k3.rules
      go_wp2_with fail
      refine (h2 _ hG1 hD1).mono ?_
      rintro e W2 ⟨rfl, hb⟩
      clear c3 f3 l3 h2
      replace k3 := k3.below hb
      replace b := b.trans (hb.mono b.size)
      replace hS1 := hS1.below hb
      replace hG1 := hG1.below hb
      replace hD1 := hD1.below hb
      clear hb
      have h3 := fun W h1 h2 h3 => Rmisfit_any a ha ds [] hdi S G D none ns cs ng cg cd 0 0 W h1 h2 h3 (SlAt.nil _ _ _ _)
      obtain ⟨c3, f3, l3⟩ := k3.rules
      clear hd ha hdi
      go_wp2_with fail
      refine (h3 _ hS1 hG1 hD1).mono ?_
      rintro e W3 ⟨rfl, hb⟩
      go_wp2_with fail
      go_ret2
      unfold RetMisfit misR
      rw [hv.out, if_pos rfl]
      exact ⟨rfl, b.trans (hb.mono b.size)⟩
    | false =>
      have hv : Hid (errA a ds = 51) := by show _ = _; unfold errA; rw [if_pos ha, if_neg (by rw [hd]; decide)]
      rw [hd] at h2
      clear hd ha
      go_enter Try.func68, Try.ntmps68
      go_wp2_with fail
      rw [← hw1]
      clear hw1
      obtain ⟨c3, f3, l3⟩ := k3.rules
      go_wp2_with fail
      refine (h1 _ hS1 hG1).mono ?_
      rintro e W ⟨rfl, hb⟩
      clear c3 f3 l3 h1
      replace k3 := k3.below hb
      replace b := b.trans (hb.mono b.size)
      replace hS1 := hS1.below hb
      replace hG1 := hG1.below hb
      replace hD1 := hD1.below hb
      clear hb
      obtain ⟨c3, f3, l3⟩ := k3.rules
      go_wp2_with fail
      refine (h2 _ hG1 hD1).mono ?_
      rintro e W2 ⟨rfl, hb⟩
      clear c3 f3 l3 h2
      replace k3 := k3.below hb
      replace b := b.trans (hb.mono b.size)
      replace hS1 := hS1.below hb
      replace hG1 := hG1.below hb
      replace hD1 := hD1.below hb
      clear hb
      go_wp2_with fail
      go_ret2
      exact retMisfit_err hv.out (by decide) b
  · rw [if_neg ha] at h1
    have hv : Hid (errA a ds = 50) := by show _ = _; unfold errA; rw [if_neg ha]
    clear ha h2
    go_enter Try.func68, Try.ntmps68
    go_wp2_with fail
    rw [← hw1]
    clear hw1
    obtain ⟨c3, f3, l3⟩ := k3.rules
    go_wp2_with fail
    refine (h1 _ hS1 hG1).mono ?_
    rintro e W ⟨rfl, hb⟩
    clear c3 f3 l3 h1
    replace k3 := k3.below hb
    replace b := b.trans (hb.mono b.size)
    replace hS1 := hS1.below hb
    replace hG1 := hG1.below hb
    replace hD1 := hD1.below hb
    clear hb
    go_wp2_with fail
    go_ret2
    exact retMisfit_err hv.out (by decide) b
end Go.Proofs.Ytfengddpfeneiaa
