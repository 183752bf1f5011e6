/-
  Shots, walks of the specification: signatures and misfits.
-/
import Derived.Test.YtfengddpfeneiaaS41
import Derived.Deep.Cut
namespace Go.Proofs.Ytfengddpfeneiaa
open Go.RowKit Go.Shelf
set_option linter.unusedSimpArgs false
set_option linter.unusedVariables false

set_option maxRecDepth 100000 in
set_option maxHeartbeats 2000000 in
theorem Rgives_any (a : Arr) (ha : okArr a = true) (g : Gun) (i : Nat) (hi : a.gs[i]? = some g) (S G : Option Addr) (ns cs ng cg B1 B2 : Nat) (t d : Int) (w : World) (ht : 0 ≤ t ∧ t ≤ 1000) (hd : -16 ≤ d ∧ d ≤ 16) (hS : SlAt w B1 1 ivs S ns cs a.sh) (hG : SlAt w B2 4 Gun.cells G ng cg a.gs) :
    Calls Try.prog 116 #[.agg #[.slice S ns cs, .slice G ng cg], .int .i64 i, .int .i64 d, .int .i64 t] w fun e w' => e = .returned (.int .i64 (giveS a.sh g t d)) ∧ Below w.heap.size w w' := by
  have hsl := Lib.hid hS.len
  have hsn := hS.le
  have hgo := okArr_gun ha (List.mem_of_getElem? hi)
  have hsb := Lib.hid (fun k => okArr_sh ha k)
  have hil := (List.getElem?_eq_some_iff.1 hi).1
  have hgl := hG.len
  have hgn := hG.le
  have hk0 : (0 : Int) ≤ (i : Int) := by omega
  have hk1 : (i : Int) < (ng : Int) := by omega
  obtain ⟨w1, hw1⟩ : ∃ w1, w1 = w.alloc (.cells #[.slice S ns cs, .slice G ng cg] 25) := ⟨_, rfl⟩
  have k3 : Blk w1 w.heap.size 25 #[.slice S ns cs, .slice G ng cg] := by rw [hw1]; exact Blk.new _ _ _
  have b : Below w.heap.size w w1 := by rw [hw1]; exact (Below.refl _ _).alloc (Nat.le_refl _) _
  have hS1 : SlAt w1 B1 1 ivs S ns cs a.sh := by rw [hw1]; exact hS.alloc _
  have hG1 : SlAt w1 B2 4 Gun.cells G ng cg a.gs := by rw [hw1]; exact hG.alloc _
  obtain ⟨bq, oq, hA, -, -, e0, e1, e2, e3⟩ := hG1.gun hi
  subst hA
  have hS2 := hS1.alloc (.cells #[.int .i64 g.vol, .int .i64 g.time, .int .i64 g.late.lo, .int .i64 g.late.hi] 74)
  have kg := Blk.new w1 74 #[.int .i64 g.vol, .int .i64 g.time, .int .i64 g.late.lo, .int .i64 g.late.hi]
  have bg := b.alloc b.size (.cells #[.int .i64 g.vol, .int .i64 g.time, .int .i64 g.late.lo, .int .i64 g.late.hi] 74)
  have k3g := k3.alloc (.cells #[.int .i64 g.vol, .int .i64 g.time, .int .i64 g.late.lo, .int .i64 g.late.hi] 74)
  have hel : Hid (elS g t d = t - 16 - g.time - d) := rfl
  obtain ⟨q1, q2, q3, q4, q5, q6, q7⟩ := hgo
  have u1 := IntWalk.i64_in (t - 16) (by omega)
  have u2 := IntWalk.i64_in (t - 16 - g.time) (by omega)
  have u3 := IntWalk.i64_in (t - 16 - g.time - d) (by omega)
  have u4 := IntWalk.i64_in ((ns : Int) - 1) (by omega)
  clear hS hG hS1 hG1 hi hil hgl
  by_cases hq : 0 ≤ elS g t d ∧ elS g t d ≤ (ns : Int) - 1
  · have hv : Hid (giveS a.sh g t d = g.vol * a.sh.getD (elS g t d).toNat 0) := by show _ = _; unfold giveS; rw [hsl.out, if_pos hq]
    have hB := fun W => btA_yes hq W
    obtain ⟨j, hj⟩ : ∃ j : Nat, elS g t d = j := ⟨(elS g t d).toNat, by omega⟩
    rw [hj] at hq
    have hjl : j < a.sh.length := by rw [hsl.out]; omega
    have hx := get_getD (l := a.sh) (i := j) 0 hjl
    obtain ⟨bs, os, hA, -, -, s0⟩ := hS2.int hx
    have hxb := hsb.out j
    have hmb := mulBd (a := g.vol) (b := a.sh.getD j 0) (A := 1000) (B := 1000) (by omega) (by omega) (by omega) (by omega)
    have hv2 : Hid (giveS a.sh g t d = g.vol * a.sh.getD j 0) := by show _ = _; rw [hv.out, hj, Int.toNat_natCast]
    rw [hel.out] at hB hj
    clear hv
    generalize giveS a.sh g t d = R at *
    generalize a.sh.getD j 0 = x at *
    have u5 := IntWalk.i64_in (g.vol * x) (by omega)
    have hj0 : (0 : Int) ≤ (j : Int) := by omega
    have hj1 : (j : Int) < (ns : Int) := by omega
    rw [hj] at hB u3
    subst hA
    clear hmb hx hq
    go_enter Try.func116, Try.ntmps116
    go_upto_region 1 with fail
    rw [← hw1]
    clear hw1
    obtain ⟨c3, f3, l3⟩ := k3.rules
    obtain ⟨c4, f4, l4⟩ := k3g.rules
    obtain ⟨cg_, fg_, lg_⟩ := kg.rules
    go_wp2_with fail
    try rw [hj]
    refine (hB _).mono ?_
    rintro e w' ⟨rfl, rfl⟩
    go_wp2_with fail
    go_quiet (fail)
    go_wp2_with fail
    go_ret
    exact ⟨ret_int hv2.out.symm, below_drewN bg _⟩
  · have hv : Hid (giveS a.sh g t d = 0) := by show _ = _; unfold giveS; rw [hsl.out, if_neg hq]
    have hB := fun W => btA_no hq W
    rw [hel.out] at hB
    clear hq
    go_enter Try.func116, Try.ntmps116
    go_upto_region 1 with fail
    rw [← hw1]
    clear hw1
    obtain ⟨c3, f3, l3⟩ := k3.rules
    obtain ⟨c4, f4, l4⟩ := k3g.rules
    obtain ⟨cg_, fg_, lg_⟩ := kg.rules
    go_wp2_with fail
    refine (hB _).mono ?_
    rintro e w' ⟨rfl, rfl⟩
    go_wp2_with fail
    go_ret
    exact ⟨ret_int hv.out.symm, bg⟩
set_option maxRecDepth 100000 in
set_option maxHeartbeats 4000000 in
theorem Rsignature_any (a : Arr) (ha : okArr a = true) (ds loss : List Int) (hds : isDel ds) (S G D L : Option Addr) (ns cs ng cg cd nl cl B1 B2 B3 B4 : Nat) (w : World)
    (hS : SlAt w B1 1 ivs S ns cs a.sh) (hG : SlAt w B2 4 Gun.cells G ng cg a.gs) (hD : SlAt w B3 1 ivs D ng cd ds) (hL : SlAt w B4 1 ivs L nl cl loss) :
    Calls Try.prog 114 #[.agg #[.slice S ns cs, .slice G ng cg], .slice D ng cd, .slice L nl cl] w fun e w' => ∃ O co, e = .returned (.slice O (ns + 48) co) ∧ SlAt w' w.heap.size 1 ivs O (ns + 48) co (sigL a ds loss) ∧ Below w.heap.size w w' := by
  have hsl := Lib.hid hS.len
  have hgl := Lib.hid hG.len
  have hdl := Lib.hid hD.len
  have har := okArr_len ha
  unfold arrLen at har
  rw [hsl.out, hgl.out] at har
  have hgv := Lib.hid (fun g i hi t d W ht hd h1 h2 => Rgives_any a ha g i hi S G ns cs ng cg B1 B2 t d W ht hd h1 h2)
  have hbd := Lib.hid (fun t k hk => sigTo_bd ha ds loss t k hk)
  have hgo := Lib.hid (fun (g : Gun) (h : g ∈ a.gs) => okArr_gun ha h)
  have hgb := Lib.hid (fun (g : Gun) (hg : gunOk g) t d => giveS_bd ha (g := g) ⟨hg.1, hg.2.1⟩ t d)
  have hIx := Lib.hid (fun (v : Int) W h => Index_any v L nl cl B4 loss W h)
  replace hds := Lib.hid hds
  obtain ⟨r1, r2, r3, r4⟩ := har
  obtain ⟨w1, hw1⟩ : ∃ w1, w1 = w.alloc (.cells #[.slice S ns cs, .slice G ng cg] 25) := ⟨_, rfl⟩
  have k3 : Blk w1 w.heap.size 25 #[.slice S ns cs, .slice G ng cg] := by rw [hw1]; exact Blk.new _ _ _
  have b : Below w.heap.size w w1 := by rw [hw1]; exact (Below.refl _ _).alloc (Nat.le_refl _) _
  have hS1 : SlAt w1 B1 1 ivs S ns cs a.sh := by rw [hw1]; exact hS.alloc _
  have hG1 : SlAt w1 B2 4 Gun.cells G ng cg a.gs := by rw [hw1]; exact hG.alloc _
  have hD1 : SlAt w1 B3 1 ivs D ng cd ds := by rw [hw1]; exact hD.alloc _
  have hL1 : SlAt w1 B4 1 ivs L nl cl loss := by rw [hw1]; exact hL.alloc _
  clear hS hG hD hL
  obtain ⟨i0, hi0, hz0, hz1, hz2⟩ := info_parts Try.infoInt
  have u0 := IntWalk.i64_in ((ns : Int) + 48) (by omega)
  have hlen := Lib.hid (sigL_len a ds loss)
  have hat := Lib.hid (fun t h => sigL_at a ds loss (t := t) h)
  rw [hsl.out] at hlen hat
  go_enter Try.func114, Try.ntmps114
  go_wp2_with fail
  rw [← hw1]
  clear hw1
  go_loopw [7, 8] (fun u i wr => ∃ t : Nat, i = .int .i64 (t : Int) ∧ t ≤ ns + 48 ∧ wr.ownsRow w1.heap.size 3 1 u t (((sigL a ds loss).take t).map (.int .i64 ·)) ∧ Below w1.heap.size w1 wr) (fun u i wr => ns + 48 - (intOf i).toNat)
  case atStart => exact ⟨0, rfl, Nat.zero_le _, ⟨rfl, .inl ⟨rfl, rfl⟩⟩, Below.refl _ _⟩
  case round =>
    obtain ⟨t, rfl, ht, hown, hb⟩ := hrel
    have k3r := k3.below hb
    obtain ⟨c3, f3, l3⟩ := k3r.rules
    by_cases hlt : t < ns + 48
    · have ht0 : (0 : Int) ≤ (t : Int) := by omega
      have ht1 : (t : Int) < (ns : Int) + 48 := by omega
      have hta := Lib.hid (hat.out t hlt)
      have hsa : Hid (sigTo a ds loss t ng = sigAt a ds loss t) := by show _ = _; unfold sigAt; rw [hgl.out]
      generalize wr = V at *
      clear wr
      go_wp2_with fail
      go_loopw [9, 10] (fun v i wq => ∃ k : Nat, i = .int .i64 (k : Int) ∧ k ≤ ng ∧ v = .int .i64 (sigTo a ds loss t k) ∧ Below V.heap.size V wq) (fun v i wq => ng - (intOf i).toNat)
      case atStart => exact ⟨0, rfl, Nat.zero_le _, rfl, Below.refl _ _⟩
      case round =>
        obtain ⟨k, rfl, hk, rfl, hb9⟩ := hrel
        have k39 := k3r.below hb9
        clear c3 f3 l3
        obtain ⟨c3, f3, l3⟩ := k39.rules
        have hbb := hb.trans (hb9.mono hb.size)
        by_cases hkl : k < ng
        · obtain ⟨x, hx⟩ := some_of_lt hgl.out hkl
          obtain ⟨dd, hdd⟩ := some_of_lt hdl.out hkl
          have hdk : ds.getD k 0 = dd := by rw [List.getD_eq_getElem?_getD, hdd]; rfl
          have hdr := hds.out k
          rw [hdk] at hdr
          have hxg : a.gs.getD k gun0 = x := by rw [List.getD_eq_getElem?_getD, hx]; rfl
          obtain ⟨bD, oD, hA, -, hbD, y0⟩ := (hD1.below hbb).int hdd
          have hxo := hgo.out x (List.mem_of_getElem? hx)
          have hb1 := hbd.out t k (by have := hgl.out; omega)
          have hb2 := hgb.out x hxo t dd
          have hk0 : (0 : Int) ≤ (k : Int) := by omega
          have hk1 : (k : Int) < (ng : Int) := by omega
          have hsx : Hid (sigTo a ds loss t (k + 1) = sigTo a ds loss t k + (if loss.contains (k : Int) = true then 0 else giveS a.sh x t dd)) := by show _ = _; rw [sigTo, hxg, hdk]
          have hgx := fun W h1 h2 => hgv.out x k hx t dd W (by omega) hdr h1 h2
          have hII := hIx.out (k : Int) _ (hL1.below hbb)
          have hix := idx_lt (k : Int) loss
          generalize giveS a.sh x t dd = gv at *
          generalize sigTo a ds loss t k = sm at *
          generalize idxf (fun z => decide (z = (k : Int))) loss 0 = ix at *
          have u1 := IntWalk.i64_in (sm + gv) (by omega)
          subst hA
          replace hx := Lib.hid hx
          replace hdd := Lib.hid hdd
          clear hb1 hb2 hxo hdr hdk hxg
          cases hc : loss.contains (k : Int) with
          | true =>
            rw [hc] at hsx hix
            have hix2 : ¬ ix < 0 := fun h => by have := hix.1 h; cases this
            replace hc := Lib.hid hc
            clear hix hgx
            go_wp2_with fail
            refine hII.mono ?_
            rintro e w' ⟨rfl, rfl⟩
            go_wp2_with fail
            go_roundw
            case rel => exact ⟨k + 1, by go_num, by omega, by rw [hsx.out]; simp, hb9⟩
            case measure => simp [intOf]; omega
          | false =>
            rw [hc] at hsx
            have hix2 : ix < 0 := hix.2 hc
            replace hc := Lib.hid hc
            clear hix
            go_wp2_with fail
            refine hII.mono ?_
            rintro e w' ⟨rfl, rfl⟩
            clear hII
            go_wp2_with fail
            refine wp_held_np (fun w' : World => (∀ j, w'.cell? ⟨w.heap.size, j, none⟩ = #[Value.slice S ns cs, .slice G ng cg][j]?) ∧ w'.cell? ⟨bD, oD + k, none⟩ = some (.int .i64 dd)) (by kernel_rfl) ?_
            clear c3 f3 l3
            replace k39 := k39.drew
            replace hbb := hbb.drew
            replace hb9 := hb9.drew
            replace y0 : wr.drew.cell? ⟨bD, oD + k, none⟩ = some (.int .i64 dd) := y0
            replace hbD : bD < wr.drew.heap.size := hbD
            generalize wr.drew = wd at *
            have hSx : (fun w' : World => (∀ j, w'.cell? ⟨w.heap.size, j, none⟩ = #[Value.slice S ns cs, .slice G ng cg][j]?) ∧ w'.cell? ⟨bD, oD + k, none⟩ = some (.int .i64 dd)) wd := ⟨k39.cell, y0⟩
            refine held_take (i := 0) (v := ?_) 30 rfl rfl (by kernel_rfl) (by kernel_rfl) (by kernel_rfl) (fun _ _ _ h => h) (Or.inl ⟨by rfl, ?_⟩) hSx ?_
            rotate_left 1
            · intro w' hSw
              try dsimp only at hSw
              obtain ⟨q1, q2⟩ := hSw
              go_simp
              all_goals with_reducible rfl
            try simp only [Act.put, List.setIfInBounds_toArray, List.set_cons_zero, List.set_cons_succ]
            refine held_take (i := 1) (v := ?_) 31 rfl rfl (by kernel_rfl) (by kernel_rfl) (by kernel_rfl) (fun _ _ _ h => h) (Or.inl ⟨by rfl, ?_⟩) hSx ?_
            rotate_left 1
            · intro w' hSw
              try dsimp only at hSw
              obtain ⟨q1, q2⟩ := hSw
              go_simp
              all_goals with_reducible rfl
            try simp only [Act.put, List.setIfInBounds_toArray, List.set_cons_zero, List.set_cons_succ]
            refine held_take (i := 2) (v := ?_) 32 rfl rfl (by kernel_rfl) (by kernel_rfl) (by kernel_rfl) (fun _ _ _ h => h) (Or.inl ⟨by rfl, ?_⟩) hSx ?_
            rotate_left 1
            · intro w' hSw
              try dsimp only at hSw
              obtain ⟨q1, q2⟩ := hSw
              go_simp
              all_goals with_reducible rfl
            try simp only [Act.put, List.setIfInBounds_toArray, List.set_cons_zero, List.set_cons_succ]
            refine held_take (i := 3) (v := ?_) 33 rfl rfl (by kernel_rfl) (by kernel_rfl) (by kernel_rfl) (fun _ _ _ h => h) (Or.inl ⟨by rfl, ?_⟩) hSx ?_
            rotate_left 1
            · intro w' hSw
              try dsimp only at hSw
              obtain ⟨q1, q2⟩ := hSw
              go_simp
              all_goals with_reducible rfl
            try simp only [Act.put, List.setIfInBounds_toArray, List.set_cons_zero, List.set_cons_succ]
            refine held_take (i := 4) (v := ?_) 34 rfl rfl (by kernel_rfl) (by kernel_rfl) (by kernel_rfl) (fun _ _ _ h => h) (Or.inl ⟨by rfl, ?_⟩) hSx ?_
            rotate_left 1
            · intro w' hSw
              try dsimp only at hSw
              obtain ⟨q1, q2⟩ := hSw
              go_simp
              all_goals with_reducible rfl
            try simp only [Act.put, List.setIfInBounds_toArray, List.set_cons_zero, List.set_cons_succ]
            refine held_take (i := 5) (v := ?_) 35 rfl rfl (by kernel_rfl) (by kernel_rfl) (by kernel_rfl) (fun _ _ _ h => h) (Or.inl ⟨by rfl, ?_⟩) hSx ?_
            rotate_left 1
            · intro w' hSw
              try dsimp only at hSw
              obtain ⟨q1, q2⟩ := hSw
              go_simp
              all_goals with_reducible rfl
            try simp only [Act.put, List.setIfInBounds_toArray, List.set_cons_zero, List.set_cons_succ]
            refine held_take (i := 6) (v := ?_) 36 rfl rfl (by kernel_rfl) (by kernel_rfl) (by kernel_rfl) (fun _ _ _ h => h) (Or.inl ⟨by rfl, ?_⟩) hSx ?_
            rotate_left 1
            · intro w' hSw
              try dsimp only at hSw
              obtain ⟨q1, q2⟩ := hSw
              go_simp
              all_goals with_reducible rfl
            try simp only [Act.put, List.setIfInBounds_toArray, List.set_cons_zero, List.set_cons_succ]
            refine held_take (i := 7) (v := ?_) 37 rfl rfl (by kernel_rfl) (by kernel_rfl) (by kernel_rfl) (fun _ _ _ h => h) (Or.inl ⟨by rfl, ?_⟩) hSx ?_
            rotate_left 1
            · intro w' hSw
              try dsimp only at hSw
              obtain ⟨q1, q2⟩ := hSw
              go_simp
              all_goals with_reducible rfl
            try simp only [Act.put, List.setIfInBounds_toArray, List.set_cons_zero, List.set_cons_succ]
            clear hSx
            refine held_one (i := 8) (by kernel_rfl) rfl rfl (fun K hK => ?_)
            go_simp
            refine (hgx _ (hS1.below hbb) (hG1.below hbb)).mono ?_
            rintro e W4 ⟨rfl, hb4⟩
            have k394 := k39.below hb4
            have y04 := (hb4.cell (p := ⟨bD, oD + k, none⟩) hbD).trans y0
            replace hb9 := hb9.trans (hb4.mono hb9.size)
            have hSx : (fun w' : World => (∀ j, w'.cell? ⟨w.heap.size, j, none⟩ = #[Value.slice S ns cs, .slice G ng cg][j]?) ∧ w'.cell? ⟨bD, oD + k, none⟩ = some (.int .i64 dd)) W4 := ⟨k394.cell, y04⟩
            refine hK _ _ hSx ?_
            clear hK K
            try simp only [Act.put, List.setIfInBounds_toArray, List.set_cons_zero, List.set_cons_succ]
            refine held_take (i := 9) (v := ?_) 39 rfl rfl (by kernel_rfl) (by kernel_rfl) (by kernel_rfl) (fun _ _ _ h => h) (Or.inl ⟨by rfl, ?_⟩) hSx ?_
            rotate_left 1
            · intro w' hSw
              try dsimp only at hSw
              obtain ⟨q1, q2⟩ := hSw
              go_simp
              all_goals with_reducible rfl
            try simp only [Act.put, List.setIfInBounds_toArray, List.set_cons_zero, List.set_cons_succ]
            refine held_take (i := 10) (v := ?_) 9 rfl rfl (by kernel_rfl) (by kernel_rfl) (by kernel_rfl) (fun _ _ _ h => h) (Or.inl ⟨by rfl, ?_⟩) hSx ?_
            rotate_left 1
            · intro w' hSw
              try dsimp only at hSw
              obtain ⟨q1, q2⟩ := hSw
              go_simp
              all_goals with_reducible rfl
            try simp only [Act.put, List.setIfInBounds_toArray, List.set_cons_zero, List.set_cons_succ]
            refine wpAnyH_done (by kernel_rfl) (noPanic_normal ?_) _
            clear hSx
            try simp only [Act.put, List.setIfInBounds_toArray, List.set_cons_zero, List.set_cons_succ]
            go_wp2_with fail
            go_roundw
            case rel => exact ⟨k + 1, by go_num, by omega, by rw [hsx.out]; rfl, hb9⟩
            case measure => simp [intOf]; omega
        · obtain rfl : k = ng := by omega
          rw [hsa.out]
          generalize sigAt a ds loss t = sv at *
          have hbig1 : Hid (t + 1 ≤ maxLen) := by show t + 1 ≤ maxLen; unfold maxLen; omega
          have hbig2 : Hid ((t + 1) * 8 ≤ 140737488355328) := by show (t + 1) * 8 ≤ 140737488355328; omega
          have hown9 := ownsRow_below hown hb9
          have hnews : ∀ (j : Nat) (u : Value), ([.int .i64 sv] : List Value)[j]? = some u → (wr.alloc (.cells #[.int .i64 sv] 3)).cell? ((⟨wr.heap.size, 0, none⟩ : Addr).add j) = some u :=
            World.news_of_block (cs := #[.int .i64 sv]) (World.alloc_heap_new wr _)
          have hownf := hown9.alloc (.cells #[.int .i64 sv] 3)
          have hbf := hbb.alloc hbb.size (.cells #[.int .i64 sv] 3)
          have htk : Hid (((sigL a ds loss).take (t + 1)).map (Value.int .i64 ·) = ((sigL a ds loss).take t).map (.int .i64 ·) ++ [.int .i64 sv]) := by show _ = _; rw [List.take_add_one, hta.out]; simp
          go_wp2_with (at_builtin; refine wpList_append_lies _ rfl (.tmp 40) (.tmp 42) 22 rfl w1.heap.size 3 i0 (.int .i64 0) 1 8 Try.underlying22 hi0 hz0 hz1 hz2 rfl (by decide) u7 t (((sigL a ds loss).take t).map (.int .i64 ·)) rfl hownf ⟨wr.heap.size, 0, none⟩ 1 1 [.int .i64 sv] rfl rfl hnews (by simp [Value.oneCell']) (by decide) hbig1.out hbig2.out hbf.size (wr.heap.size + 1) (by simp) ?_; intro g cap w7 hown7 hgrow hlies hlt7)
          have hbg : Below w1.heap.size _ w7 := ⟨hgrow.os, hgrow.tape, hgrow.output, hgrow.size, fun b hb2 => hgrow.block b (Nat.lt_of_lt_of_le hb2 hbf.size) (fun e => by have := (hownf.lt _ e.symm).1; omega)⟩
          have hbh := hbf.trans hbg
          go_roundw
          case rel => exact ⟨t + 1, by go_num, by omega, by rw [htk.out]; exact hown7, hbh⟩
          case measure => simp [intOf]; omega
    · obtain rfl : t = ns + 48 := by omega
      rw [List.take_of_length_le (by rw [hlen.out]; exact Nat.le_refl _)] at hown
      obtain ⟨P, pc, rfl, hP1⟩ := SlAt.of_own (enc := ivs) hown (by omega) (sigL a ds loss) (flatMap_ivs _).symm (fun _ => rfl) hlen.out
      go_wp2_with fail
      go_ret
      exact ⟨P, pc, rfl, hP1.mono b.size, b.trans (hb.mono b.size)⟩
set_option maxRecDepth 100000 in
set_option maxHeartbeats 1000000 in
theorem Rdelays_any (a : Arr) (S G D : Option Addr) (ns cs ng cg nd cd : Nat) (ds : List Int) (w : World) (hG : SlAt w 0 4 Gun.cells G ng cg a.gs) (hD : SlAt w 0 1 ivs D nd cd ds) :
    Calls Try.prog 113 #[.agg #[.slice S ns cs, .slice G ng cg], .slice D nd cd] w fun e w' => e = .returned (.bool (okDel a ds)) ∧ Below w.heap.size w w' := by
  have hn := hD.le
  have hl := Lib.hid hD.len
  have hgl := Lib.hid hG.len
  obtain ⟨w1, hw1⟩ : ∃ w1, w1 = w.alloc (.cells #[.slice S ns cs, .slice G ng cg] 25) := ⟨_, rfl⟩
  have k3 : Blk w1 w.heap.size 25 #[.slice S ns cs, .slice G ng cg] := by rw [hw1]; exact Blk.new _ _ _
  have b : Below w.heap.size w w1 := by rw [hw1]; exact (Below.refl _ _).alloc (Nat.le_refl _) _
  have hD1 : SlAt w1 0 1 ivs D nd cd ds := by rw [hw1]; exact hD.alloc _
  clear hD hG
  go_enter Try.func113, Try.ntmps113
  go_wp2_with fail
  rw [← hw1]
  clear hw1
  go_loopw [5] (fun i wr => ∃ k : Nat, i = .int .i64 (k : Int) ∧ k ≤ nd ∧ (ds.take k).all (okNum 16) = true ∧ wr = w1) (fun i wr => nd - (intOf i).toNat)
  case atStart => exact ⟨0, rfl, Nat.zero_le _, rfl, rfl⟩
  case round =>
    obtain ⟨k, rfl, hk, hall, hwr⟩ := hrel
    rw [hwr]
    clear hwr wr
    replace hall := Lib.hid hall
    by_cases hlt : k < nd
    · obtain ⟨x, hx⟩ := some_of_lt hl.out hlt
      obtain ⟨bq, off, hA, -, hbl, c0⟩ := hD1.int hx
      have hk0 : (0 : Int) ≤ (k : Int) := by omega
      have hk1 : (k : Int) < (nd : Int) := by omega
      subst hA
      by_cases hq : -16 ≤ x ∧ x ≤ 16
      · have hB := fun W => btA_yes hq W
        have h2 := Lib.hid (allTake_succ hall.out hx (show okNum 16 x = true from decide_eq_true hq))
        replace hx := Lib.hid hx
        clear hq
        go_wp2_with fail
        refine (hB _).mono ?_
        rintro e w' ⟨rfl, rfl⟩
        go_wp2_with fail
        go_roundw
        case rel => exact ⟨k + 1, by go_num, by omega, h2.out, by first | rfl | trivial⟩
        case measure => simp [intOf]; omega
      · have hB := fun W => btA_no hq W
        have h2 : Hid (okDel a ds = false) := by show _ = _; unfold okDel; rw [all_no hx (show okNum 16 x = false from decide_eq_false hq)]; simp
        replace hx := Lib.hid hx
        clear hq
        go_wp2_with fail
        refine (hB _).mono ?_
        rintro e w' ⟨rfl, rfl⟩
        go_wp2_with fail
        go_ret
        exact ⟨ret_bool h2.out.symm, b⟩
    · obtain rfl : k = nd := by omega
      have hv : Hid (okDel a ds = ((k : Int) == (ng : Int))) := by
        show _ = _
        have := hall.out
        rw [List.take_of_length_le (by rw [hl.out]; exact Nat.le_refl _)] at this
        unfold okDel
        rw [this, hl.out, hgl.out, Bool.and_true, Bool.eq_iff_iff]
        simp; omega
      obtain ⟨c3, f3, l3⟩ := k3.rules
      go_wp2_with fail
      go_ret
      exact ⟨ret_bool (by rw [hv.out]), b⟩
end Go.Proofs.Ytfengddpfeneiaa
