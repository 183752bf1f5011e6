/-
  Shots, walks of the specification: which shots are weak.
-/
import Derived.Test.YtfengddpfeneiaaS33
namespace Go.Proofs.Ytfengddpfeneiaa
open Go.RowKit Go.Shelf
set_option linter.unusedSimpArgs false
set_option linter.unusedVariables false

set_option maxRecDepth 100000 in
set_option maxHeartbeats 8000000 in
theorem RWeak_any (f : Fir) (bl : List Bnd) (A : Option Addr) (n c B : Nat) (w : World) (hs : SlAt w B 2 Bnd.cells A n c bl) :
    Calls Try.prog 39 #[.agg #[.int .i64 f.start, .int .i64 f.every, .int .i64 f.srcs, .int .i64 f.shots, .int .i64 f.charge], .slice A n c] w (RetWk (weakR f bl) w) := by
  have h1 := fun W h => Rasked_any f bl A n c B W h
  have hl := Lib.hid hs.len
  obtain ⟨w1, hw1⟩ : ∃ w1, w1 = w.alloc (.cells #[.int .i64 f.start, .int .i64 f.every, .int .i64 f.srcs, .int .i64 f.shots, .int .i64 f.charge] 38) := ⟨_, rfl⟩
  have k3 : Blk w1 w.heap.size 38 #[.int .i64 f.start, .int .i64 f.every, .int .i64 f.srcs, .int .i64 f.shots, .int .i64 f.charge] := by rw [hw1]; exact Blk.new _ _ _
  have b : Below w.heap.size w w1 := by rw [hw1]; exact (Below.refl _ _).alloc (Nat.le_refl _) _
  have hs1 : SlAt w1 B 2 Bnd.cells A n c bl := by rw [hw1]; exact hs.alloc _
  clear hs
  by_cases he : errT f bl = 0
  · have hv : Hid (weakR f bl = (sureL f bl, mayL f bl, 0)) := by show _ = _; unfold weakR; rw [if_pos he]
    obtain ⟨hf, hd, hev⟩ := errT_ok he
    have hn : n ≤ 1000 := by have := (okDists_is hd).1; rw [hl.out] at this; omega
    have h2 := fun W h => Rtimes_any f bl hf A n c B W hn h
    have hfo := Lib.hid (okFir_is hf)
    have htb := Lib.hid (fun n => timeS_bd (f := f) (b := bl) n (by rw [hl.out]; omega))
    simp only [he] at h1
    clear hf hd hev he
    go_enter Try.func39, Try.ntmps39
    go_wp2_with fail
    rw [← hw1]
    clear hw1
    obtain ⟨c3, f3, l3⟩ := k3.rules
    go_wp2_with fail
    refine (h1 _ hs1).mono ?_
    rintro e W0 ⟨rfl, hb⟩
    clear h1 c3 f3 l3
    replace k3 := k3.below hb
    replace b := b.trans (hb.mono b.size)
    replace hs1 := hs1.below hb
    clear hb
    obtain ⟨c3, f3, l3⟩ := k3.rules
    go_wp2_with fail
    refine (h2 _ hs1).mono ?_
    rintro e W ⟨P, pc, rfl, hP, hb⟩
    clear h2 hs1 c3 f3 l3
    replace k3 := k3.below hb
    have hwb : Hid (w.heap.size ≤ W.heap.size) := by show _ ≤ _; have := b.size; have := hb.size; omega
    replace b := b.trans (hb.mono b.size)
    clear hb
    obtain ⟨p1, p2, p3, p4, p5, p6, p7, p8, p9, p10⟩ := hfo.out
    obtain ⟨np, hm⟩ : ∃ m : Nat, f.shots = m := ⟨f.shots.toNat, by omega⟩
    have hmt : f.shots.toNat = np := by omega
    rw [hmt] at hP
    replace hP := hP.mono (Nat.zero_le _)
    obtain ⟨i0, hi0, hz0, hz1, hz2⟩ := info_parts Try.infoBool
    obtain ⟨sn, hsn⟩ : ∃ sn : Nat, f.srcs = sn := ⟨f.srcs.toNat, by omega⟩
    have hsnt : f.srcs.toNat = sn := by omega
    rw [hmt]
    go_wp2_with fail
    go_loopw [9, 10, 11] (fun v u i wr => ∃ k : Nat, i = .int .i64 (k : Int) ∧ k ≤ np ∧ wr.ownsRow W.heap.size 4 1 v k (((sureL f bl).take k).map Value.bool) ∧ wr.ownsRow W.heap.size 4 1 u k (((mayL f bl).take k).map Value.bool) ∧ (∀ q, v.ownBlock = some q → u.ownBlock = some q → False) ∧ Below W.heap.size W wr) (fun v u i wr => np - (intOf i).toNat)
    case atStart => exact ⟨0, rfl, Nat.zero_le _, ⟨rfl, .inl ⟨rfl, rfl⟩⟩, ⟨rfl, .inl ⟨rfl, rfl⟩⟩, (fun q h => by cases h), Below.refl _ _⟩
    case round =>
      replace hsn := Lib.hid hsn
      obtain ⟨k, rfl, hk, rv, ru, hvu, hb⟩ := hrel
      replace hvu := Lib.hid hvu
      have k3r := k3.below hb
      have hk3l := k3r.lt
      have hbig1 : Hid (k + 1 ≤ maxLen) := by show k + 1 ≤ maxLen; unfold maxLen; omega
      have hbig2 : Hid ((k + 1) * 1 ≤ 140737488355328) := by show (k + 1) * 1 ≤ 140737488355328; omega
      by_cases hlt : k < np
      · have hkm : (k : Int) < f.shots := by omega
        have hgs : (sureL f bl)[k]? = some (sureS f bl k) := mapRange_at _ (by omega)
        have hgm : (mayL f bl)[k]? = some (mayS f bl k) := mapRange_at _ (by omega)
        have htS : Hid (((sureL f bl).take (k + 1)).map Value.bool = ((sureL f bl).take k).map Value.bool ++ [.bool (sureS f bl k)]) := by show _ = _; rw [List.take_add_one, hgs]; simp
        have htM : Hid (((mayL f bl).take (k + 1)).map Value.bool = ((mayL f bl).take k).map Value.bool ++ [.bool (mayS f bl k)]) := by show _ = _; rw [List.take_add_one, hgm]; simp
        clear hgs hgm
        by_cases hks : k < sn
        · have hks2 : (k : Int) < f.srcs := by have := hsn.out; omega
          have hsu : Hid (sureS f bl k = false) := by show _ = _; unfold sureS; rw [decide_eq_false (show ¬ f.srcs ≤ (k : Int) by omega)]; rfl
          have hma : Hid (mayS f bl k = false) := by show _ = _; unfold mayS; rw [decide_eq_false (show ¬ f.srcs ≤ (k : Int) by omega)]; rfl
          obtain ⟨c3, f3, l3⟩ := k3r.rules
          generalize hVV : wr = W9 at *
          have hnews : ∀ (j : Nat) (u : Value), ([.bool (false)] : List Value)[j]? = some u → (W9.alloc (.cells #[.bool (false)] 4)).cell? ((⟨W9.heap.size, 0, none⟩ : Addr).add j) = some u :=
            World.news_of_block (cs := #[.bool (false)]) (World.alloc_heap_new W9 _)
          have rvf := rv.alloc (.cells #[.bool (false)] 4)
          have ruf := ru.alloc (.cells #[.bool (false)] 4)
          have hbf := hb.alloc hb.size (.cells #[.bool (false)] 4)
          have hvlt := fun q e => rvf.lt q e
          have hult := fun q e => ru.lt q e
          go_wp2_with (at_builtin; first | (refine wpList_append_lies _ rfl (.tmp 33) (.tmp 34) 51 rfl W.heap.size 4 i0 (.bool false) 1 1 Try.underlying51 hi0 hz0 hz1 hz2 rfl (by decide) u9 k (((sureL f bl).take k).map Value.bool) rfl rvf ⟨W9.heap.size, 0, none⟩ 1 1 [.bool (false)] rfl rfl hnews (by simp [Value.oneCell']) (by decide) hbig1.out hbig2.out hbf.size (W9.heap.size + 1) (by simp) ?_; intro g cap w7 rv7 hgrow hlies hlt7; have ru7 := own_apart ruf hgrow hvu.out; have hbg : Below W.heap.size _ w7 := ⟨hgrow.os, hgrow.tape, hgrow.output, hgrow.size, fun b hb2 => hgrow.block b (Nat.lt_of_lt_of_le hb2 hbf.size) (fun e => by have := (hvlt _ e.symm).1; omega)⟩; have hbh := hbf.trans hbg; have ru7f := ru7.alloc (.cells #[.bool (false)] 4); have rv7f := rv7.alloc (.cells #[.bool (false)] 4); have hbh2 := hbh.alloc hbh.size (.cells #[.bool (false)] 4)) | (refine wpList_append_lies _ rfl (.tmp 36) (.tmp 37) 51 rfl W.heap.size 4 i0 (.bool false) 1 1 Try.underlying51 hi0 hz0 hz1 hz2 rfl (by decide) u10 k (((mayL f bl).take k).map Value.bool) rfl ru7f ⟨w7.heap.size, 0, none⟩ 1 1 [.bool (false)] rfl rfl (World.news_of_block (cs := #[.bool (false)]) (World.alloc_heap_new w7 _)) (by simp [Value.oneCell']) (by decide) hbig1.out hbig2.out hbh2.size (w7.heap.size + 1) (by simp) ?_; intro g2 cap2 w8 ru8 hgrow2 hlies2 hlt8))
          have hd1 : ∀ q, u10.ownBlock = some q → (Value.slice (some ⟨g, 0, none⟩) (k + 1) cap).ownBlock = some q → False := fun q h1 h2 => by
            simp only [Value.ownBlock, Option.some.injEq] at h2
            subst h2
            rcases hlies with h | h
            · exact hvu.out _ h h1
            · have := hult _ h1; omega
          have rv8 := own_apart rv7f hgrow2 hd1
          have hg7 := (rv7.lt g rfl).2
          have hd2 : ∀ q, (Value.slice (some ⟨g, 0, none⟩) (k + 1) cap).ownBlock = some q → (Value.slice (some ⟨g2, 0, none⟩) (k + 1) cap2).ownBlock = some q → False := fun q h1 h2 => by
            simp only [Value.ownBlock, Option.some.injEq] at h1 h2
            subst h1
            subst h2
            rcases hlies2 with h | h
            · exact hd1 _ h rfl
            · omega
          have hbg2 : Below W.heap.size _ w8 := ⟨hgrow2.os, hgrow2.tape, hgrow2.output, hgrow2.size, fun b hb2 => hgrow2.block b (Nat.lt_of_lt_of_le hb2 hbh2.size) (fun e => by have := (ru7f.lt _ e.symm).1; omega)⟩
          have hbz2 := hbh2.trans hbg2
          go_roundw
          case rel => exact ⟨k + 1, by go_num, by omega, by rw [htS.out, hsu.out]; exact rv8, by rw [htM.out, hma.out]; exact ru8, hd2, hbz2⟩
          case measure => simp [intOf]; omega
        · have hks2 : ¬ (k : Int) < f.srcs := by have := hsn.out; omega
          obtain ⟨j, hkk⟩ : ∃ j : Nat, k = j + sn := ⟨k - sn, by omega⟩
          have t1 : IntKind.i64.wrap ((k : Int) - f.srcs) = (j : Int) := by have := hsn.out; rw [IntWalk.i64_in _ (by omega)]; omega
          have hx : (timeL f bl)[k]? = some (timeS f bl k) := mapRange_at _ (by omega)
          have hy : (timeL f bl)[j]? = some (timeS f bl j) := mapRange_at _ (by omega)
          have hPr := hP.below hb
          obtain ⟨bP, oP, hA, -, hbP, z0, z1⟩ := hPr.bnd hx
          obtain ⟨bP2, oP2, hA2, -, -, y0, y1⟩ := hPr.bnd hy
          rw [hA] at hA2
          simp only [Option.some.injEq, Addr.mk.injEq, and_true] at hA2
          obtain ⟨rfl, rfl⟩ := hA2
          subst hA
          have h3 := htb.out k
          have h4 := htb.out j
          have hj2 : k - f.srcs.toNat = j := by omega
          have hsu0 : sureS f bl k = (!decide ((timeS f bl k).hi = -1) && decide ((timeS f bl k).hi - (timeS f bl j).lo < f.charge)) := by
            unfold sureS
            rw [hj2, decide_eq_true (show f.srcs ≤ (k : Int) by have := hsn.out; omega), Bool.true_and]
          have hma0 : mayS f bl k = (!decide ((timeS f bl k).lo = -1) && decide (0 < f.charge) && (decide ((timeS f bl j).hi = -1) || decide ((timeS f bl k).lo - (timeS f bl j).hi < f.charge))) := by
            unfold mayS
            rw [hj2, decide_eq_true (show f.srcs ≤ (k : Int) by have := hsn.out; omega), Bool.true_and]
          generalize (timeS f bl k).lo = yl at *
          generalize (timeS f bl k).hi = yh at *
          generalize (timeS f bl j).lo = xl at *
          generalize (timeS f bl j).hi = xh at *
          have hk0 : (0 : Int) ≤ (k : Int) := by omega
          have hk1 : (k : Int) < (np : Int) := by omega
          have hk2 : (0 : Int) ≤ (j : Int) := by omega
          have hk3 : (j : Int) < (np : Int) := by omega
          replace hkk := Lib.hid hkk
          replace hsu0 := Lib.hid hsu0
          replace hma0 := Lib.hid hma0
          replace hx := Lib.hid hx
          replace hy := Lib.hid hy
          have hSb : Hid (∀ W', Below wr.heap.size wr W' → (fun w' : World => (∀ i, w'.cell? ⟨w.heap.size, i, none⟩ = #[Value.int .i64 f.start, .int .i64 f.every, .int .i64 f.srcs, .int .i64 f.shots, .int .i64 f.charge][i]?) ∧ w'.cell? ⟨bP, oP + k * 2, none⟩ = some (.int .i64 yl) ∧ w'.cell? ⟨bP, oP + k * 2 + 1, none⟩ = some (.int .i64 yh) ∧ w'.cell? ⟨bP, oP + j * 2, none⟩ = some (.int .i64 xl) ∧ w'.cell? ⟨bP, oP + j * 2 + 1, none⟩ = some (.int .i64 xh)) W') := by
            show ∀ _, _
            intro W' hbb
            exact ⟨(k3r.below hbb).cell, (hbb.cell (p := ⟨bP, oP + k * 2, none⟩) hbP).trans z0, (hbb.cell (p := ⟨bP, oP + k * 2 + 1, none⟩) hbP).trans z1, (hbb.cell (p := ⟨bP, oP + j * 2, none⟩) hbP).trans y0, (hbb.cell (p := ⟨bP, oP + j * 2 + 1, none⟩) hbP).trans y1⟩
          clear z0 z1 y0 y1 hPr
          obtain ⟨c3, f3, l3⟩ := k3r.rules
          go_wp2_with fail
          clear c3 f3 l3
          refine wp_held_np (fun w' : World => (∀ i, w'.cell? ⟨w.heap.size, i, none⟩ = #[Value.int .i64 f.start, .int .i64 f.every, .int .i64 f.srcs, .int .i64 f.shots, .int .i64 f.charge][i]?) ∧ w'.cell? ⟨bP, oP + k * 2, none⟩ = some (.int .i64 yl) ∧ w'.cell? ⟨bP, oP + k * 2 + 1, none⟩ = some (.int .i64 yh) ∧ w'.cell? ⟨bP, oP + j * 2, none⟩ = some (.int .i64 xl) ∧ w'.cell? ⟨bP, oP + j * 2 + 1, none⟩ = some (.int .i64 xh)) (by kernel_rfl) ?_
          have hbz : Below wr.heap.size wr wr.drew := (Below.refl _ _).drew
          have hS := hSb.out _ hbz
          generalize wr.drew = wd at *
          refine held_take (i := 0) (v := ?_) 39 rfl rfl (by kernel_rfl) (by kernel_rfl) (by kernel_rfl) (fun _ _ _ h => h) (Or.inl ⟨by rfl, ?_⟩) hS ?_
          rotate_left 1
          · intro w' hSw
            try dsimp only at hSw
            obtain ⟨q1, q2, q3, q4, q5⟩ := hSw
            go_simp
            all_goals with_reducible rfl
          try simp only [Act.put, List.setIfInBounds_toArray, List.set_cons_zero, List.set_cons_succ]
          refine held_take (i := 1) (v := ?_) 40 rfl rfl (by kernel_rfl) (by kernel_rfl) (by kernel_rfl) (fun _ _ _ h => h) (Or.inl ⟨by rfl, ?_⟩) hS ?_
          rotate_left 1
          · intro w' hSw
            try dsimp only at hSw
            obtain ⟨q1, q2, q3, q4, q5⟩ := hSw
            go_simp
            all_goals with_reducible rfl
          try simp only [Act.put, List.setIfInBounds_toArray, List.set_cons_zero, List.set_cons_succ]
          refine held_take (i := 2) (v := ?_) 41 rfl rfl (by kernel_rfl) (by kernel_rfl) (by kernel_rfl) (fun _ _ _ h => h) (Or.inl ⟨by rfl, ?_⟩) hS ?_
          rotate_left 1
          · intro w' hSw
            try dsimp only at hSw
            obtain ⟨q1, q2, q3, q4, q5⟩ := hSw
            go_simp
            all_goals with_reducible rfl
          try simp only [Act.put, List.setIfInBounds_toArray, List.set_cons_zero, List.set_cons_succ]
          refine held_take (i := 3) (v := ?_) 42 rfl rfl (by kernel_rfl) (by kernel_rfl) (by kernel_rfl) (fun _ _ _ h => h) (Or.inl ⟨by rfl, ?_⟩) hS ?_
          rotate_left 1
          · intro w' hSw
            try dsimp only at hSw
            obtain ⟨q1, q2, q3, q4, q5⟩ := hSw
            go_simp
            all_goals with_reducible rfl
          try simp only [Act.put, List.setIfInBounds_toArray, List.set_cons_zero, List.set_cons_succ]
          refine held_take (i := 4) (v := ?_) 43 rfl rfl (by kernel_rfl) (by kernel_rfl) (by kernel_rfl) (fun _ _ _ h => h) (Or.inl ⟨by rfl, ?_⟩) hS ?_
          rotate_left 1
          · intro w' hSw
            try dsimp only at hSw
            obtain ⟨q1, q2, q3, q4, q5⟩ := hSw
            go_simp
            all_goals with_reducible rfl
          try simp only [Act.put, List.setIfInBounds_toArray, List.set_cons_zero, List.set_cons_succ]
          refine held_take (i := 5) (v := ?_) 44 rfl rfl (by kernel_rfl) (by kernel_rfl) (by kernel_rfl) (fun _ _ _ h => h) (Or.inl ⟨by rfl, ?_⟩) hS ?_
          rotate_left 1
          · intro w' hSw
            try dsimp only at hSw
            obtain ⟨q1, q2, q3, q4, q5⟩ := hSw
            go_simp
            all_goals with_reducible rfl
          try simp only [Act.put, List.setIfInBounds_toArray, List.set_cons_zero, List.set_cons_succ]
          refine held_take (i := 6) (v := ?_) 45 rfl rfl (by kernel_rfl) (by kernel_rfl) (by kernel_rfl) (fun _ _ _ h => h) (Or.inl ⟨by rfl, ?_⟩) hS ?_
          rotate_left 1
          · intro w' hSw
            try dsimp only at hSw
            obtain ⟨q1, q2, q3, q4, q5⟩ := hSw
            go_simp
            all_goals with_reducible rfl
          try simp only [Act.put, List.setIfInBounds_toArray, List.set_cons_zero, List.set_cons_succ]
          refine held_take (i := 7) (v := ?_) 46 rfl rfl (by kernel_rfl) (by kernel_rfl) (by kernel_rfl) (fun _ _ _ h => h) (Or.inl ⟨by rfl, ?_⟩) hS ?_
          rotate_left 1
          · intro w' hSw
            try dsimp only at hSw
            obtain ⟨q1, q2, q3, q4, q5⟩ := hSw
            go_simp
            all_goals with_reducible rfl
          try simp only [Act.put, List.setIfInBounds_toArray, List.set_cons_zero, List.set_cons_succ]
          refine held_take (i := 8) (v := ?_) 47 rfl rfl (by kernel_rfl) (by kernel_rfl) (by kernel_rfl) (fun _ _ _ h => h) (Or.inl ⟨by rfl, ?_⟩) hS ?_
          rotate_left 1
          · intro w' hSw
            try dsimp only at hSw
            obtain ⟨q1, q2, q3, q4, q5⟩ := hSw
            go_simp
            all_goals with_reducible rfl
          try simp only [Act.put, List.setIfInBounds_toArray, List.set_cons_zero, List.set_cons_succ]
          refine held_take (i := 9) (v := ?_) 48 rfl rfl (by kernel_rfl) (by kernel_rfl) (by kernel_rfl) (fun _ _ _ h => h) (Or.inl ⟨by rfl, ?_⟩) hS ?_
          rotate_left 1
          · intro w' hSw
            try dsimp only at hSw
            obtain ⟨q1, q2, q3, q4, q5⟩ := hSw
            go_simp
            all_goals with_reducible rfl
          try simp only [Act.put, List.setIfInBounds_toArray, List.set_cons_zero, List.set_cons_succ]
          refine held_take (i := 10) (v := ?_) 49 rfl rfl (by kernel_rfl) (by kernel_rfl) (by kernel_rfl) (fun _ _ _ h => h) (Or.inl ⟨by rfl, ?_⟩) hS ?_
          rotate_left 1
          · intro w' hSw
            try dsimp only at hSw
            obtain ⟨q1, q2, q3, q4, q5⟩ := hSw
            go_simp
            all_goals with_reducible rfl
          try simp only [Act.put, List.setIfInBounds_toArray, List.set_cons_zero, List.set_cons_succ]
          clear hS
          refine wpAnyH_fin (f := fun a (q : Nat × Nat) => ((a.put (some 12) (.pointer (some ⟨q.1, 0, none⟩))).put (some 13) (.pointer (some ⟨q.2, 0, none⟩)))) (B := fun q W' => Blk W' q.1 62 #[.int .i64 xl, .int .i64 xh] ∧ Blk W' q.2 62 #[.int .i64 yl, .int .i64 yh] ∧ q.1 ≠ q.2 ∧ wr.heap.size ≤ q.1 ∧ wr.heap.size ≤ q.2 ∧ Below wr.heap.size wr W') ?_ (fun hrest => ?_)
          · rintro ⟨g9, g10⟩ W9 ⟨k9, k10, hn9, hg9, hg10, hb9⟩
            try simp only [Act.put, List.setIfInBounds_toArray, List.set_cons_zero, List.set_cons_succ]
            refine noPanic_normal ?_
            dsimp only at k9 k10 hn9 hg9 hg10
            clear hbz hSb
            have hg9w : ∀ q, u9.ownBlock = some q → q < wr.heap.size := fun q e => (rv.lt q e).2
            replace rv := ownsRow_below rv hb9
            replace ru := ownsRow_below ru hb9
            have k39 := k3r.below hb9
            replace hb := hb.trans (hb9.mono hb.size)
            clear hb9 k3r
            have hk3w := k3.lt
            have u1 := IntWalk.i64_in (yh - xl) (by omega)
            have u2 := IntWalk.i64_in (yl - xh) (by omega)
            obtain ⟨c9, f9, l9⟩ := k9.rules
            obtain ⟨c10, f10, l10⟩ := k10.rules
            obtain ⟨c3, f3, l3⟩ := k39.rules
            by_cases q1 : 0 ≤ yh
            · have q1' : decide (yh ≥ 0) = true := decide_eq_true q1
              have hsu : Hid (sureS f bl k = decide (yh - xl < f.charge)) := by show _ = _; rw [hsu0.out, decide_eq_false (show ¬ yh = -1 by omega)]; rfl
              by_cases r1 : 0 ≤ yl
              · have r1' : decide (yl ≥ 0) = true := decide_eq_true r1
                by_cases r2 : 0 < f.charge
                · have r2' : decide (f.charge > 0) = true := decide_eq_true r2
                  by_cases r3 : xh < 0
                  · have r3' : decide (xh < 0) = true := decide_eq_true r3
                    have hma : Hid (mayS f bl k = true) := by show _ = _; rw [hma0.out, decide_eq_false (show ¬ yl = -1 by omega), decide_eq_true r2, decide_eq_true (show xh = -1 by omega)]; rfl
                    have hnews : ∀ (j : Nat) (u : Value), ([.bool (decide (yh - xl < f.charge))] : List Value)[j]? = some u → (W9.alloc (.cells #[.bool (decide (yh - xl < f.charge))] 4)).cell? ((⟨W9.heap.size, 0, none⟩ : Addr).add j) = some u :=
                      World.news_of_block (cs := #[.bool (decide (yh - xl < f.charge))]) (World.alloc_heap_new W9 _)
                    have rvf := rv.alloc (.cells #[.bool (decide (yh - xl < f.charge))] 4)
                    have ruf := ru.alloc (.cells #[.bool (decide (yh - xl < f.charge))] 4)
                    have hbf := hb.alloc hb.size (.cells #[.bool (decide (yh - xl < f.charge))] 4)
                    have hvlt := fun q e => rvf.lt q e
                    have hult := fun q e => ru.lt q e
                    go_wp2_with (at_builtin; first | (refine wpList_append_lies _ rfl (.tmp 50) (.tmp 64) 51 rfl W.heap.size 4 i0 (.bool false) 1 1 Try.underlying51 hi0 hz0 hz1 hz2 rfl (by decide) u9 k (((sureL f bl).take k).map Value.bool) rfl rvf ⟨W9.heap.size, 0, none⟩ 1 1 [.bool (decide (yh - xl < f.charge))] rfl rfl hnews (by simp [Value.oneCell']) (by decide) hbig1.out hbig2.out hbf.size (W9.heap.size + 1) (by simp) ?_; intro g cap w7 rv7 hgrow hlies hlt7; have ru7 := own_apart ruf hgrow hvu.out; have hbg : Below W.heap.size _ w7 := ⟨hgrow.os, hgrow.tape, hgrow.output, hgrow.size, fun b hb2 => hgrow.block b (Nat.lt_of_lt_of_le hb2 hbf.size) (fun e => by have := (hvlt _ e.symm).1; omega)⟩; have hbh := hbf.trans hbg; have ru7f := ru7.alloc (.cells #[.bool (true)] 4); have rv7f := rv7.alloc (.cells #[.bool (true)] 4); have hbh2 := hbh.alloc hbh.size (.cells #[.bool (true)] 4); have k9' := (k9.below ((Below.refl _ W9).alloc (Nat.le_refl _) (.cells #[.bool (decide (yh - xl < f.charge))] 4))).grown hgrow (fun e => by have := hvlt _ e.symm; have := k9.lt; have := hg9w _ e.symm; omega); have k10' := (k10.below ((Below.refl _ W9).alloc (Nat.le_refl _) (.cells #[.bool (decide (yh - xl < f.charge))] 4))).grown hgrow (fun e => by have := hg9w _ e.symm; omega); have k3' := (k39.below ((Below.refl _ W9).alloc (Nat.le_refl _) (.cells #[.bool (decide (yh - xl < f.charge))] 4))).grown hgrow (fun e => by have := hg9w _ e.symm; have := (hvlt _ e.symm).1; omega); clear c9 f9 l9 c10 f10 l10 c3 f3 l3; obtain ⟨c9, f9, l9⟩ := k9'.rules; obtain ⟨c10, f10, l10⟩ := k10'.rules; obtain ⟨c3, f3, l3⟩ := k3'.rules) | (refine wpList_append_lies _ rfl (.tmp 66) (.tmp 90) 51 rfl W.heap.size 4 i0 (.bool false) 1 1 Try.underlying51 hi0 hz0 hz1 hz2 rfl (by decide) u10 k (((mayL f bl).take k).map Value.bool) rfl ru7f ⟨w7.heap.size, 0, none⟩ 1 1 [.bool (true)] rfl rfl (World.news_of_block (cs := #[.bool (true)]) (World.alloc_heap_new w7 _)) (by simp [Value.oneCell']) (by decide) hbig1.out hbig2.out hbh2.size (w7.heap.size + 1) (by simp) ?_; intro g2 cap2 w8 ru8 hgrow2 hlies2 hlt8))
                    have hd1 : ∀ q, u10.ownBlock = some q → (Value.slice (some ⟨g, 0, none⟩) (k + 1) cap).ownBlock = some q → False := fun q h1 h2 => by
                      simp only [Value.ownBlock, Option.some.injEq] at h2
                      subst h2
                      rcases hlies with h | h
                      · exact hvu.out _ h h1
                      · have := hult _ h1; omega
                    have rv8 := own_apart rv7f hgrow2 hd1
                    have hg7 := (rv7.lt g rfl).2
                    have hd2 : ∀ q, (Value.slice (some ⟨g, 0, none⟩) (k + 1) cap).ownBlock = some q → (Value.slice (some ⟨g2, 0, none⟩) (k + 1) cap2).ownBlock = some q → False := fun q h1 h2 => by
                      simp only [Value.ownBlock, Option.some.injEq] at h1 h2
                      subst h1
                      subst h2
                      rcases hlies2 with h | h
                      · exact hd1 _ h rfl
                      · omega
                    have hbg2 : Below W.heap.size _ w8 := ⟨hgrow2.os, hgrow2.tape, hgrow2.output, hgrow2.size, fun b hb2 => hgrow2.block b (Nat.lt_of_lt_of_le hb2 hbh2.size) (fun e => by have := (ru7f.lt _ e.symm).1; omega)⟩
                    have hbz2 := hbh2.trans hbg2
                    go_roundw
                    case rel => exact ⟨k + 1, by go_num, by omega, by rw [htS.out, hsu.out]; exact rv8, by rw [htM.out, hma.out]; exact ru8, hd2, hbz2⟩
                    case measure => simp [intOf]; omega
                  · have r3' : decide (xh < 0) = false := decide_eq_false r3
                    have hma : Hid (mayS f bl k = decide (yl - xh < f.charge)) := by show _ = _; rw [hma0.out, decide_eq_false (show ¬ yl = -1 by omega), decide_eq_true r2, decide_eq_false (show ¬ xh = -1 by omega)]; rfl
                    have hnews : ∀ (j : Nat) (u : Value), ([.bool (decide (yh - xl < f.charge))] : List Value)[j]? = some u → (W9.alloc (.cells #[.bool (decide (yh - xl < f.charge))] 4)).cell? ((⟨W9.heap.size, 0, none⟩ : Addr).add j) = some u :=
                      World.news_of_block (cs := #[.bool (decide (yh - xl < f.charge))]) (World.alloc_heap_new W9 _)
                    have rvf := rv.alloc (.cells #[.bool (decide (yh - xl < f.charge))] 4)
                    have ruf := ru.alloc (.cells #[.bool (decide (yh - xl < f.charge))] 4)
                    have hbf := hb.alloc hb.size (.cells #[.bool (decide (yh - xl < f.charge))] 4)
                    have hvlt := fun q e => rvf.lt q e
                    have hult := fun q e => ru.lt q e
                    go_wp2_with (at_builtin; first | (refine wpList_append_lies _ rfl (.tmp 50) (.tmp 64) 51 rfl W.heap.size 4 i0 (.bool false) 1 1 Try.underlying51 hi0 hz0 hz1 hz2 rfl (by decide) u9 k (((sureL f bl).take k).map Value.bool) rfl rvf ⟨W9.heap.size, 0, none⟩ 1 1 [.bool (decide (yh - xl < f.charge))] rfl rfl hnews (by simp [Value.oneCell']) (by decide) hbig1.out hbig2.out hbf.size (W9.heap.size + 1) (by simp) ?_; intro g cap w7 rv7 hgrow hlies hlt7; have ru7 := own_apart ruf hgrow hvu.out; have hbg : Below W.heap.size _ w7 := ⟨hgrow.os, hgrow.tape, hgrow.output, hgrow.size, fun b hb2 => hgrow.block b (Nat.lt_of_lt_of_le hb2 hbf.size) (fun e => by have := (hvlt _ e.symm).1; omega)⟩; have hbh := hbf.trans hbg; have ru7f := ru7.alloc (.cells #[.bool (decide (yl - xh < f.charge))] 4); have rv7f := rv7.alloc (.cells #[.bool (decide (yl - xh < f.charge))] 4); have hbh2 := hbh.alloc hbh.size (.cells #[.bool (decide (yl - xh < f.charge))] 4); have k9' := (k9.below ((Below.refl _ W9).alloc (Nat.le_refl _) (.cells #[.bool (decide (yh - xl < f.charge))] 4))).grown hgrow (fun e => by have := hvlt _ e.symm; have := k9.lt; have := hg9w _ e.symm; omega); have k10' := (k10.below ((Below.refl _ W9).alloc (Nat.le_refl _) (.cells #[.bool (decide (yh - xl < f.charge))] 4))).grown hgrow (fun e => by have := hg9w _ e.symm; omega); have k3' := (k39.below ((Below.refl _ W9).alloc (Nat.le_refl _) (.cells #[.bool (decide (yh - xl < f.charge))] 4))).grown hgrow (fun e => by have := hg9w _ e.symm; have := (hvlt _ e.symm).1; omega); clear c9 f9 l9 c10 f10 l10 c3 f3 l3; obtain ⟨c9, f9, l9⟩ := k9'.rules; obtain ⟨c10, f10, l10⟩ := k10'.rules; obtain ⟨c3, f3, l3⟩ := k3'.rules) | (refine wpList_append_lies _ rfl (.tmp 66) (.tmp 90) 51 rfl W.heap.size 4 i0 (.bool false) 1 1 Try.underlying51 hi0 hz0 hz1 hz2 rfl (by decide) u10 k (((mayL f bl).take k).map Value.bool) rfl ru7f ⟨w7.heap.size, 0, none⟩ 1 1 [.bool (decide (yl - xh < f.charge))] rfl rfl (World.news_of_block (cs := #[.bool (decide (yl - xh < f.charge))]) (World.alloc_heap_new w7 _)) (by simp [Value.oneCell']) (by decide) hbig1.out hbig2.out hbh2.size (w7.heap.size + 1) (by simp) ?_; intro g2 cap2 w8 ru8 hgrow2 hlies2 hlt8))
                    have hd1 : ∀ q, u10.ownBlock = some q → (Value.slice (some ⟨g, 0, none⟩) (k + 1) cap).ownBlock = some q → False := fun q h1 h2 => by
                      simp only [Value.ownBlock, Option.some.injEq] at h2
                      subst h2
                      rcases hlies with h | h
                      · exact hvu.out _ h h1
                      · have := hult _ h1; omega
                    have rv8 := own_apart rv7f hgrow2 hd1
                    have hg7 := (rv7.lt g rfl).2
                    have hd2 : ∀ q, (Value.slice (some ⟨g, 0, none⟩) (k + 1) cap).ownBlock = some q → (Value.slice (some ⟨g2, 0, none⟩) (k + 1) cap2).ownBlock = some q → False := fun q h1 h2 => by
                      simp only [Value.ownBlock, Option.some.injEq] at h1 h2
                      subst h1
                      subst h2
                      rcases hlies2 with h | h
                      · exact hd1 _ h rfl
                      · omega
                    have hbg2 : Below W.heap.size _ w8 := ⟨hgrow2.os, hgrow2.tape, hgrow2.output, hgrow2.size, fun b hb2 => hgrow2.block b (Nat.lt_of_lt_of_le hb2 hbh2.size) (fun e => by have := (ru7f.lt _ e.symm).1; omega)⟩
                    have hbz2 := hbh2.trans hbg2
                    go_roundw
                    case rel => exact ⟨k + 1, by go_num, by omega, by rw [htS.out, hsu.out]; exact rv8, by rw [htM.out, hma.out]; exact ru8, hd2, hbz2⟩
                    case measure => simp [intOf]; omega
                · have r2' : decide (f.charge > 0) = false := decide_eq_false r2
                  have hma : Hid (mayS f bl k = false) := by show _ = _; rw [hma0.out, decide_eq_false r2]; simp
                  have hnews : ∀ (j : Nat) (u : Value), ([.bool (decide (yh - xl < f.charge))] : List Value)[j]? = some u → (W9.alloc (.cells #[.bool (decide (yh - xl < f.charge))] 4)).cell? ((⟨W9.heap.size, 0, none⟩ : Addr).add j) = some u :=
                    World.news_of_block (cs := #[.bool (decide (yh - xl < f.charge))]) (World.alloc_heap_new W9 _)
                  have rvf := rv.alloc (.cells #[.bool (decide (yh - xl < f.charge))] 4)
                  have ruf := ru.alloc (.cells #[.bool (decide (yh - xl < f.charge))] 4)
                  have hbf := hb.alloc hb.size (.cells #[.bool (decide (yh - xl < f.charge))] 4)
                  have hvlt := fun q e => rvf.lt q e
                  have hult := fun q e => ru.lt q e
                  go_wp2_with (at_builtin; first | (refine wpList_append_lies _ rfl (.tmp 50) (.tmp 64) 51 rfl W.heap.size 4 i0 (.bool false) 1 1 Try.underlying51 hi0 hz0 hz1 hz2 rfl (by decide) u9 k (((sureL f bl).take k).map Value.bool) rfl rvf ⟨W9.heap.size, 0, none⟩ 1 1 [.bool (decide (yh - xl < f.charge))] rfl rfl hnews (by simp [Value.oneCell']) (by decide) hbig1.out hbig2.out hbf.size (W9.heap.size + 1) (by simp) ?_; intro g cap w7 rv7 hgrow hlies hlt7; have ru7 := own_apart ruf hgrow hvu.out; have hbg : Below W.heap.size _ w7 := ⟨hgrow.os, hgrow.tape, hgrow.output, hgrow.size, fun b hb2 => hgrow.block b (Nat.lt_of_lt_of_le hb2 hbf.size) (fun e => by have := (hvlt _ e.symm).1; omega)⟩; have hbh := hbf.trans hbg; have ru7f := ru7.alloc (.cells #[.bool (false)] 4); have rv7f := rv7.alloc (.cells #[.bool (false)] 4); have hbh2 := hbh.alloc hbh.size (.cells #[.bool (false)] 4); have k9' := (k9.below ((Below.refl _ W9).alloc (Nat.le_refl _) (.cells #[.bool (decide (yh - xl < f.charge))] 4))).grown hgrow (fun e => by have := hvlt _ e.symm; have := k9.lt; have := hg9w _ e.symm; omega); have k10' := (k10.below ((Below.refl _ W9).alloc (Nat.le_refl _) (.cells #[.bool (decide (yh - xl < f.charge))] 4))).grown hgrow (fun e => by have := hg9w _ e.symm; omega); have k3' := (k39.below ((Below.refl _ W9).alloc (Nat.le_refl _) (.cells #[.bool (decide (yh - xl < f.charge))] 4))).grown hgrow (fun e => by have := hg9w _ e.symm; have := (hvlt _ e.symm).1; omega); clear c9 f9 l9 c10 f10 l10 c3 f3 l3; obtain ⟨c9, f9, l9⟩ := k9'.rules; obtain ⟨c10, f10, l10⟩ := k10'.rules; obtain ⟨c3, f3, l3⟩ := k3'.rules) | (refine wpList_append_lies _ rfl (.tmp 66) (.tmp 90) 51 rfl W.heap.size 4 i0 (.bool false) 1 1 Try.underlying51 hi0 hz0 hz1 hz2 rfl (by decide) u10 k (((mayL f bl).take k).map Value.bool) rfl ru7f ⟨w7.heap.size, 0, none⟩ 1 1 [.bool (false)] rfl rfl (World.news_of_block (cs := #[.bool (false)]) (World.alloc_heap_new w7 _)) (by simp [Value.oneCell']) (by decide) hbig1.out hbig2.out hbh2.size (w7.heap.size + 1) (by simp) ?_; intro g2 cap2 w8 ru8 hgrow2 hlies2 hlt8))
                  have hd1 : ∀ q, u10.ownBlock = some q → (Value.slice (some ⟨g, 0, none⟩) (k + 1) cap).ownBlock = some q → False := fun q h1 h2 => by
                    simp only [Value.ownBlock, Option.some.injEq] at h2
                    subst h2
                    rcases hlies with h | h
                    · exact hvu.out _ h h1
                    · have := hult _ h1; omega
                  have rv8 := own_apart rv7f hgrow2 hd1
                  have hg7 := (rv7.lt g rfl).2
                  have hd2 : ∀ q, (Value.slice (some ⟨g, 0, none⟩) (k + 1) cap).ownBlock = some q → (Value.slice (some ⟨g2, 0, none⟩) (k + 1) cap2).ownBlock = some q → False := fun q h1 h2 => by
                    simp only [Value.ownBlock, Option.some.injEq] at h1 h2
                    subst h1
                    subst h2
                    rcases hlies2 with h | h
                    · exact hd1 _ h rfl
                    · omega
                  have hbg2 : Below W.heap.size _ w8 := ⟨hgrow2.os, hgrow2.tape, hgrow2.output, hgrow2.size, fun b hb2 => hgrow2.block b (Nat.lt_of_lt_of_le hb2 hbh2.size) (fun e => by have := (ru7f.lt _ e.symm).1; omega)⟩
                  have hbz2 := hbh2.trans hbg2
                  go_roundw
                  case rel => exact ⟨k + 1, by go_num, by omega, by rw [htS.out, hsu.out]; exact rv8, by rw [htM.out, hma.out]; exact ru8, hd2, hbz2⟩
                  case measure => simp [intOf]; omega
              · have r1' : decide (yl ≥ 0) = false := decide_eq_false r1
                have hma : Hid (mayS f bl k = false) := by show _ = _; rw [hma0.out, decide_eq_true (show yl = -1 by omega)]; rfl
                have hnews : ∀ (j : Nat) (u : Value), ([.bool (decide (yh - xl < f.charge))] : List Value)[j]? = some u → (W9.alloc (.cells #[.bool (decide (yh - xl < f.charge))] 4)).cell? ((⟨W9.heap.size, 0, none⟩ : Addr).add j) = some u :=
                  World.news_of_block (cs := #[.bool (decide (yh - xl < f.charge))]) (World.alloc_heap_new W9 _)
                have rvf := rv.alloc (.cells #[.bool (decide (yh - xl < f.charge))] 4)
                have ruf := ru.alloc (.cells #[.bool (decide (yh - xl < f.charge))] 4)
                have hbf := hb.alloc hb.size (.cells #[.bool (decide (yh - xl < f.charge))] 4)
                have hvlt := fun q e => rvf.lt q e
                have hult := fun q e => ru.lt q e
                go_wp2_with (at_builtin; first | (refine wpList_append_lies _ rfl (.tmp 50) (.tmp 64) 51 rfl W.heap.size 4 i0 (.bool false) 1 1 Try.underlying51 hi0 hz0 hz1 hz2 rfl (by decide) u9 k (((sureL f bl).take k).map Value.bool) rfl rvf ⟨W9.heap.size, 0, none⟩ 1 1 [.bool (decide (yh - xl < f.charge))] rfl rfl hnews (by simp [Value.oneCell']) (by decide) hbig1.out hbig2.out hbf.size (W9.heap.size + 1) (by simp) ?_; intro g cap w7 rv7 hgrow hlies hlt7; have ru7 := own_apart ruf hgrow hvu.out; have hbg : Below W.heap.size _ w7 := ⟨hgrow.os, hgrow.tape, hgrow.output, hgrow.size, fun b hb2 => hgrow.block b (Nat.lt_of_lt_of_le hb2 hbf.size) (fun e => by have := (hvlt _ e.symm).1; omega)⟩; have hbh := hbf.trans hbg; have ru7f := ru7.alloc (.cells #[.bool (false)] 4); have rv7f := rv7.alloc (.cells #[.bool (false)] 4); have hbh2 := hbh.alloc hbh.size (.cells #[.bool (false)] 4); have k9' := (k9.below ((Below.refl _ W9).alloc (Nat.le_refl _) (.cells #[.bool (decide (yh - xl < f.charge))] 4))).grown hgrow (fun e => by have := hvlt _ e.symm; have := k9.lt; have := hg9w _ e.symm; omega); have k10' := (k10.below ((Below.refl _ W9).alloc (Nat.le_refl _) (.cells #[.bool (decide (yh - xl < f.charge))] 4))).grown hgrow (fun e => by have := hg9w _ e.symm; omega); have k3' := (k39.below ((Below.refl _ W9).alloc (Nat.le_refl _) (.cells #[.bool (decide (yh - xl < f.charge))] 4))).grown hgrow (fun e => by have := hg9w _ e.symm; have := (hvlt _ e.symm).1; omega); clear c9 f9 l9 c10 f10 l10 c3 f3 l3; obtain ⟨c9, f9, l9⟩ := k9'.rules; obtain ⟨c10, f10, l10⟩ := k10'.rules; obtain ⟨c3, f3, l3⟩ := k3'.rules) | (refine wpList_append_lies _ rfl (.tmp 66) (.tmp 90) 51 rfl W.heap.size 4 i0 (.bool false) 1 1 Try.underlying51 hi0 hz0 hz1 hz2 rfl (by decide) u10 k (((mayL f bl).take k).map Value.bool) rfl ru7f ⟨w7.heap.size, 0, none⟩ 1 1 [.bool (false)] rfl rfl (World.news_of_block (cs := #[.bool (false)]) (World.alloc_heap_new w7 _)) (by simp [Value.oneCell']) (by decide) hbig1.out hbig2.out hbh2.size (w7.heap.size + 1) (by simp) ?_; intro g2 cap2 w8 ru8 hgrow2 hlies2 hlt8))
                have hd1 : ∀ q, u10.ownBlock = some q → (Value.slice (some ⟨g, 0, none⟩) (k + 1) cap).ownBlock = some q → False := fun q h1 h2 => by
                  simp only [Value.ownBlock, Option.some.injEq] at h2
                  subst h2
                  rcases hlies with h | h
                  · exact hvu.out _ h h1
                  · have := hult _ h1; omega
                have rv8 := own_apart rv7f hgrow2 hd1
                have hg7 := (rv7.lt g rfl).2
                have hd2 : ∀ q, (Value.slice (some ⟨g, 0, none⟩) (k + 1) cap).ownBlock = some q → (Value.slice (some ⟨g2, 0, none⟩) (k + 1) cap2).ownBlock = some q → False := fun q h1 h2 => by
                  simp only [Value.ownBlock, Option.some.injEq] at h1 h2
                  subst h1
                  subst h2
                  rcases hlies2 with h | h
                  · exact hd1 _ h rfl
                  · omega
                have hbg2 : Below W.heap.size _ w8 := ⟨hgrow2.os, hgrow2.tape, hgrow2.output, hgrow2.size, fun b hb2 => hgrow2.block b (Nat.lt_of_lt_of_le hb2 hbh2.size) (fun e => by have := (ru7f.lt _ e.symm).1; omega)⟩
                have hbz2 := hbh2.trans hbg2
                go_roundw
                case rel => exact ⟨k + 1, by go_num, by omega, by rw [htS.out, hsu.out]; exact rv8, by rw [htM.out, hma.out]; exact ru8, hd2, hbz2⟩
                case measure => simp [intOf]; omega
            · have q1' : decide (yh ≥ 0) = false := decide_eq_false q1
              have hsu : Hid (sureS f bl k = false) := by show _ = _; rw [hsu0.out, decide_eq_true (show yh = -1 by omega)]; rfl
              by_cases r1 : 0 ≤ yl
              · have r1' : decide (yl ≥ 0) = true := decide_eq_true r1
                by_cases r2 : 0 < f.charge
                · have r2' : decide (f.charge > 0) = true := decide_eq_true r2
                  by_cases r3 : xh < 0
                  · have r3' : decide (xh < 0) = true := decide_eq_true r3
                    have hma : Hid (mayS f bl k = true) := by show _ = _; rw [hma0.out, decide_eq_false (show ¬ yl = -1 by omega), decide_eq_true r2, decide_eq_true (show xh = -1 by omega)]; rfl
                    have hnews : ∀ (j : Nat) (u : Value), ([.bool (false)] : List Value)[j]? = some u → (W9.alloc (.cells #[.bool (false)] 4)).cell? ((⟨W9.heap.size, 0, none⟩ : Addr).add j) = some u :=
                      World.news_of_block (cs := #[.bool (false)]) (World.alloc_heap_new W9 _)
                    have rvf := rv.alloc (.cells #[.bool (false)] 4)
                    have ruf := ru.alloc (.cells #[.bool (false)] 4)
                    have hbf := hb.alloc hb.size (.cells #[.bool (false)] 4)
                    have hvlt := fun q e => rvf.lt q e
                    have hult := fun q e => ru.lt q e
                    go_wp2_with (at_builtin; first | (refine wpList_append_lies _ rfl (.tmp 50) (.tmp 64) 51 rfl W.heap.size 4 i0 (.bool false) 1 1 Try.underlying51 hi0 hz0 hz1 hz2 rfl (by decide) u9 k (((sureL f bl).take k).map Value.bool) rfl rvf ⟨W9.heap.size, 0, none⟩ 1 1 [.bool (false)] rfl rfl hnews (by simp [Value.oneCell']) (by decide) hbig1.out hbig2.out hbf.size (W9.heap.size + 1) (by simp) ?_; intro g cap w7 rv7 hgrow hlies hlt7; have ru7 := own_apart ruf hgrow hvu.out; have hbg : Below W.heap.size _ w7 := ⟨hgrow.os, hgrow.tape, hgrow.output, hgrow.size, fun b hb2 => hgrow.block b (Nat.lt_of_lt_of_le hb2 hbf.size) (fun e => by have := (hvlt _ e.symm).1; omega)⟩; have hbh := hbf.trans hbg; have ru7f := ru7.alloc (.cells #[.bool (true)] 4); have rv7f := rv7.alloc (.cells #[.bool (true)] 4); have hbh2 := hbh.alloc hbh.size (.cells #[.bool (true)] 4); have k9' := (k9.below ((Below.refl _ W9).alloc (Nat.le_refl _) (.cells #[.bool (false)] 4))).grown hgrow (fun e => by have := hvlt _ e.symm; have := k9.lt; have := hg9w _ e.symm; omega); have k10' := (k10.below ((Below.refl _ W9).alloc (Nat.le_refl _) (.cells #[.bool (false)] 4))).grown hgrow (fun e => by have := hg9w _ e.symm; omega); have k3' := (k39.below ((Below.refl _ W9).alloc (Nat.le_refl _) (.cells #[.bool (false)] 4))).grown hgrow (fun e => by have := hg9w _ e.symm; have := (hvlt _ e.symm).1; omega); clear c9 f9 l9 c10 f10 l10 c3 f3 l3; obtain ⟨c9, f9, l9⟩ := k9'.rules; obtain ⟨c10, f10, l10⟩ := k10'.rules; obtain ⟨c3, f3, l3⟩ := k3'.rules) | (refine wpList_append_lies _ rfl (.tmp 66) (.tmp 90) 51 rfl W.heap.size 4 i0 (.bool false) 1 1 Try.underlying51 hi0 hz0 hz1 hz2 rfl (by decide) u10 k (((mayL f bl).take k).map Value.bool) rfl ru7f ⟨w7.heap.size, 0, none⟩ 1 1 [.bool (true)] rfl rfl (World.news_of_block (cs := #[.bool (true)]) (World.alloc_heap_new w7 _)) (by simp [Value.oneCell']) (by decide) hbig1.out hbig2.out hbh2.size (w7.heap.size + 1) (by simp) ?_; intro g2 cap2 w8 ru8 hgrow2 hlies2 hlt8))
                    have hd1 : ∀ q, u10.ownBlock = some q → (Value.slice (some ⟨g, 0, none⟩) (k + 1) cap).ownBlock = some q → False := fun q h1 h2 => by
                      simp only [Value.ownBlock, Option.some.injEq] at h2
                      subst h2
                      rcases hlies with h | h
                      · exact hvu.out _ h h1
                      · have := hult _ h1; omega
                    have rv8 := own_apart rv7f hgrow2 hd1
                    have hg7 := (rv7.lt g rfl).2
                    have hd2 : ∀ q, (Value.slice (some ⟨g, 0, none⟩) (k + 1) cap).ownBlock = some q → (Value.slice (some ⟨g2, 0, none⟩) (k + 1) cap2).ownBlock = some q → False := fun q h1 h2 => by
                      simp only [Value.ownBlock, Option.some.injEq] at h1 h2
                      subst h1
                      subst h2
                      rcases hlies2 with h | h
                      · exact hd1 _ h rfl
                      · omega
                    have hbg2 : Below W.heap.size _ w8 := ⟨hgrow2.os, hgrow2.tape, hgrow2.output, hgrow2.size, fun b hb2 => hgrow2.block b (Nat.lt_of_lt_of_le hb2 hbh2.size) (fun e => by have := (ru7f.lt _ e.symm).1; omega)⟩
                    have hbz2 := hbh2.trans hbg2
                    go_roundw
                    case rel => exact ⟨k + 1, by go_num, by omega, by rw [htS.out, hsu.out]; exact rv8, by rw [htM.out, hma.out]; exact ru8, hd2, hbz2⟩
                    case measure => simp [intOf]; omega
                  · have r3' : decide (xh < 0) = false := decide_eq_false r3
                    have hma : Hid (mayS f bl k = decide (yl - xh < f.charge)) := by show _ = _; rw [hma0.out, decide_eq_false (show ¬ yl = -1 by omega), decide_eq_true r2, decide_eq_false (show ¬ xh = -1 by omega)]; rfl
                    have hnews : ∀ (j : Nat) (u : Value), ([.bool (false)] : List Value)[j]? = some u → (W9.alloc (.cells #[.bool (false)] 4)).cell? ((⟨W9.heap.size, 0, none⟩ : Addr).add j) = some u :=
                      World.news_of_block (cs := #[.bool (false)]) (World.alloc_heap_new W9 _)
                    have rvf := rv.alloc (.cells #[.bool (false)] 4)
                    have ruf := ru.alloc (.cells #[.bool (false)] 4)
                    have hbf := hb.alloc hb.size (.cells #[.bool (false)] 4)
                    have hvlt := fun q e => rvf.lt q e
                    have hult := fun q e => ru.lt q e
                    go_wp2_with (at_builtin; first | (refine wpList_append_lies _ rfl (.tmp 50) (.tmp 64) 51 rfl W.heap.size 4 i0 (.bool false) 1 1 Try.underlying51 hi0 hz0 hz1 hz2 rfl (by decide) u9 k (((sureL f bl).take k).map Value.bool) rfl rvf ⟨W9.heap.size, 0, none⟩ 1 1 [.bool (false)] rfl rfl hnews (by simp [Value.oneCell']) (by decide) hbig1.out hbig2.out hbf.size (W9.heap.size + 1) (by simp) ?_; intro g cap w7 rv7 hgrow hlies hlt7; have ru7 := own_apart ruf hgrow hvu.out; have hbg : Below W.heap.size _ w7 := ⟨hgrow.os, hgrow.tape, hgrow.output, hgrow.size, fun b hb2 => hgrow.block b (Nat.lt_of_lt_of_le hb2 hbf.size) (fun e => by have := (hvlt _ e.symm).1; omega)⟩; have hbh := hbf.trans hbg; have ru7f := ru7.alloc (.cells #[.bool (decide (yl - xh < f.charge))] 4); have rv7f := rv7.alloc (.cells #[.bool (decide (yl - xh < f.charge))] 4); have hbh2 := hbh.alloc hbh.size (.cells #[.bool (decide (yl - xh < f.charge))] 4); have k9' := (k9.below ((Below.refl _ W9).alloc (Nat.le_refl _) (.cells #[.bool (false)] 4))).grown hgrow (fun e => by have := hvlt _ e.symm; have := k9.lt; have := hg9w _ e.symm; omega); have k10' := (k10.below ((Below.refl _ W9).alloc (Nat.le_refl _) (.cells #[.bool (false)] 4))).grown hgrow (fun e => by have := hg9w _ e.symm; omega); have k3' := (k39.below ((Below.refl _ W9).alloc (Nat.le_refl _) (.cells #[.bool (false)] 4))).grown hgrow (fun e => by have := hg9w _ e.symm; have := (hvlt _ e.symm).1; omega); clear c9 f9 l9 c10 f10 l10 c3 f3 l3; obtain ⟨c9, f9, l9⟩ := k9'.rules; obtain ⟨c10, f10, l10⟩ := k10'.rules; obtain ⟨c3, f3, l3⟩ := k3'.rules) | (refine wpList_append_lies _ rfl (.tmp 66) (.tmp 90) 51 rfl W.heap.size 4 i0 (.bool false) 1 1 Try.underlying51 hi0 hz0 hz1 hz2 rfl (by decide) u10 k (((mayL f bl).take k).map Value.bool) rfl ru7f ⟨w7.heap.size, 0, none⟩ 1 1 [.bool (decide (yl - xh < f.charge))] rfl rfl (World.news_of_block (cs := #[.bool (decide (yl - xh < f.charge))]) (World.alloc_heap_new w7 _)) (by simp [Value.oneCell']) (by decide) hbig1.out hbig2.out hbh2.size (w7.heap.size + 1) (by simp) ?_; intro g2 cap2 w8 ru8 hgrow2 hlies2 hlt8))
                    have hd1 : ∀ q, u10.ownBlock = some q → (Value.slice (some ⟨g, 0, none⟩) (k + 1) cap).ownBlock = some q → False := fun q h1 h2 => by
                      simp only [Value.ownBlock, Option.some.injEq] at h2
                      subst h2
                      rcases hlies with h | h
                      · exact hvu.out _ h h1
                      · have := hult _ h1; omega
                    have rv8 := own_apart rv7f hgrow2 hd1
                    have hg7 := (rv7.lt g rfl).2
                    have hd2 : ∀ q, (Value.slice (some ⟨g, 0, none⟩) (k + 1) cap).ownBlock = some q → (Value.slice (some ⟨g2, 0, none⟩) (k + 1) cap2).ownBlock = some q → False := fun q h1 h2 => by
                      simp only [Value.ownBlock, Option.some.injEq] at h1 h2
                      subst h1
                      subst h2
                      rcases hlies2 with h | h
                      · exact hd1 _ h rfl
                      · omega
                    have hbg2 : Below W.heap.size _ w8 := ⟨hgrow2.os, hgrow2.tape, hgrow2.output, hgrow2.size, fun b hb2 => hgrow2.block b (Nat.lt_of_lt_of_le hb2 hbh2.size) (fun e => by have := (ru7f.lt _ e.symm).1; omega)⟩
                    have hbz2 := hbh2.trans hbg2
                    go_roundw
                    case rel => exact ⟨k + 1, by go_num, by omega, by rw [htS.out, hsu.out]; exact rv8, by rw [htM.out, hma.out]; exact ru8, hd2, hbz2⟩
                    case measure => simp [intOf]; omega
                · have r2' : decide (f.charge > 0) = false := decide_eq_false r2
                  have hma : Hid (mayS f bl k = false) := by show _ = _; rw [hma0.out, decide_eq_false r2]; simp
                  have hnews : ∀ (j : Nat) (u : Value), ([.bool (false)] : List Value)[j]? = some u → (W9.alloc (.cells #[.bool (false)] 4)).cell? ((⟨W9.heap.size, 0, none⟩ : Addr).add j) = some u :=
                    World.news_of_block (cs := #[.bool (false)]) (World.alloc_heap_new W9 _)
                  have rvf := rv.alloc (.cells #[.bool (false)] 4)
                  have ruf := ru.alloc (.cells #[.bool (false)] 4)
                  have hbf := hb.alloc hb.size (.cells #[.bool (false)] 4)
                  have hvlt := fun q e => rvf.lt q e
                  have hult := fun q e => ru.lt q e
                  go_wp2_with (at_builtin; first | (refine wpList_append_lies _ rfl (.tmp 50) (.tmp 64) 51 rfl W.heap.size 4 i0 (.bool false) 1 1 Try.underlying51 hi0 hz0 hz1 hz2 rfl (by decide) u9 k (((sureL f bl).take k).map Value.bool) rfl rvf ⟨W9.heap.size, 0, none⟩ 1 1 [.bool (false)] rfl rfl hnews (by simp [Value.oneCell']) (by decide) hbig1.out hbig2.out hbf.size (W9.heap.size + 1) (by simp) ?_; intro g cap w7 rv7 hgrow hlies hlt7; have ru7 := own_apart ruf hgrow hvu.out; have hbg : Below W.heap.size _ w7 := ⟨hgrow.os, hgrow.tape, hgrow.output, hgrow.size, fun b hb2 => hgrow.block b (Nat.lt_of_lt_of_le hb2 hbf.size) (fun e => by have := (hvlt _ e.symm).1; omega)⟩; have hbh := hbf.trans hbg; have ru7f := ru7.alloc (.cells #[.bool (false)] 4); have rv7f := rv7.alloc (.cells #[.bool (false)] 4); have hbh2 := hbh.alloc hbh.size (.cells #[.bool (false)] 4); have k9' := (k9.below ((Below.refl _ W9).alloc (Nat.le_refl _) (.cells #[.bool (false)] 4))).grown hgrow (fun e => by have := hvlt _ e.symm; have := k9.lt; have := hg9w _ e.symm; omega); have k10' := (k10.below ((Below.refl _ W9).alloc (Nat.le_refl _) (.cells #[.bool (false)] 4))).grown hgrow (fun e => by have := hg9w _ e.symm; omega); have k3' := (k39.below ((Below.refl _ W9).alloc (Nat.le_refl _) (.cells #[.bool (false)] 4))).grown hgrow (fun e => by have := hg9w _ e.symm; have := (hvlt _ e.symm).1; omega); clear c9 f9 l9 c10 f10 l10 c3 f3 l3; obtain ⟨c9, f9, l9⟩ := k9'.rules; obtain ⟨c10, f10, l10⟩ := k10'.rules; obtain ⟨c3, f3, l3⟩ := k3'.rules) | (refine wpList_append_lies _ rfl (.tmp 66) (.tmp 90) 51 rfl W.heap.size 4 i0 (.bool false) 1 1 Try.underlying51 hi0 hz0 hz1 hz2 rfl (by decide) u10 k (((mayL f bl).take k).map Value.bool) rfl ru7f ⟨w7.heap.size, 0, none⟩ 1 1 [.bool (false)] rfl rfl (World.news_of_block (cs := #[.bool (false)]) (World.alloc_heap_new w7 _)) (by simp [Value.oneCell']) (by decide) hbig1.out hbig2.out hbh2.size (w7.heap.size + 1) (by simp) ?_; intro g2 cap2 w8 ru8 hgrow2 hlies2 hlt8))
                  have hd1 : ∀ q, u10.ownBlock = some q → (Value.slice (some ⟨g, 0, none⟩) (k + 1) cap).ownBlock = some q → False := fun q h1 h2 => by
                    simp only [Value.ownBlock, Option.some.injEq] at h2
                    subst h2
                    rcases hlies with h | h
                    · exact hvu.out _ h h1
                    · have := hult _ h1; omega
                  have rv8 := own_apart rv7f hgrow2 hd1
                  have hg7 := (rv7.lt g rfl).2
                  have hd2 : ∀ q, (Value.slice (some ⟨g, 0, none⟩) (k + 1) cap).ownBlock = some q → (Value.slice (some ⟨g2, 0, none⟩) (k + 1) cap2).ownBlock = some q → False := fun q h1 h2 => by
                    simp only [Value.ownBlock, Option.some.injEq] at h1 h2
                    subst h1
                    subst h2
                    rcases hlies2 with h | h
                    · exact hd1 _ h rfl
                    · omega
                  have hbg2 : Below W.heap.size _ w8 := ⟨hgrow2.os, hgrow2.tape, hgrow2.output, hgrow2.size, fun b hb2 => hgrow2.block b (Nat.lt_of_lt_of_le hb2 hbh2.size) (fun e => by have := (ru7f.lt _ e.symm).1; omega)⟩
                  have hbz2 := hbh2.trans hbg2
                  go_roundw
                  case rel => exact ⟨k + 1, by go_num, by omega, by rw [htS.out, hsu.out]; exact rv8, by rw [htM.out, hma.out]; exact ru8, hd2, hbz2⟩
                  case measure => simp [intOf]; omega
              · have r1' : decide (yl ≥ 0) = false := decide_eq_false r1
                have hma : Hid (mayS f bl k = false) := by show _ = _; rw [hma0.out, decide_eq_true (show yl = -1 by omega)]; rfl
                have hnews : ∀ (j : Nat) (u : Value), ([.bool (false)] : List Value)[j]? = some u → (W9.alloc (.cells #[.bool (false)] 4)).cell? ((⟨W9.heap.size, 0, none⟩ : Addr).add j) = some u :=
                  World.news_of_block (cs := #[.bool (false)]) (World.alloc_heap_new W9 _)
                have rvf := rv.alloc (.cells #[.bool (false)] 4)
                have ruf := ru.alloc (.cells #[.bool (false)] 4)
                have hbf := hb.alloc hb.size (.cells #[.bool (false)] 4)
                have hvlt := fun q e => rvf.lt q e
                have hult := fun q e => ru.lt q e
                go_wp2_with (at_builtin; first | (refine wpList_append_lies _ rfl (.tmp 50) (.tmp 64) 51 rfl W.heap.size 4 i0 (.bool false) 1 1 Try.underlying51 hi0 hz0 hz1 hz2 rfl (by decide) u9 k (((sureL f bl).take k).map Value.bool) rfl rvf ⟨W9.heap.size, 0, none⟩ 1 1 [.bool (false)] rfl rfl hnews (by simp [Value.oneCell']) (by decide) hbig1.out hbig2.out hbf.size (W9.heap.size + 1) (by simp) ?_; intro g cap w7 rv7 hgrow hlies hlt7; have ru7 := own_apart ruf hgrow hvu.out; have hbg : Below W.heap.size _ w7 := ⟨hgrow.os, hgrow.tape, hgrow.output, hgrow.size, fun b hb2 => hgrow.block b (Nat.lt_of_lt_of_le hb2 hbf.size) (fun e => by have := (hvlt _ e.symm).1; omega)⟩; have hbh := hbf.trans hbg; have ru7f := ru7.alloc (.cells #[.bool (false)] 4); have rv7f := rv7.alloc (.cells #[.bool (false)] 4); have hbh2 := hbh.alloc hbh.size (.cells #[.bool (false)] 4); have k9' := (k9.below ((Below.refl _ W9).alloc (Nat.le_refl _) (.cells #[.bool (false)] 4))).grown hgrow (fun e => by have := hvlt _ e.symm; have := k9.lt; have := hg9w _ e.symm; omega); have k10' := (k10.below ((Below.refl _ W9).alloc (Nat.le_refl _) (.cells #[.bool (false)] 4))).grown hgrow (fun e => by have := hg9w _ e.symm; omega); have k3' := (k39.below ((Below.refl _ W9).alloc (Nat.le_refl _) (.cells #[.bool (false)] 4))).grown hgrow (fun e => by have := hg9w _ e.symm; have := (hvlt _ e.symm).1; omega); clear c9 f9 l9 c10 f10 l10 c3 f3 l3; obtain ⟨c9, f9, l9⟩ := k9'.rules; obtain ⟨c10, f10, l10⟩ := k10'.rules; obtain ⟨c3, f3, l3⟩ := k3'.rules) | (refine wpList_append_lies _ rfl (.tmp 66) (.tmp 90) 51 rfl W.heap.size 4 i0 (.bool false) 1 1 Try.underlying51 hi0 hz0 hz1 hz2 rfl (by decide) u10 k (((mayL f bl).take k).map Value.bool) rfl ru7f ⟨w7.heap.size, 0, none⟩ 1 1 [.bool (false)] rfl rfl (World.news_of_block (cs := #[.bool (false)]) (World.alloc_heap_new w7 _)) (by simp [Value.oneCell']) (by decide) hbig1.out hbig2.out hbh2.size (w7.heap.size + 1) (by simp) ?_; intro g2 cap2 w8 ru8 hgrow2 hlies2 hlt8))
                have hd1 : ∀ q, u10.ownBlock = some q → (Value.slice (some ⟨g, 0, none⟩) (k + 1) cap).ownBlock = some q → False := fun q h1 h2 => by
                  simp only [Value.ownBlock, Option.some.injEq] at h2
                  subst h2
                  rcases hlies with h | h
                  · exact hvu.out _ h h1
                  · have := hult _ h1; omega
                have rv8 := own_apart rv7f hgrow2 hd1
                have hg7 := (rv7.lt g rfl).2
                have hd2 : ∀ q, (Value.slice (some ⟨g, 0, none⟩) (k + 1) cap).ownBlock = some q → (Value.slice (some ⟨g2, 0, none⟩) (k + 1) cap2).ownBlock = some q → False := fun q h1 h2 => by
                  simp only [Value.ownBlock, Option.some.injEq] at h1 h2
                  subst h1
                  subst h2
                  rcases hlies2 with h | h
                  · exact hd1 _ h rfl
                  · omega
                have hbg2 : Below W.heap.size _ w8 := ⟨hgrow2.os, hgrow2.tape, hgrow2.output, hgrow2.size, fun b hb2 => hgrow2.block b (Nat.lt_of_lt_of_le hb2 hbh2.size) (fun e => by have := (ru7f.lt _ e.symm).1; omega)⟩
                have hbz2 := hbh2.trans hbg2
                go_roundw
                case rel => exact ⟨k + 1, by go_num, by omega, by rw [htS.out, hsu.out]; exact rv8, by rw [htM.out, hma.out]; exact ru8, hd2, hbz2⟩
                case measure => simp [intOf]; omega
          · try simp only [Act.put, List.setIfInBounds_toArray, List.set_cons_zero, List.set_cons_succ] at hrest
            refine held_two (i := 11) (j := 12) (by kernel_rfl) rfl rfl rfl rfl (fun K hK => ?_) (fun K hK => ?_)
            · skip
              go_simp
              have k11 := Blk.new wd 62 #[.int .i64 0, .int .i64 0]
              have hbel := (Below.refl wd.heap.size wd).alloc (Nat.le_refl _) (.cells #[.int .i64 0, .int .i64 0] 62)
              have sz11 : wd.heap.size < (wd.alloc (.cells #[.int .i64 0, .int .i64 0] 62)).heap.size := by rw [World.size_alloc]; omega
              have gw11 := hbz.size
              try replace k12 := k12.below hbel
              replace hbz := hbz.trans (hbel.mono hbz.size)
              clear hbel
              refine hK _ _ (hSb.out _ hbz) ?_
              clear hK K
              try simp only [Act.put, List.setIfInBounds_toArray, List.set_cons_zero, List.set_cons_succ]
              generalize wd.alloc (.cells #[.int .i64 0, .int .i64 0] 62) = X1 at *
              generalize hg11 : wd.heap.size = g11 at *
              refine held_one (i := 12) (by kernel_rfl) rfl rfl (fun K hK => ?_)
              go_simp
              have k12 := Blk.new X1 62 #[.int .i64 0, .int .i64 0]
              have hbel := (Below.refl X1.heap.size X1).alloc (Nat.le_refl _) (.cells #[.int .i64 0, .int .i64 0] 62)
              have sz12 : X1.heap.size < (X1.alloc (.cells #[.int .i64 0, .int .i64 0] 62)).heap.size := by rw [World.size_alloc]; omega
              have gw12 := hbz.size
              try replace k11 := k11.below hbel
              replace hbz := hbz.trans (hbel.mono hbz.size)
              clear hbel
              refine hK _ _ (hSb.out _ hbz) ?_
              clear hK K
              try simp only [Act.put, List.setIfInBounds_toArray, List.set_cons_zero, List.set_cons_succ]
              generalize X1.alloc (.cells #[.int .i64 0, .int .i64 0] 62) = X2 at *
              generalize hg12 : X1.heap.size = g12 at *
              refine held_one (i := 13) (by kernel_rfl) rfl rfl (fun K hK => ?_)
              have kz := (k11.set_ 0 (.int .i64 xl)).set_ 1 (.int .i64 xh)
              simp only [List.setIfInBounds_toArray, List.set_cons_zero, List.set_cons_succ] at kz
              have ko := (k12.far (p := ⟨g11, 0, none⟩) (by dsimp only; omega) (.int .i64 xl)).far (p := ⟨g11, 1, none⟩) (by dsimp only; omega) (.int .i64 xh)
              have bz := (hbz.setCell (p := ⟨g11, 0, none⟩) (by dsimp only; omega) (.int .i64 xl)).setCell (p := ⟨g11, 1, none⟩) (by dsimp only; omega) (.int .i64 xh)
              obtain ⟨X3, hwz⟩ : ∃ y, y = (X2.setCell ⟨g11, 0, none⟩ (.int .i64 xl)).setCell ⟨g11, 1, none⟩ (.int .i64 xh) := ⟨_, rfl⟩
              rw [← hwz] at kz ko bz
              obtain ⟨c9, f9, l9⟩ := k11.rules
              go_simp
              rw [← hwz]
              clear hwz c9 f9 l9 k11 k12 hbz
              have k11 := kz
              have k12 := ko
              have hbz := bz
              clear kz ko bz
              refine hK _ _ (hSb.out _ hbz) ?_
              clear hK K
              try simp only [Act.put, List.setIfInBounds_toArray, List.set_cons_zero, List.set_cons_succ]
              refine held_one (i := 14) (by kernel_rfl) rfl rfl (fun K hK => ?_)
              have kz := (k12.set_ 0 (.int .i64 yl)).set_ 1 (.int .i64 yh)
              simp only [List.setIfInBounds_toArray, List.set_cons_zero, List.set_cons_succ] at kz
              have ko := (k11.far (p := ⟨g12, 0, none⟩) (by dsimp only; omega) (.int .i64 yl)).far (p := ⟨g12, 1, none⟩) (by dsimp only; omega) (.int .i64 yh)
              have bz := (hbz.setCell (p := ⟨g12, 0, none⟩) (by dsimp only; omega) (.int .i64 yl)).setCell (p := ⟨g12, 1, none⟩) (by dsimp only; omega) (.int .i64 yh)
              obtain ⟨X4, hwz⟩ : ∃ y, y = (X3.setCell ⟨g12, 0, none⟩ (.int .i64 yl)).setCell ⟨g12, 1, none⟩ (.int .i64 yh) := ⟨_, rfl⟩
              rw [← hwz] at kz ko bz
              obtain ⟨c9, f9, l9⟩ := k12.rules
              go_simp
              rw [← hwz]
              clear hwz c9 f9 l9 k12 k11 hbz
              have k12 := kz
              have k11 := ko
              have hbz := bz
              clear kz ko bz
              refine hK _ _ (hSb.out _ hbz) ?_
              clear hK K
              try simp only [Act.put, List.setIfInBounds_toArray, List.set_cons_zero, List.set_cons_succ]
              refine wpAnyH_done (by kernel_rfl) (hrest (g11, g12) _ ⟨k11, k12, by dsimp only; omega, by dsimp only; omega, by dsimp only; omega, hbz⟩) _
            · skip
              go_simp
              have k12 := Blk.new wd 62 #[.int .i64 0, .int .i64 0]
              have hbel := (Below.refl wd.heap.size wd).alloc (Nat.le_refl _) (.cells #[.int .i64 0, .int .i64 0] 62)
              have sz12 : wd.heap.size < (wd.alloc (.cells #[.int .i64 0, .int .i64 0] 62)).heap.size := by rw [World.size_alloc]; omega
              have gw12 := hbz.size
              try replace k11 := k11.below hbel
              replace hbz := hbz.trans (hbel.mono hbz.size)
              clear hbel
              refine hK _ _ (hSb.out _ hbz) ?_
              clear hK K
              try simp only [Act.put, List.setIfInBounds_toArray, List.set_cons_zero, List.set_cons_succ]
              generalize wd.alloc (.cells #[.int .i64 0, .int .i64 0] 62) = X5 at *
              generalize hg12 : wd.heap.size = g12 at *
              refine held_one (i := 11) (by kernel_rfl) rfl rfl (fun K hK => ?_)
              go_simp
              have k11 := Blk.new X5 62 #[.int .i64 0, .int .i64 0]
              have hbel := (Below.refl X5.heap.size X5).alloc (Nat.le_refl _) (.cells #[.int .i64 0, .int .i64 0] 62)
              have sz11 : X5.heap.size < (X5.alloc (.cells #[.int .i64 0, .int .i64 0] 62)).heap.size := by rw [World.size_alloc]; omega
              have gw11 := hbz.size
              try replace k12 := k12.below hbel
              replace hbz := hbz.trans (hbel.mono hbz.size)
              clear hbel
              refine hK _ _ (hSb.out _ hbz) ?_
              clear hK K
              try simp only [Act.put, List.setIfInBounds_toArray, List.set_cons_zero, List.set_cons_succ]
              generalize X5.alloc (.cells #[.int .i64 0, .int .i64 0] 62) = X6 at *
              generalize hg11 : X5.heap.size = g11 at *
              refine held_one (i := 13) (by kernel_rfl) rfl rfl (fun K hK => ?_)
              have kz := (k11.set_ 0 (.int .i64 xl)).set_ 1 (.int .i64 xh)
              simp only [List.setIfInBounds_toArray, List.set_cons_zero, List.set_cons_succ] at kz
              have ko := (k12.far (p := ⟨g11, 0, none⟩) (by dsimp only; omega) (.int .i64 xl)).far (p := ⟨g11, 1, none⟩) (by dsimp only; omega) (.int .i64 xh)
              have bz := (hbz.setCell (p := ⟨g11, 0, none⟩) (by dsimp only; omega) (.int .i64 xl)).setCell (p := ⟨g11, 1, none⟩) (by dsimp only; omega) (.int .i64 xh)
              obtain ⟨X7, hwz⟩ : ∃ y, y = (X6.setCell ⟨g11, 0, none⟩ (.int .i64 xl)).setCell ⟨g11, 1, none⟩ (.int .i64 xh) := ⟨_, rfl⟩
              rw [← hwz] at kz ko bz
              obtain ⟨c9, f9, l9⟩ := k11.rules
              go_simp
              rw [← hwz]
              clear hwz c9 f9 l9 k11 k12 hbz
              have k11 := kz
              have k12 := ko
              have hbz := bz
              clear kz ko bz
              refine hK _ _ (hSb.out _ hbz) ?_
              clear hK K
              try simp only [Act.put, List.setIfInBounds_toArray, List.set_cons_zero, List.set_cons_succ]
              refine held_one (i := 14) (by kernel_rfl) rfl rfl (fun K hK => ?_)
              have kz := (k12.set_ 0 (.int .i64 yl)).set_ 1 (.int .i64 yh)
              simp only [List.setIfInBounds_toArray, List.set_cons_zero, List.set_cons_succ] at kz
              have ko := (k11.far (p := ⟨g12, 0, none⟩) (by dsimp only; omega) (.int .i64 yl)).far (p := ⟨g12, 1, none⟩) (by dsimp only; omega) (.int .i64 yh)
              have bz := (hbz.setCell (p := ⟨g12, 0, none⟩) (by dsimp only; omega) (.int .i64 yl)).setCell (p := ⟨g12, 1, none⟩) (by dsimp only; omega) (.int .i64 yh)
              obtain ⟨X8, hwz⟩ : ∃ y, y = (X7.setCell ⟨g12, 0, none⟩ (.int .i64 yl)).setCell ⟨g12, 1, none⟩ (.int .i64 yh) := ⟨_, rfl⟩
              rw [← hwz] at kz ko bz
              obtain ⟨c9, f9, l9⟩ := k12.rules
              go_simp
              rw [← hwz]
              clear hwz c9 f9 l9 k12 k11 hbz
              have k12 := kz
              have k11 := ko
              have hbz := bz
              clear kz ko bz
              refine hK _ _ (hSb.out _ hbz) ?_
              clear hK K
              try simp only [Act.put, List.setIfInBounds_toArray, List.set_cons_zero, List.set_cons_succ]
              refine wpAnyH_done (by kernel_rfl) (hrest (g11, g12) _ ⟨k11, k12, by dsimp only; omega, by dsimp only; omega, by dsimp only; omega, hbz⟩) _
      · obtain rfl : k = np := by omega
        rw [List.take_of_length_le (by rw [sureL_len]; omega)] at rv
        rw [List.take_of_length_le (by rw [mayL_len]; omega)] at ru
        obtain ⟨O1, co1, rfl, hO1⟩ := SlAt.of_own (enc := bvs) rv (by omega) (sureL f bl) (by rw [bvs_map]) (fun _ => rfl) (by rw [sureL_len, hmt])
        obtain ⟨O2, co2, rfl, hO2⟩ := SlAt.of_own (enc := bvs) ru (by omega) (mayL f bl) (by rw [bvs_map]) (fun _ => rfl) (by rw [mayL_len, hmt])
        have hx : ¬ (k : Int) < f.shots := by omega
        clear rv ru hvu
        obtain ⟨c3, f3, l3⟩ := k3r.rules
        go_wp2_with fail
        go_ret3
        rw [hv.out]
        exact ⟨_, _, _, _, _, _, rfl, hO1.mono hwb.out, hO2.mono hwb.out, b.trans (hb.mono b.size)⟩
  · have hv : Hid (weakR f bl = ([], [], errT f bl)) := by show _ = _; unfold weakR; rw [if_neg he]
    generalize errT f bl = er at *
    have hz : (er != 0) = true := by rw [bne_iff_ne]; exact he
    replace he := Lib.hid he
    go_enter Try.func39, Try.ntmps39
    go_wp2_with fail
    rw [← hw1]
    clear hw1
    obtain ⟨c3, f3, l3⟩ := k3.rules
    go_wp2_with fail
    refine (h1 _ hs1).mono ?_
    rintro e W ⟨rfl, hb⟩
    clear c3 f3 l3
    go_wp2_with fail
    go_ret3
    rw [hv.out]
    exact RetWk.none_ (b.trans (hb.mono b.size))
end Go.Proofs.Ytfengddpfeneiaa
