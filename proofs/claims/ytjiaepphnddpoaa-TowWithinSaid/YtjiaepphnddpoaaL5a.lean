/-
  The law TowWithin.
-/
import Derived.Test.YtjiaepphnddpoaaE1
import Derived.Test.YtjiaepphnddpoaaM4
namespace Go.Proofs.Ytjiaepphnddpoaa
open Go.RowKit Go.Shelf
set_option linter.unusedSimpArgs false
set_option linter.unusedVariables false

theorem owns0 (w : World) (t : TypeId) (s : Nat) : (w.alloc (.cells #[] t)).ownsRow w.heap.size t s (.slice (some ⟨w.heap.size, 0, none⟩) 0 0) 0 [] :=
  ⟨by simp, .inr ⟨w.heap.size, 0, #[], rfl, Nat.le_refl _, Blk.new w t #[], Nat.le_refl _, by simp [maxLen], by simp, by simp⟩⟩
set_option maxRecDepth 100000 in
set_option maxHeartbeats 16000000 in
theorem TowWithin_good (s : Strm) (A O D Q : Option Addr) (n c no co nd cd nq cq : Nat) (bs : List Bnd) (l : List Wat) (bits : List Int) (w : World) (hs : SlAt w 0 5 Sec.cells A n c s.secs) (hl : SlAt w 0 2 Bnd.cells O no co bs) (hd : SlAt w 0 4 Wat.cells D nd cd l) (hq : SlAt w 0 1 ivs Q nq cq bits) (hnd : nd ≤ 48) (hwo : okWats l = true) (herr : errB s bs = 0) :
    Calls Try.prog 6 #[.agg #[.int .i64 s.head, .slice A n c, .int .i64 s.lane.lo, .int .i64 s.lane.hi, .int .i64 s.bend, .slice O no co], .slice D nd cd, .slice Q nq cq] w fun e w' => e = .returned (.bool true) ∧ Below w.heap.size w w' := by
  obtain ⟨w1, hw1⟩ : ∃ w1, w1 = w.alloc (.cells #[.int .i64 s.head, .slice A n c, .int .i64 s.lane.lo, .int .i64 s.lane.hi, .int .i64 s.bend, .slice O no co] 37) := ⟨_, rfl⟩
  have k3 : Blk w1 w.heap.size 37 #[.int .i64 s.head, .slice A n c, .int .i64 s.lane.lo, .int .i64 s.lane.hi, .int .i64 s.bend, .slice O no co] := by rw [hw1]; exact Blk.new _ _ _
  have b : Below w.heap.size w w1 := by rw [hw1]; exact (Below.refl _ _).alloc (Nat.le_refl _) _
  replace hs : SlAt w1 0 5 Sec.cells A n c s.secs := by rw [hw1]; exact hs.alloc _
  replace hl : SlAt w1 0 2 Bnd.cells O no co bs := by rw [hw1]; exact hl.alloc _
  replace hd : SlAt w1 0 4 Wat.cells D nd cd l := by rw [hw1]; exact hd.alloc _
  replace hq : SlAt w1 0 1 ivs Q nq cq bits := by rw [hw1]; exact hq.alloc _
  have hdl := Lib.hid hd.len
  have hll := Lib.hid hl.len
  have hsl := Lib.hid hs.len
  have hno := hl.le
  have hCW := fun W h => waters_any D nd cd 0 l W h
  have e1 : chkWats l = 0 := by rw [chkWats, hwo]; rfl
  simp only [e1] at hCW
  have hwl : Hid (l.all okWat = true) := by unfold okWats at hwo; simp only [Bool.and_eq_true] at hwo; exact hwo.2
  clear e1 hwo
  go_enter Try.func6, Try.ntmps6
  go_wp2_with fail
  rw [← hw1]
  clear hw1
  refine (hCW _ hd).mono ?_
  clear hCW
  rintro e W ⟨rfl, hbel⟩
  replace k3 := k3.below hbel
  replace b := b.trans (hbel.mono b.size)
  replace hs := hs.below hbel
  replace hl := hl.below hbel
  replace hd := hd.below hbel
  replace hq := hq.below hbel
  clear hbel
  obtain ⟨c3, f3, l3⟩ := k3.rules
  go_wp2_with fail
  refine (inside_any bs bits 0 O Q no co nq cq 0 0 _ (by omega) (by omega) hl hq).mono ?_
  rintro e W ⟨P1, m1, rfl, hr1, hbel⟩
  clear c3 f3 l3
  replace k3 := k3.below hbel
  replace b := b.trans (hbel.mono b.size)
  replace hs := hs.below hbel
  replace hl := hl.below hbel
  replace hd := hd.below hbel
  replace hq := hq.below hbel
  clear hbel
  replace hr1 := hr1.mono (Nat.zero_le _)
  go_wp2_with fail
  refine (inside_any bs [] 0 O none no co 0 0 0 0 _ (by omega) (by omega) hl (SlAt.nil _ _ _ _)).mono ?_
  rintro e W ⟨P2, m2, rfl, hr2, hbel⟩
  replace hr1 := hr1.below hbel
  replace k3 := k3.below hbel
  replace b := b.trans (hbel.mono b.size)
  replace hs := hs.below hbel
  replace hl := hl.below hbel
  replace hd := hd.below hbel
  replace hq := hq.below hbel
  clear hbel
  replace hr2 := hr2.mono (Nat.zero_le _)
  go_wp2_with fail
  have hown0 := owns0 W 3 1
  have hbel : Below W.heap.size W (W.alloc (.cells #[] 3)) := (Below.refl _ _).alloc (Nat.le_refl _) _
  have hz := W.heap.size
  go_loopw [10, 11] (fun v i wr => ∃ k : Nat, i = .int .i64 k ∧ k ≤ no ∧ wr.ownsRow W.heap.size 3 1 v k (((bs.take k).map (·.hi)).map (.int .i64 ·)) ∧ Below W.heap.size W wr) (fun v i wr => no - (intOf i).toNat)
  case atStart => exact ⟨0, rfl, Nat.zero_le _, hown0, hbel⟩
  case round =>
    obtain ⟨k, rfl, hk, hown, hb⟩ := hrel
    by_cases hlt : k < no
    · obtain ⟨x, hx⟩ := some_of_lt hll.out hlt
      have hnx : Hid (((bs.take (k + 1)).map (·.hi)).map (.int .i64 ·) = ((bs.take k).map (·.hi)).map (Value.int .i64 ·) ++ [.int .i64 x.hi]) := by show _ = _; rw [mapTake_succ _ hx, List.map_append]; rfl
      obtain ⟨bb, off, rfl, -, hbl, d0, d1⟩ := (hl.below hb).bnd hx
      replace hx := Lib.hid hx
      have hk0 : (0 : Int) ≤ (k : Int) := by omega
      have hk1 : (k : Int) < (no : Int) := by omega
      have hbig1 : Hid (k + 1 ≤ maxLen) := by show k + 1 ≤ maxLen; unfold maxLen; omega
      have hbig2 : Hid ((k + 1) * 8 ≤ 140737488355328) := by show (k + 1) * 8 ≤ 140737488355328; omega
      obtain ⟨i0, hi0, hz0, hz1, hz2⟩ := info_parts Try.infoInt
      have hnews : ∀ (j : Nat) (u : Value), ([.int .i64 (x.hi)] : List Value)[j]? = some u → (wr.alloc (.cells #[.int .i64 (x.hi)] 3)).cell? ((⟨wr.heap.size, 0, none⟩ : Addr).add j) = some u :=
        World.news_of_block (cs := #[.int .i64 (x.hi)]) (World.alloc_heap_new wr _)
      have hownf := hown.alloc (.cells #[.int .i64 (x.hi)] 3)
      have hbf := hb.alloc hb.size (.cells #[.int .i64 (x.hi)] 3)
      go_wp2_with (at_builtin; refine wpList_append_lies _ rfl (.tmp 47) (.tmp 53) 27 rfl W.heap.size 3 i0 (.int .i64 0) 1 8 Try.underlying27 hi0 hz0 hz1 hz2 rfl (by decide) u10 k (((bs.take k).map (·.hi)).map (.int .i64 ·)) rfl hownf ⟨wr.heap.size, 0, none⟩ 1 1 [.int .i64 (x.hi)] rfl rfl hnews (by simp [Value.oneCell']) (by decide) hbig1.out hbig2.out (hbf.size) (wr.heap.size + 1) (by simp) ?_; intro g cap w7 hown7 hgrow hlies hlt7)
      have hbg : Below W.heap.size _ w7 := ⟨hgrow.os, hgrow.tape, hgrow.output, hgrow.size, fun b hb2 => hgrow.block b (Nat.lt_of_lt_of_le hb2 hbf.size) (fun e => by have := (hownf.lt _ e.symm).1; omega)⟩
      have hbh := hbf.trans hbg
      go_roundw
      case rel =>
        refine ⟨k + 1, by go_num, by omega, ?_, hbh⟩
        rw [hnx.out]
        simpa using hown7
      case measure => simp [intOf]; omega
    · obtain rfl : k = no := by omega
      have ht : bs.take k = bs := List.take_of_length_le (by rw [hll.out]; exact Nat.le_refl _)
      rw [ht] at hown
      obtain ⟨P3, m3, e3, hr3⟩ := SlAt.of_own (enc := ivs) hown (by omega) (bs.map (·.hi)) (flatMap_ivs _).symm (fun _ => rfl) (by rw [List.length_map]; exact hll.out)
      subst e3
      replace hr3 := hr3.mono (Nat.zero_le _)
      have hbel := hb
      replace hr1 := hr1.below hbel
      replace hr2 := hr2.below hbel
      replace k3 := k3.below hbel
      replace b := b.trans (hbel.mono b.size)
      replace hs := hs.below hbel
      replace hl := hl.below hbel
      replace hd := hd.below hbel
      replace hq := hq.below hbel
      clear hbel
      clear hown hb ht
      generalize wr = W at *
      go_wp2_with fail
      obtain ⟨ho, hb0⟩ := errB_zero herr
      have hnk : n = k := by have := okOffs_len hb0; have := hll.out; have := hsl.out; omega
      subst hnk
      have hn8 : n ≤ 8 := by have := ok_head ho; unfold headOk at this; have := hsl.out; omega
      rw [insL_nil 0 (okOffs_all hb0)] at hr2
      have hL0 := insL_lies bits 0 (okOffs_all hb0)
      generalize insL bs bits 0 = tr0 at *
      replace ho := Lib.hid ho
      replace hb0 := Lib.hid hb0
      clear herr
      go_loopw [7, 8, 9, 10, 12] (fun vb vt vl vh i wr => ∃ (k : Nat) (Pb Pt Pl Ph : Option Addr) (mb mt ml mh : Nat) (tr : List Int), i = .int .i64 k ∧ k ≤ nd ∧ vb = .slice Pb n mb ∧ vt = .slice Pt n mt ∧ vl = .slice Pl n ml ∧ vh = .slice Ph n mh ∧
        SlAt wr 0 2 Bnd.cells Pb n mb (encAt s bs l k) ∧ SlAt wr 0 1 ivs Pt n mt tr ∧ SlAt wr 0 1 ivs Pl n ml ((encAt s bs l k).map (·.lo)) ∧ SlAt wr 0 1 ivs Ph n mh ((encAt s bs l k).map (·.hi)) ∧ Lies tr (encAt s bs l k) ∧ Below W.heap.size W wr) (fun vb vt vl vh i wr => nd - (intOf i).toNat)
      case atStart => exact ⟨0, _, _, _, _, _, _, _, _, tr0, rfl, Nat.zero_le _, rfl, rfl, rfl, rfl, hl, hr1, hr2, hr3, hL0, Below.refl _ _⟩
      case round =>
        clear hr1 hr2 hr3 hl hL0
        obtain ⟨k, Pb, Pt, Pl, Ph, mb, mt, ml, mh, tr, rfl, hk, rfl, rfl, rfl, rfl, hl, hr1, hr2, hr3, hL, hbel⟩ := hrel
        have hB0 := hbel
        replace k3 := k3.below hbel
        replace b := b.trans (hbel.mono b.size)
        replace hs := hs.below hbel
        replace hd := hd.below hbel
        replace hq := hq.below hbel
        clear hbel
        generalize wr = W at *
        by_cases hlt : k < nd
        · obtain ⟨x, hx⟩ := some_of_lt hdl.out hlt
          have hxd : l.getD k wat0 = x := getD_of _ hx
          obtain ⟨f1, f2, f3, f4, f5⟩ := within_step (bits := bits) (5 * k + 1) ho.out hb0.out hwl.out hL
          rw [hxd] at f1 f2 f3 f4 f5
          rw [hsl.out] at f2 f3 f4 f5
          have hxo := okWat_get hwl.out k
          rw [hxd] at hxo
          have hxb := of_decide_eq_true (p := -100 ≤ x.acr.lo ∧ x.acr.lo ≤ x.acr.hi ∧ x.acr.hi ≤ 100) hxo.1
          obtain ⟨xb1, xb2, xb3⟩ := hxb
          have hEn := fun W h1 h2 => Enclose_any s A Pb n c n mb 0 0 (encAt s bs l k) x.acr W h1 h2
          simp only [f1] at hEn
          have hDr := fun W h => drifts_any x.acr n bits (5 * (k : Int) + 1) Q nq cq 0 W (by omega) (by omega) (by omega) h
          have hDn := fun W => drifts_any x.acr n [] 0 none 0 0 0 W (by omega) (by omega) (by omega) (SlAt.nil _ _ _ _)
          have hSt := fun P m W h1 h2 h3 => Step_any s A Pt P n c n mt n m 0 0 0 tr (drTo x.acr bits (5 * (k : Int) + 1) n) W h1 h2 h3
          have hSl := fun P m W h1 h2 h3 => Step_any s A Pl P n c n ml n m 0 0 0 ((encAt s bs l k).map (·.lo)) (drTo x.acr [] 0 n) W h1 h2 h3
          have hSh := fun P m W h1 h2 h3 => Step_any s A Ph P n c n mh n m 0 0 0 ((encAt s bs l k).map (·.hi)) (List.replicate n x.acr.hi) W h1 h2 h3
          simp only [f2] at hSt
          simp only [f4] at hSl
          simp only [f5] at hSh
          replace f3 := Lib.hid f3
          have hlen1 := Lib.hid (encAt_len (s := s) (l := l) (hll.out) (k + 1))
          have hlen2 : Hid ((stepL s tr (drTo x.acr bits (5 * (k : Int) + 1) n)).length = n) := by show _ = _; rw [f3.out.1]; exact hlen1.out
          clear f1 f2 f4 f5 hL hxd hxo
          generalize hE1 : encAt s bs l (k + 1) = E1 at *
          replace hE1 := Lib.hid hE1
          generalize stepL s tr (drTo x.acr bits (5 * (k : Int) + 1) n) = tr1 at *
          obtain ⟨bw, ow, hA, -, hbw, z0, z1, -, -⟩ := hd.wat hx
          replace hx := Lib.hid hx
          subst hA
          have hk0 : (0 : Int) ≤ (k : Int) := by omega
          have hk1 : (k : Int) < (nd : Int) := by omega
          have u1 := IntWalk.i64_in (5 * (k : Int)) (by omega)
          have u2 := IntWalk.i64_in (5 * (k : Int) + 1) (by omega)
          go_wp2_with fail
          refine wp_held_np (fun w' : World => (∀ j, w'.cell? ⟨w.heap.size, j, none⟩ = #[Value.int .i64 s.head, .slice A n c, .int .i64 s.lane.lo, .int .i64 s.lane.hi, .int .i64 s.bend, .slice O n co][j]?) ∧ w'.cell? ⟨bw, ow + k * 4, none⟩ = some (.int .i64 x.acr.lo) ∧ w'.cell? ⟨bw, ow + k * 4 + 1, none⟩ = some (.int .i64 x.acr.hi)) (by kernel_rfl) ?_
          have hbel : Below W.heap.size W W.drew := (Below.refl _ _).drew
          replace k3 := k3.below hbel
          replace b := b.trans (hbel.mono b.size)
          replace hB0 := hB0.trans (hbel.mono hB0.size)
          replace hs := hs.below hbel
          replace hd := hd.below hbel
          replace hq := hq.below hbel
          replace hl := hl.below hbel
          replace hr1 := hr1.below hbel
          replace hr2 := hr2.below hbel
          replace hr3 := hr3.below hbel
          replace z0 := (hbel.cell (p := ⟨bw, ow + k * 4, none⟩) hbw).trans z0
          replace z1 := (hbel.cell (p := ⟨bw, ow + k * 4 + 1, none⟩) hbw).trans z1
          replace hbw := Nat.lt_of_lt_of_le hbw hbel.size
          skip
          clear hbel
          generalize W.drew = W at *
          have hS : (fun w' : World => (∀ j, w'.cell? ⟨w.heap.size, j, none⟩ = #[Value.int .i64 s.head, .slice A n c, .int .i64 s.lane.lo, .int .i64 s.lane.hi, .int .i64 s.bend, .slice O n co][j]?) ∧ w'.cell? ⟨bw, ow + k * 4, none⟩ = some (.int .i64 x.acr.lo) ∧ w'.cell? ⟨bw, ow + k * 4 + 1, none⟩ = some (.int .i64 x.acr.hi)) W := ⟨k3.cell, z0, z1⟩
          refine held_take (i := 0) (v := ?_) 62 rfl rfl (by kernel_rfl) (by kernel_rfl) (by kernel_rfl) (fun _ _ _ h => h) (Or.inl ⟨by rfl, ?_⟩) hS ?_
          rotate_left 1
          · intro w' hSw
            try dsimp only at hSw
            obtain ⟨q1, q2, q3⟩ := hSw
            go_simp
            all_goals with_reducible rfl
          try simp only [Act.put, List.setIfInBounds_toArray, List.set_cons_zero, List.set_cons_succ]
          refine held_take (i := 1) (v := ?_) 63 rfl rfl (by kernel_rfl) (by kernel_rfl) (by kernel_rfl) (fun _ _ _ h => h) (Or.inl ⟨by rfl, ?_⟩) hS ?_
          rotate_left 1
          · intro w' hSw
            try dsimp only at hSw
            obtain ⟨q1, q2, q3⟩ := hSw
            go_simp
            all_goals with_reducible rfl
          try simp only [Act.put, List.setIfInBounds_toArray, List.set_cons_zero, List.set_cons_succ]
          refine held_take (i := 2) (v := ?_) 64 rfl rfl (by kernel_rfl) (by kernel_rfl) (by kernel_rfl) (fun _ _ _ h => h) (Or.inl ⟨by rfl, ?_⟩) hS ?_
          rotate_left 1
          · intro w' hSw
            try dsimp only at hSw
            obtain ⟨q1, q2, q3⟩ := hSw
            go_simp
            all_goals with_reducible rfl
          try simp only [Act.put, List.setIfInBounds_toArray, List.set_cons_zero, List.set_cons_succ]
          refine held_take (i := 3) (v := ?_) 65 rfl rfl (by kernel_rfl) (by kernel_rfl) (by kernel_rfl) (fun _ _ _ h => h) (Or.inl ⟨by rfl, ?_⟩) hS ?_
          rotate_left 1
          · intro w' hSw
            try dsimp only at hSw
            obtain ⟨q1, q2, q3⟩ := hSw
            go_simp
            all_goals with_reducible rfl
          try simp only [Act.put, List.setIfInBounds_toArray, List.set_cons_zero, List.set_cons_succ]
          refine held_take (i := 4) (v := ?_) 66 rfl rfl (by kernel_rfl) (by kernel_rfl) (by kernel_rfl) (fun _ _ _ h => h) (Or.inl ⟨by rfl, ?_⟩) hS ?_
          rotate_left 1
          · intro w' hSw
            try dsimp only at hSw
            obtain ⟨q1, q2, q3⟩ := hSw
            go_simp
            all_goals with_reducible rfl
          try simp only [Act.put, List.setIfInBounds_toArray, List.set_cons_zero, List.set_cons_succ]
          refine held_take (i := 5) (v := ?_) 67 rfl rfl (by kernel_rfl) (by kernel_rfl) (by kernel_rfl) (fun _ _ _ h => h) (Or.inl ⟨by rfl, ?_⟩) hS ?_
          rotate_left 1
          · intro w' hSw
            try dsimp only at hSw
            obtain ⟨q1, q2, q3⟩ := hSw
            go_simp
            all_goals with_reducible rfl
          try simp only [Act.put, List.setIfInBounds_toArray, List.set_cons_zero, List.set_cons_succ]
          refine held_take (i := 6) (v := ?_) 68 rfl rfl (by kernel_rfl) (by kernel_rfl) (by kernel_rfl) (fun _ _ _ h => h) (Or.inl ⟨by rfl, ?_⟩) hS ?_
          rotate_left 1
          · intro w' hSw
            try dsimp only at hSw
            obtain ⟨q1, q2, q3⟩ := hSw
            go_simp
            all_goals with_reducible rfl
          try simp only [Act.put, List.setIfInBounds_toArray, List.set_cons_zero, List.set_cons_succ]
          refine held_take (i := 7) (v := ?_) 69 rfl rfl (by kernel_rfl) (by kernel_rfl) (by kernel_rfl) (fun _ _ _ h => h) (Or.inl ⟨by rfl, ?_⟩) hS ?_
          rotate_left 1
          · intro w' hSw
            try dsimp only at hSw
            obtain ⟨q1, q2, q3⟩ := hSw
            go_simp
            all_goals with_reducible rfl
          try simp only [Act.put, List.setIfInBounds_toArray, List.set_cons_zero, List.set_cons_succ]
          refine held_one (i := 8) (by kernel_rfl) rfl rfl (fun K hK => ?_)
          go_simp
          refine (hEn _ hs hl).mono ?_
          rintro e W1 ⟨P4, n4, m4, rfl, hr4, hbel⟩
          clear hEn
          obtain rfl : n = n4 := by have h9 : E1.length = n4 := hr4.len; have := hlen1.out; omega
          replace hr4 := hr4.mono (Nat.zero_le _)
          clear hS
          replace k3 := k3.below hbel
          replace b := b.trans (hbel.mono b.size)
          replace hB0 := hB0.trans (hbel.mono hB0.size)
          replace hs := hs.below hbel
          replace hd := hd.below hbel
          replace hq := hq.below hbel
          replace hl := hl.below hbel
          replace hr1 := hr1.below hbel
          replace hr2 := hr2.below hbel
          replace hr3 := hr3.below hbel
          replace z0 := (hbel.cell (p := ⟨bw, ow + k * 4, none⟩) hbw).trans z0
          replace z1 := (hbel.cell (p := ⟨bw, ow + k * 4 + 1, none⟩) hbw).trans z1
          replace hbw := Nat.lt_of_lt_of_le hbw hbel.size
          skip
          clear hbel
          have hS : (fun w' : World => (∀ j, w'.cell? ⟨w.heap.size, j, none⟩ = #[Value.int .i64 s.head, .slice A n c, .int .i64 s.lane.lo, .int .i64 s.lane.hi, .int .i64 s.bend, .slice O n co][j]?) ∧ w'.cell? ⟨bw, ow + k * 4, none⟩ = some (.int .i64 x.acr.lo) ∧ w'.cell? ⟨bw, ow + k * 4 + 1, none⟩ = some (.int .i64 x.acr.hi)) W1 := ⟨k3.cell, z0, z1⟩
          refine hK _ _ hS ?_
          clear hK K
          try simp only [Act.put, List.setIfInBounds_toArray, List.set_cons_zero, List.set_cons_succ]
          refine held_take (i := 9) (v := ?_) 61 rfl rfl (by kernel_rfl) (by kernel_rfl) (by kernel_rfl) (fun _ _ _ h => h) (Or.inl ⟨by rfl, ?_⟩) hS ?_
          rotate_left 1
          · intro w' hSw
            try dsimp only at hSw
            obtain ⟨q1, q2, q3⟩ := hSw
            go_simp
            all_goals with_reducible rfl
          try simp only [Act.put, List.setIfInBounds_toArray, List.set_cons_zero, List.set_cons_succ]
          refine held_take (i := 10) (v := ?_) 71 rfl rfl (by kernel_rfl) (by kernel_rfl) (by kernel_rfl) (fun _ _ _ h => h) (Or.inl ⟨by rfl, ?_⟩) hS ?_
          rotate_left 1
          · intro w' hSw
            try dsimp only at hSw
            obtain ⟨q1, q2, q3⟩ := hSw
            go_simp
            all_goals with_reducible rfl
          try simp only [Act.put, List.setIfInBounds_toArray, List.set_cons_zero, List.set_cons_succ]
          refine held_take (i := 11) (v := ?_) 72 rfl rfl (by kernel_rfl) (by kernel_rfl) (by kernel_rfl) (fun _ _ _ h => h) (Or.inl ⟨by rfl, ?_⟩) hS ?_
          rotate_left 1
          · intro w' hSw
            try dsimp only at hSw
            obtain ⟨q1, q2, q3⟩ := hSw
            go_simp
            all_goals with_reducible rfl
          try simp only [Act.put, List.setIfInBounds_toArray, List.set_cons_zero, List.set_cons_succ]
          refine held_take (i := 12) (v := ?_) 13 rfl rfl (by kernel_rfl) (by kernel_rfl) (by kernel_rfl) (fun _ _ _ h => h) (Or.inl ⟨by rfl, ?_⟩) hS ?_
          rotate_left 1
          · intro w' hSw
            try dsimp only at hSw
            obtain ⟨q1, q2, q3⟩ := hSw
            go_simp
            all_goals with_reducible rfl
          try simp only [Act.put, List.setIfInBounds_toArray, List.set_cons_zero, List.set_cons_succ]
          refine held_take (i := 13) (v := ?_) 14 rfl rfl (by kernel_rfl) (by kernel_rfl) (by kernel_rfl) (fun _ _ _ h => h) (Or.inl ⟨by rfl, ?_⟩) hS ?_
          rotate_left 1
          · intro w' hSw
            try dsimp only at hSw
            obtain ⟨q1, q2, q3⟩ := hSw
            go_simp
            all_goals with_reducible rfl
          try simp only [Act.put, List.setIfInBounds_toArray, List.set_cons_zero, List.set_cons_succ]
          refine wpAnyH_done (by kernel_rfl) (noPanic_normal ?_) _
          clear hS
          obtain ⟨c3, f3_, l3⟩ := k3.rules
          go_wp2_with fail
          refine wp_held_np (fun w' : World => (∀ j, w'.cell? ⟨w.heap.size, j, none⟩ = #[Value.int .i64 s.head, .slice A n c, .int .i64 s.lane.lo, .int .i64 s.lane.hi, .int .i64 s.bend, .slice O n co][j]?) ∧ w'.cell? ⟨bw, ow + k * 4, none⟩ = some (.int .i64 x.acr.lo) ∧ w'.cell? ⟨bw, ow + k * 4 + 1, none⟩ = some (.int .i64 x.acr.hi)) (by kernel_rfl) ?_
          have hbel : Below W1.heap.size W1 W1.drew := (Below.refl _ _).drew
          replace k3 := k3.below hbel
          replace b := b.trans (hbel.mono b.size)
          replace hB0 := hB0.trans (hbel.mono hB0.size)
          replace hs := hs.below hbel
          replace hd := hd.below hbel
          replace hq := hq.below hbel
          replace hl := hl.below hbel
          replace hr1 := hr1.below hbel
          replace hr2 := hr2.below hbel
          replace hr3 := hr3.below hbel
          replace z0 := (hbel.cell (p := ⟨bw, ow + k * 4, none⟩) hbw).trans z0
          replace z1 := (hbel.cell (p := ⟨bw, ow + k * 4 + 1, none⟩) hbw).trans z1
          replace hbw := Nat.lt_of_lt_of_le hbw hbel.size
          replace hr4 := hr4.below hbel
          clear hbel
          generalize W1.drew = W at *
          have hS : (fun w' : World => (∀ j, w'.cell? ⟨w.heap.size, j, none⟩ = #[Value.int .i64 s.head, .slice A n c, .int .i64 s.lane.lo, .int .i64 s.lane.hi, .int .i64 s.bend, .slice O n co][j]?) ∧ w'.cell? ⟨bw, ow + k * 4, none⟩ = some (.int .i64 x.acr.lo) ∧ w'.cell? ⟨bw, ow + k * 4 + 1, none⟩ = some (.int .i64 x.acr.hi)) W := ⟨k3.cell, z0, z1⟩
          clear c3 f3_ l3
          refine held_take (i := 0) (v := ?_) 98 rfl rfl (by kernel_rfl) (by kernel_rfl) (by kernel_rfl) (fun _ _ _ h => h) (Or.inl ⟨by rfl, ?_⟩) hS ?_
          rotate_left 1
          · intro w' hSw
            try dsimp only at hSw
            obtain ⟨q1, q2, q3⟩ := hSw
            go_simp
            all_goals with_reducible rfl
          try simp only [Act.put, List.setIfInBounds_toArray, List.set_cons_zero, List.set_cons_succ]
          refine held_take (i := 1) (v := ?_) 99 rfl rfl (by kernel_rfl) (by kernel_rfl) (by kernel_rfl) (fun _ _ _ h => h) (Or.inl ⟨by rfl, ?_⟩) hS ?_
          rotate_left 1
          · intro w' hSw
            try dsimp only at hSw
            obtain ⟨q1, q2, q3⟩ := hSw
            go_simp
            all_goals with_reducible rfl
          try simp only [Act.put, List.setIfInBounds_toArray, List.set_cons_zero, List.set_cons_succ]
          refine held_take (i := 2) (v := ?_) 100 rfl rfl (by kernel_rfl) (by kernel_rfl) (by kernel_rfl) (fun _ _ _ h => h) (Or.inl ⟨by rfl, ?_⟩) hS ?_
          rotate_left 1
          · intro w' hSw
            try dsimp only at hSw
            obtain ⟨q1, q2, q3⟩ := hSw
            go_simp
            all_goals with_reducible rfl
          try simp only [Act.put, List.setIfInBounds_toArray, List.set_cons_zero, List.set_cons_succ]
          refine held_take (i := 3) (v := ?_) 101 rfl rfl (by kernel_rfl) (by kernel_rfl) (by kernel_rfl) (fun _ _ _ h => h) (Or.inl ⟨by rfl, ?_⟩) hS ?_
          rotate_left 1
          · intro w' hSw
            try dsimp only at hSw
            obtain ⟨q1, q2, q3⟩ := hSw
            go_simp
            all_goals with_reducible rfl
          try simp only [Act.put, List.setIfInBounds_toArray, List.set_cons_zero, List.set_cons_succ]
          refine held_take (i := 4) (v := ?_) 102 rfl rfl (by kernel_rfl) (by kernel_rfl) (by kernel_rfl) (fun _ _ _ h => h) (Or.inl ⟨by rfl, ?_⟩) hS ?_
          rotate_left 1
          · intro w' hSw
            try dsimp only at hSw
            obtain ⟨q1, q2, q3⟩ := hSw
            go_simp
            all_goals with_reducible rfl
          try simp only [Act.put, List.setIfInBounds_toArray, List.set_cons_zero, List.set_cons_succ]
          refine held_take (i := 5) (v := ?_) 103 rfl rfl (by kernel_rfl) (by kernel_rfl) (by kernel_rfl) (fun _ _ _ h => h) (Or.inl ⟨by rfl, ?_⟩) hS ?_
          rotate_left 1
          · intro w' hSw
            try dsimp only at hSw
            obtain ⟨q1, q2, q3⟩ := hSw
            go_simp
            all_goals with_reducible rfl
          try simp only [Act.put, List.setIfInBounds_toArray, List.set_cons_zero, List.set_cons_succ]
          refine held_take (i := 6) (v := ?_) 104 rfl rfl (by kernel_rfl) (by kernel_rfl) (by kernel_rfl) (fun _ _ _ h => h) (Or.inl ⟨by rfl, ?_⟩) hS ?_
          rotate_left 1
          · intro w' hSw
            try dsimp only at hSw
            obtain ⟨q1, q2, q3⟩ := hSw
            go_simp
            all_goals with_reducible rfl
          try simp only [Act.put, List.setIfInBounds_toArray, List.set_cons_zero, List.set_cons_succ]
          refine held_take (i := 7) (v := ?_) 105 rfl rfl (by kernel_rfl) (by kernel_rfl) (by kernel_rfl) (fun _ _ _ h => h) (Or.inl ⟨by rfl, ?_⟩) hS ?_
          rotate_left 1
          · intro w' hSw
            try dsimp only at hSw
            obtain ⟨q1, q2, q3⟩ := hSw
            go_simp
            all_goals with_reducible rfl
          try simp only [Act.put, List.setIfInBounds_toArray, List.set_cons_zero, List.set_cons_succ]
          refine held_take (i := 8) (v := ?_) 106 rfl rfl (by kernel_rfl) (by kernel_rfl) (by kernel_rfl) (fun _ _ _ h => h) (Or.inl ⟨by rfl, ?_⟩) hS ?_
          rotate_left 1
          · intro w' hSw
            try dsimp only at hSw
            obtain ⟨q1, q2, q3⟩ := hSw
            go_simp
            all_goals with_reducible rfl
          try simp only [Act.put, List.setIfInBounds_toArray, List.set_cons_zero, List.set_cons_succ]
          refine held_take (i := 9) (v := ?_) 107 rfl rfl (by kernel_rfl) (by kernel_rfl) (by kernel_rfl) (fun _ _ _ h => h) (Or.inl ⟨by rfl, ?_⟩) hS ?_
          rotate_left 1
          · intro w' hSw
            try dsimp only at hSw
            obtain ⟨q1, q2, q3⟩ := hSw
            go_simp
            all_goals with_reducible rfl
          try simp only [Act.put, List.setIfInBounds_toArray, List.set_cons_zero, List.set_cons_succ]
          refine held_take (i := 10) (v := ?_) 108 rfl rfl (by kernel_rfl) (by kernel_rfl) (by kernel_rfl) (fun _ _ _ h => h) (Or.inl ⟨by rfl, ?_⟩) hS ?_
          rotate_left 1
          · intro w' hSw
            try dsimp only at hSw
            obtain ⟨q1, q2, q3⟩ := hSw
            go_simp
            all_goals with_reducible rfl
          try simp only [Act.put, List.setIfInBounds_toArray, List.set_cons_zero, List.set_cons_succ]
          refine held_take (i := 11) (v := ?_) 109 rfl rfl (by kernel_rfl) (by kernel_rfl) (by kernel_rfl) (fun _ _ _ h => h) (Or.inl ⟨by rfl, ?_⟩) hS ?_
          rotate_left 1
          · intro w' hSw
            try dsimp only at hSw
            obtain ⟨q1, q2, q3⟩ := hSw
            go_simp
            all_goals with_reducible rfl
          try simp only [Act.put, List.setIfInBounds_toArray, List.set_cons_zero, List.set_cons_succ]
          refine held_take (i := 12) (v := ?_) 110 rfl rfl (by kernel_rfl) (by kernel_rfl) (by kernel_rfl) (fun _ _ _ h => h) (Or.inl ⟨by rfl, ?_⟩) hS ?_
          rotate_left 1
          · intro w' hSw
            try dsimp only at hSw
            obtain ⟨q1, q2, q3⟩ := hSw
            go_simp
            all_goals with_reducible rfl
          try simp only [Act.put, List.setIfInBounds_toArray, List.set_cons_zero, List.set_cons_succ]
          clear u1 u2
          refine held_one (i := 13) (by kernel_rfl) rfl rfl (fun K hK => ?_)
          go_simp
          refine (hDr _ hq).mono ?_
          rintro e W1 ⟨P5, m5, rfl, hr5, hbel⟩
          clear hDr
          replace hr5 := hr5.mono (Nat.zero_le _)
          clear hS
          replace k3 := k3.below hbel
          replace b := b.trans (hbel.mono b.size)
          replace hB0 := hB0.trans (hbel.mono hB0.size)
          replace hs := hs.below hbel
          replace hd := hd.below hbel
          replace hq := hq.below hbel
          replace hl := hl.below hbel
          replace hr1 := hr1.below hbel
          replace hr2 := hr2.below hbel
          replace hr3 := hr3.below hbel
          replace z0 := (hbel.cell (p := ⟨bw, ow + k * 4, none⟩) hbw).trans z0
          replace z1 := (hbel.cell (p := ⟨bw, ow + k * 4 + 1, none⟩) hbw).trans z1
          replace hbw := Nat.lt_of_lt_of_le hbw hbel.size
          replace hr4 := hr4.below hbel
          clear hbel
          have hS : (fun w' : World => (∀ j, w'.cell? ⟨w.heap.size, j, none⟩ = #[Value.int .i64 s.head, .slice A n c, .int .i64 s.lane.lo, .int .i64 s.lane.hi, .int .i64 s.bend, .slice O n co][j]?) ∧ w'.cell? ⟨bw, ow + k * 4, none⟩ = some (.int .i64 x.acr.lo) ∧ w'.cell? ⟨bw, ow + k * 4 + 1, none⟩ = some (.int .i64 x.acr.hi)) W1 := ⟨k3.cell, z0, z1⟩
          refine hK _ _ hS ?_
          clear hK K
          try simp only [Act.put, List.setIfInBounds_toArray, List.set_cons_zero, List.set_cons_succ]
          refine held_one (i := 14) (by kernel_rfl) rfl rfl (fun K hK => ?_)
          go_simp
          refine (hSt P5 m5 _ hs hr1 hr5).mono ?_
          rintro e W1 ⟨P6, n6, m6, rfl, hr6, hbel⟩
          clear hSt hr5
          obtain rfl : n = n6 := by have h9 : tr1.length = n6 := hr6.len; have := hlen2.out; omega
          replace hr6 := hr6.mono (Nat.zero_le _)
          clear hS
          replace k3 := k3.below hbel
          replace b := b.trans (hbel.mono b.size)
          replace hB0 := hB0.trans (hbel.mono hB0.size)
          replace hs := hs.below hbel
          replace hd := hd.below hbel
          replace hq := hq.below hbel
          replace hl := hl.below hbel
          replace hr1 := hr1.below hbel
          replace hr2 := hr2.below hbel
          replace hr3 := hr3.below hbel
          replace z0 := (hbel.cell (p := ⟨bw, ow + k * 4, none⟩) hbw).trans z0
          replace z1 := (hbel.cell (p := ⟨bw, ow + k * 4 + 1, none⟩) hbw).trans z1
          replace hbw := Nat.lt_of_lt_of_le hbw hbel.size
          replace hr4 := hr4.below hbel
          clear hbel
          have hS : (fun w' : World => (∀ j, w'.cell? ⟨w.heap.size, j, none⟩ = #[Value.int .i64 s.head, .slice A n c, .int .i64 s.lane.lo, .int .i64 s.lane.hi, .int .i64 s.bend, .slice O n co][j]?) ∧ w'.cell? ⟨bw, ow + k * 4, none⟩ = some (.int .i64 x.acr.lo) ∧ w'.cell? ⟨bw, ow + k * 4 + 1, none⟩ = some (.int .i64 x.acr.hi)) W1 := ⟨k3.cell, z0, z1⟩
          refine hK _ _ hS ?_
          clear hK K
          try simp only [Act.put, List.setIfInBounds_toArray, List.set_cons_zero, List.set_cons_succ]
          refine held_take (i := 15) (v := ?_) 97 rfl rfl (by kernel_rfl) (by kernel_rfl) (by kernel_rfl) (fun _ _ _ h => h) (Or.inl ⟨by rfl, ?_⟩) hS ?_
          rotate_left 1
          · intro w' hSw
            try dsimp only at hSw
            obtain ⟨q1, q2, q3⟩ := hSw
            go_simp
            all_goals with_reducible rfl
          try simp only [Act.put, List.setIfInBounds_toArray, List.set_cons_zero, List.set_cons_succ]
          refine held_take (i := 16) (v := ?_) 113 rfl rfl (by kernel_rfl) (by kernel_rfl) (by kernel_rfl) (fun _ _ _ h => h) (Or.inl ⟨by rfl, ?_⟩) hS ?_
          rotate_left 1
          · intro w' hSw
            try dsimp only at hSw
            obtain ⟨q1, q2, q3⟩ := hSw
            go_simp
            all_goals with_reducible rfl
          try simp only [Act.put, List.setIfInBounds_toArray, List.set_cons_zero, List.set_cons_succ]
          refine held_take (i := 17) (v := ?_) 114 rfl rfl (by kernel_rfl) (by kernel_rfl) (by kernel_rfl) (fun _ _ _ h => h) (Or.inl ⟨by rfl, ?_⟩) hS ?_
          rotate_left 1
          · intro w' hSw
            try dsimp only at hSw
            obtain ⟨q1, q2, q3⟩ := hSw
            go_simp
            all_goals with_reducible rfl
          try simp only [Act.put, List.setIfInBounds_toArray, List.set_cons_zero, List.set_cons_succ]
          refine held_take (i := 18) (v := ?_) 16 rfl rfl (by kernel_rfl) (by kernel_rfl) (by kernel_rfl) (fun _ _ _ h => h) (Or.inl ⟨by rfl, ?_⟩) hS ?_
          rotate_left 1
          · intro w' hSw
            try dsimp only at hSw
            obtain ⟨q1, q2, q3⟩ := hSw
            go_simp
            all_goals with_reducible rfl
          try simp only [Act.put, List.setIfInBounds_toArray, List.set_cons_zero, List.set_cons_succ]
          refine held_take (i := 19) (v := ?_) 14 rfl rfl (by kernel_rfl) (by kernel_rfl) (by kernel_rfl) (fun _ _ _ h => h) (Or.inl ⟨by rfl, ?_⟩) hS ?_
          rotate_left 1
          · intro w' hSw
            try dsimp only at hSw
            obtain ⟨q1, q2, q3⟩ := hSw
            go_simp
            all_goals with_reducible rfl
          try simp only [Act.put, List.setIfInBounds_toArray, List.set_cons_zero, List.set_cons_succ]
          refine wpAnyH_done (by kernel_rfl) (noPanic_normal ?_) _
          clear hS
          go_wp2_with fail
          refine wp_held_np (fun w' : World => (∀ j, w'.cell? ⟨w.heap.size, j, none⟩ = #[Value.int .i64 s.head, .slice A n c, .int .i64 s.lane.lo, .int .i64 s.lane.hi, .int .i64 s.bend, .slice O n co][j]?) ∧ w'.cell? ⟨bw, ow + k * 4, none⟩ = some (.int .i64 x.acr.lo) ∧ w'.cell? ⟨bw, ow + k * 4 + 1, none⟩ = some (.int .i64 x.acr.hi)) (by kernel_rfl) ?_
          have hbel : Below W1.heap.size W1 W1.drew := (Below.refl _ _).drew
          replace k3 := k3.below hbel
          replace b := b.trans (hbel.mono b.size)
          replace hB0 := hB0.trans (hbel.mono hB0.size)
          replace hs := hs.below hbel
          replace hd := hd.below hbel
          replace hq := hq.below hbel
          replace hl := hl.below hbel
          replace hr1 := hr1.below hbel
          replace hr2 := hr2.below hbel
          replace hr3 := hr3.below hbel
          replace z0 := (hbel.cell (p := ⟨bw, ow + k * 4, none⟩) hbw).trans z0
          replace z1 := (hbel.cell (p := ⟨bw, ow + k * 4 + 1, none⟩) hbw).trans z1
          replace hbw := Nat.lt_of_lt_of_le hbw hbel.size
          (replace hr4 := hr4.below hbel; replace hr6 := hr6.below hbel)
          clear hbel
          generalize W1.drew = W at *
          have hS : (fun w' : World => (∀ j, w'.cell? ⟨w.heap.size, j, none⟩ = #[Value.int .i64 s.head, .slice A n c, .int .i64 s.lane.lo, .int .i64 s.lane.hi, .int .i64 s.bend, .slice O n co][j]?) ∧ w'.cell? ⟨bw, ow + k * 4, none⟩ = some (.int .i64 x.acr.lo) ∧ w'.cell? ⟨bw, ow + k * 4 + 1, none⟩ = some (.int .i64 x.acr.hi)) W := ⟨k3.cell, z0, z1⟩
          refine held_take (i := 0) (v := ?_) 116 rfl rfl (by kernel_rfl) (by kernel_rfl) (by kernel_rfl) (fun _ _ _ h => h) (Or.inl ⟨by rfl, ?_⟩) hS ?_
          rotate_left 1
          · intro w' hSw
            try dsimp only at hSw
            obtain ⟨q1, q2, q3⟩ := hSw
            go_simp
            all_goals with_reducible rfl
          try simp only [Act.put, List.setIfInBounds_toArray, List.set_cons_zero, List.set_cons_succ]
          refine held_take (i := 1) (v := ?_) 117 rfl rfl (by kernel_rfl) (by kernel_rfl) (by kernel_rfl) (fun _ _ _ h => h) (Or.inl ⟨by rfl, ?_⟩) hS ?_
          rotate_left 1
          · intro w' hSw
            try dsimp only at hSw
            obtain ⟨q1, q2, q3⟩ := hSw
            go_simp
            all_goals with_reducible rfl
          try simp only [Act.put, List.setIfInBounds_toArray, List.set_cons_zero, List.set_cons_succ]
          refine held_take (i := 2) (v := ?_) 118 rfl rfl (by kernel_rfl) (by kernel_rfl) (by kernel_rfl) (fun _ _ _ h => h) (Or.inl ⟨by rfl, ?_⟩) hS ?_
          rotate_left 1
          · intro w' hSw
            try dsimp only at hSw
            obtain ⟨q1, q2, q3⟩ := hSw
            go_simp
            all_goals with_reducible rfl
          try simp only [Act.put, List.setIfInBounds_toArray, List.set_cons_zero, List.set_cons_succ]
          refine held_take (i := 3) (v := ?_) 119 rfl rfl (by kernel_rfl) (by kernel_rfl) (by kernel_rfl) (fun _ _ _ h => h) (Or.inl ⟨by rfl, ?_⟩) hS ?_
          rotate_left 1
          · intro w' hSw
            try dsimp only at hSw
            obtain ⟨q1, q2, q3⟩ := hSw
            go_simp
            all_goals with_reducible rfl
          try simp only [Act.put, List.setIfInBounds_toArray, List.set_cons_zero, List.set_cons_succ]
          refine held_take (i := 4) (v := ?_) 120 rfl rfl (by kernel_rfl) (by kernel_rfl) (by kernel_rfl) (fun _ _ _ h => h) (Or.inl ⟨by rfl, ?_⟩) hS ?_
          rotate_left 1
          · intro w' hSw
            try dsimp only at hSw
            obtain ⟨q1, q2, q3⟩ := hSw
            go_simp
            all_goals with_reducible rfl
          try simp only [Act.put, List.setIfInBounds_toArray, List.set_cons_zero, List.set_cons_succ]
          refine held_take (i := 5) (v := ?_) 121 rfl rfl (by kernel_rfl) (by kernel_rfl) (by kernel_rfl) (fun _ _ _ h => h) (Or.inl ⟨by rfl, ?_⟩) hS ?_
          rotate_left 1
          · intro w' hSw
            try dsimp only at hSw
            obtain ⟨q1, q2, q3⟩ := hSw
            go_simp
            all_goals with_reducible rfl
          try simp only [Act.put, List.setIfInBounds_toArray, List.set_cons_zero, List.set_cons_succ]
          refine held_take (i := 6) (v := ?_) 122 rfl rfl (by kernel_rfl) (by kernel_rfl) (by kernel_rfl) (fun _ _ _ h => h) (Or.inl ⟨by rfl, ?_⟩) hS ?_
          rotate_left 1
          · intro w' hSw
            try dsimp only at hSw
            obtain ⟨q1, q2, q3⟩ := hSw
            go_simp
            all_goals with_reducible rfl
          try simp only [Act.put, List.setIfInBounds_toArray, List.set_cons_zero, List.set_cons_succ]
          refine held_take (i := 7) (v := ?_) 123 rfl rfl (by kernel_rfl) (by kernel_rfl) (by kernel_rfl) (fun _ _ _ h => h) (Or.inl ⟨by rfl, ?_⟩) hS ?_
          rotate_left 1
          · intro w' hSw
            try dsimp only at hSw
            obtain ⟨q1, q2, q3⟩ := hSw
            go_simp
            all_goals with_reducible rfl
          try simp only [Act.put, List.setIfInBounds_toArray, List.set_cons_zero, List.set_cons_succ]
          refine held_take (i := 8) (v := ?_) 124 rfl rfl (by kernel_rfl) (by kernel_rfl) (by kernel_rfl) (fun _ _ _ h => h) (Or.inl ⟨by rfl, ?_⟩) hS ?_
          rotate_left 1
          · intro w' hSw
            try dsimp only at hSw
            obtain ⟨q1, q2, q3⟩ := hSw
            go_simp
            all_goals with_reducible rfl
          try simp only [Act.put, List.setIfInBounds_toArray, List.set_cons_zero, List.set_cons_succ]
          refine held_one (i := 9) (by kernel_rfl) rfl rfl (fun K hK => ?_)
          go_simp
          refine (hDn _).mono ?_
          rintro e W1 ⟨P7, m7, rfl, hr7, hbel⟩
          clear hDn
          replace hr7 := hr7.mono (Nat.zero_le _)
          clear hS
          replace k3 := k3.below hbel
          replace b := b.trans (hbel.mono b.size)
          replace hB0 := hB0.trans (hbel.mono hB0.size)
          replace hs := hs.below hbel
          replace hd := hd.below hbel
          replace hq := hq.below hbel
          replace hl := hl.below hbel
          replace hr1 := hr1.below hbel
          replace hr2 := hr2.below hbel
          replace hr3 := hr3.below hbel
          replace z0 := (hbel.cell (p := ⟨bw, ow + k * 4, none⟩) hbw).trans z0
          replace z1 := (hbel.cell (p := ⟨bw, ow + k * 4 + 1, none⟩) hbw).trans z1
          replace hbw := Nat.lt_of_lt_of_le hbw hbel.size
          (replace hr4 := hr4.below hbel; replace hr6 := hr6.below hbel)
          clear hbel
          have hS : (fun w' : World => (∀ j, w'.cell? ⟨w.heap.size, j, none⟩ = #[Value.int .i64 s.head, .slice A n c, .int .i64 s.lane.lo, .int .i64 s.lane.hi, .int .i64 s.bend, .slice O n co][j]?) ∧ w'.cell? ⟨bw, ow + k * 4, none⟩ = some (.int .i64 x.acr.lo) ∧ w'.cell? ⟨bw, ow + k * 4 + 1, none⟩ = some (.int .i64 x.acr.hi)) W1 := ⟨k3.cell, z0, z1⟩
          refine hK _ _ hS ?_
          clear hK K
          try simp only [Act.put, List.setIfInBounds_toArray, List.set_cons_zero, List.set_cons_succ]
          refine held_one (i := 10) (by kernel_rfl) rfl rfl (fun K hK => ?_)
          go_simp
          refine (hSl P7 m7 _ hs hr2 hr7).mono ?_
          rintro e W1 ⟨P8, n8_, m8, rfl, hr8, hbel⟩
          clear hSl hr7
          obtain rfl : n = n8_ := by have h9 : (E1.map (·.lo)).length = n8_ := hr8.len; rw [List.length_map] at h9; have := hlen1.out; omega
          replace hr8 := hr8.mono (Nat.zero_le _)
          clear hS
          replace k3 := k3.below hbel
          replace b := b.trans (hbel.mono b.size)
          replace hB0 := hB0.trans (hbel.mono hB0.size)
          replace hs := hs.below hbel
          replace hd := hd.below hbel
          replace hq := hq.below hbel
          replace hl := hl.below hbel
          replace hr1 := hr1.below hbel
          replace hr2 := hr2.below hbel
          replace hr3 := hr3.below hbel
          replace z0 := (hbel.cell (p := ⟨bw, ow + k * 4, none⟩) hbw).trans z0
          replace z1 := (hbel.cell (p := ⟨bw, ow + k * 4 + 1, none⟩) hbw).trans z1
          replace hbw := Nat.lt_of_lt_of_le hbw hbel.size
          (replace hr4 := hr4.below hbel; replace hr6 := hr6.below hbel)
          clear hbel
          have hS : (fun w' : World => (∀ j, w'.cell? ⟨w.heap.size, j, none⟩ = #[Value.int .i64 s.head, .slice A n c, .int .i64 s.lane.lo, .int .i64 s.lane.hi, .int .i64 s.bend, .slice O n co][j]?) ∧ w'.cell? ⟨bw, ow + k * 4, none⟩ = some (.int .i64 x.acr.lo) ∧ w'.cell? ⟨bw, ow + k * 4 + 1, none⟩ = some (.int .i64 x.acr.hi)) W1 := ⟨k3.cell, z0, z1⟩
          refine hK _ _ hS ?_
          clear hK K
          try simp only [Act.put, List.setIfInBounds_toArray, List.set_cons_zero, List.set_cons_succ]
          refine held_take (i := 11) (v := ?_) 115 rfl rfl (by kernel_rfl) (by kernel_rfl) (by kernel_rfl) (fun _ _ _ h => h) (Or.inl ⟨by rfl, ?_⟩) hS ?_
          rotate_left 1
          · intro w' hSw
            try dsimp only at hSw
            obtain ⟨q1, q2, q3⟩ := hSw
            go_simp
            all_goals with_reducible rfl
          try simp only [Act.put, List.setIfInBounds_toArray, List.set_cons_zero, List.set_cons_succ]
          refine held_take (i := 12) (v := ?_) 127 rfl rfl (by kernel_rfl) (by kernel_rfl) (by kernel_rfl) (fun _ _ _ h => h) (Or.inl ⟨by rfl, ?_⟩) hS ?_
          rotate_left 1
          · intro w' hSw
            try dsimp only at hSw
            obtain ⟨q1, q2, q3⟩ := hSw
            go_simp
            all_goals with_reducible rfl
          try simp only [Act.put, List.setIfInBounds_toArray, List.set_cons_zero, List.set_cons_succ]
          refine held_take (i := 13) (v := ?_) 128 rfl rfl (by kernel_rfl) (by kernel_rfl) (by kernel_rfl) (fun _ _ _ h => h) (Or.inl ⟨by rfl, ?_⟩) hS ?_
          rotate_left 1
          · intro w' hSw
            try dsimp only at hSw
            obtain ⟨q1, q2, q3⟩ := hSw
            go_simp
            all_goals with_reducible rfl
          try simp only [Act.put, List.setIfInBounds_toArray, List.set_cons_zero, List.set_cons_succ]
          refine held_take (i := 14) (v := ?_) 17 rfl rfl (by kernel_rfl) (by kernel_rfl) (by kernel_rfl) (fun _ _ _ h => h) (Or.inl ⟨by rfl, ?_⟩) hS ?_
          rotate_left 1
          · intro w' hSw
            try dsimp only at hSw
            obtain ⟨q1, q2, q3⟩ := hSw
            go_simp
            all_goals with_reducible rfl
          try simp only [Act.put, List.setIfInBounds_toArray, List.set_cons_zero, List.set_cons_succ]
          refine held_take (i := 15) (v := ?_) 18 rfl rfl (by kernel_rfl) (by kernel_rfl) (by kernel_rfl) (fun _ _ _ h => h) (Or.inl ⟨by rfl, ?_⟩) hS ?_
          rotate_left 1
          · intro w' hSw
            try dsimp only at hSw
            obtain ⟨q1, q2, q3⟩ := hSw
            go_simp
            all_goals with_reducible rfl
          try simp only [Act.put, List.setIfInBounds_toArray, List.set_cons_zero, List.set_cons_succ]
          refine wpAnyH_done (by kernel_rfl) (noPanic_normal ?_) _
          clear hS
          go_wp2_with fail
          go_loopw [19, 20] (fun v i wr => ∃ j : Nat, i = .int .i64 j ∧ j ≤ n ∧ wr.ownsRow W1.heap.size 3 1 v j ((List.replicate j x.acr.hi).map (.int .i64 ·)) ∧ Below W1.heap.size W1 wr) (fun v i wr => n - (intOf i).toNat)
          case atStart => exact ⟨0, rfl, Nat.zero_le _, ⟨rfl, .inl ⟨rfl, rfl⟩⟩, Below.refl _ _⟩
          case round =>
            obtain ⟨j, rfl, hj, hown, hb⟩ := hrel
            by_cases hlt : j < n
            · have hnx := Lib.hid (rep_succ x.acr.hi j)
              have y1 := (hb.cell (p := ⟨bw, ow + k * 4 + 1, none⟩) hbw).trans z1
              clear z0 z1
              have hj0 : (0 : Int) ≤ (j : Int) := by omega
              have hj1 : (j : Int) < (n : Int) := by omega
              have hk9 : k = k := rfl
              have hbig1 : Hid (j + 1 ≤ maxLen) := by show j + 1 ≤ maxLen; unfold maxLen; omega
              have hbig2 : Hid ((j + 1) * 8 ≤ 140737488355328) := by show (j + 1) * 8 ≤ 140737488355328; omega
              obtain ⟨i0, hi0, hz0, hz1, hz2⟩ := info_parts Try.infoInt
              have hnews : ∀ (q : Nat) (u : Value), ([.int .i64 x.acr.hi] : List Value)[q]? = some u → (wr.alloc (.cells #[.int .i64 x.acr.hi] 3)).cell? ((⟨wr.heap.size, 0, none⟩ : Addr).add q) = some u :=
                World.news_of_block (cs := #[.int .i64 x.acr.hi]) (World.alloc_heap_new wr _)
              have hownf := hown.alloc (.cells #[.int .i64 x.acr.hi] 3)
              have hbf := hb.alloc hb.size (.cells #[.int .i64 x.acr.hi] 3)
              go_wp2_with (at_builtin; refine wpList_append_lies _ rfl (.tmp 134) (.tmp 141) 27 rfl W1.heap.size 3 i0 (.int .i64 0) 1 8 Try.underlying27 hi0 hz0 hz1 hz2 rfl (by decide) u19 j ((List.replicate j x.acr.hi).map (.int .i64 ·)) rfl hownf ⟨wr.heap.size, 0, none⟩ 1 1 [.int .i64 x.acr.hi] rfl rfl hnews (by simp [Value.oneCell']) (by decide) hbig1.out hbig2.out hbf.size (wr.heap.size + 1) (by simp) ?_; intro g cap w7 hown7 hgrow hlies hlt7)
              have hbg : Below W1.heap.size _ w7 := ⟨hgrow.os, hgrow.tape, hgrow.output, hgrow.size, fun b hb2 => hgrow.block b (Nat.lt_of_lt_of_le hb2 hbf.size) (fun e => by have := (hownf.lt _ e.symm).1; omega)⟩
              have hbh := hbf.trans hbg
              go_roundw
              case rel =>
                refine ⟨j + 1, by go_num, by omega, ?_, hbh⟩
                rw [hnx.out]
                simpa using hown7
              case measure => simp [intOf]; omega
            · obtain rfl : j = n := by omega
              obtain ⟨P9, m9, e9, hr9⟩ := SlAt.of_own (enc := ivs) hown (by omega) (List.replicate j x.acr.hi) (flatMap_ivs _).symm (fun _ => rfl) (by simp)
              subst e9
              replace hr9 := hr9.mono (Nat.zero_le _)
              have hbel := hb
              replace k3 := k3.below hbel
              replace b := b.trans (hbel.mono b.size)
              replace hB0 := hB0.trans (hbel.mono hB0.size)
              replace hs := hs.below hbel
              replace hd := hd.below hbel
              replace hq := hq.below hbel
              replace hl := hl.below hbel
              replace hr1 := hr1.below hbel
              replace hr2 := hr2.below hbel
              replace hr3 := hr3.below hbel
              replace z0 := (hbel.cell (p := ⟨bw, ow + k * 4, none⟩) hbw).trans z0
              replace z1 := (hbel.cell (p := ⟨bw, ow + k * 4 + 1, none⟩) hbw).trans z1
              replace hbw := Nat.lt_of_lt_of_le hbw hbel.size
              replace hr4 := hr4.below hbel
              replace hr6 := hr6.below hbel
              replace hr8 := hr8.below hbel
              clear hbel hown hb
              generalize wr = W at *
              obtain ⟨c3, f3_, l3⟩ := k3.rules
              go_wp2_with fail
              refine (hSh P9 m9 _ hs hr3 hr9).mono ?_
              clear hSh c3 f3_ l3
              rintro e W2 ⟨P10, n10, m10, rfl, hr10, hbel⟩
              obtain rfl : j = n10 := by have h9 : (E1.map (·.hi)).length = n10 := hr10.len; rw [List.length_map] at h9; have := hlen1.out; omega
              replace hr10 := hr10.mono (Nat.zero_le _)
              clear hr9
              replace k3 := k3.below hbel
              replace b := b.trans (hbel.mono b.size)
              replace hB0 := hB0.trans (hbel.mono hB0.size)
              replace hs := hs.below hbel
              replace hd := hd.below hbel
              replace hq := hq.below hbel
              replace hl := hl.below hbel
              replace hr1 := hr1.below hbel
              replace hr2 := hr2.below hbel
              replace hr3 := hr3.below hbel
              replace z0 := (hbel.cell (p := ⟨bw, ow + k * 4, none⟩) hbw).trans z0
              replace z1 := (hbel.cell (p := ⟨bw, ow + k * 4 + 1, none⟩) hbw).trans z1
              replace hbw := Nat.lt_of_lt_of_le hbw hbel.size
              replace hr4 := hr4.below hbel
              replace hr6 := hr6.below hbel
              replace hr8 := hr8.below hbel
              clear hbel
              go_wp2_with fail
              go_loopw [23] (fun i wr => ∃ q : Nat, i = .int .i64 q ∧ q ≤ j ∧ Below W2.heap.size W2 wr) (fun i wr => j - (intOf i).toNat)
              case atStart => exact ⟨0, rfl, Nat.zero_le _, Below.refl _ _⟩
              case round =>
                obtain ⟨q, rfl, hqn, hb⟩ := hrel
                by_cases hlt2 : q < j
                · obtain ⟨z, hz⟩ := some_of_lt hlen1.out hlt2
                  obtain ⟨y, hy⟩ := some_of_lt hlen2.out hlt2
                  have hin := f3.out.2 q y z hy hz
                  have hzl : (E1.map (·.lo))[q]? = some z.lo := by rw [List.getElem?_map, hz]; rfl
                  have hzh : (E1.map (·.hi))[q]? = some z.hi := by rw [List.getElem?_map, hz]; rfl
                  obtain ⟨b4, o4, hP4, -, -, e40, e41⟩ := (hr4.below hb).bnd hz
                  obtain ⟨b6, o6, hP6, -, -, e6⟩ := (hr6.below hb).int hy
                  obtain ⟨b8, o8, hP8, -, -, e8⟩ := (hr8.below hb).int hzl
                  obtain ⟨b10, o10, hP10, -, -, e10⟩ := (hr10.below hb).int hzh
                  have hB := fun W => flip_w (Between_any y z.lo z.hi W)
                  simp only [decide_eq_true (show z.lo ≤ y ∧ y ≤ z.hi from hin)] at hB
                  clear hin
                  replace hz := Lib.hid hz
                  replace hy := Lib.hid hy
                  replace hzl := Lib.hid hzl
                  replace hzh := Lib.hid hzh
                  have hq0 : (0 : Int) ≤ (q : Int) := by omega
                  have hq1 : (q : Int) < (j : Int) := by omega
                  subst hP4
                  subst hP6
                  subst hP8
                  subst hP10
                  clear z0 z1
                  go_wp2_with fail
                  go_quiet ((go_at_call 32; with_reducible exact Calls.quiet_of_same (hB _)))
                  go_wp2
                  go_roundw
                  case rel => exact ⟨q + 1, by go_num, by omega, below_drewN hb _⟩
                  case measure => simp [intOf]; omega
                · obtain rfl : q = j := by omega
                  clear z0 z1
                  go_wp2
                  go_roundw
                  case rel => exact ⟨k + 1, P4, P6, P8, P10, m4, m6, m8, m10, tr1, by go_num, by omega, rfl, rfl, rfl, rfl, by rw [hE1.out]; exact hr4.below hb, hr6.below hb, by rw [hE1.out]; exact hr8.below hb, by rw [hE1.out]; exact hr10.below hb, by rw [hE1.out]; exact f3.out, hB0.trans (hb.mono hB0.size)⟩
                  case measure => simp [intOf]; omega
        · obtain rfl : k = nd := by omega
          go_wp2_with fail
          refine (works_any _).mono ?_
          rintro e W ⟨rfl, hbel⟩
          go_wp2
          go_ret
          exact ⟨rfl, b.trans (hbel.mono b.size)⟩
end Go.Proofs.Ytjiaepphnddpoaa
