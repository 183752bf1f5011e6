/-
  The law TowWithin.
-/
import Derived.Test.YtjiaepphnddpoaaL5a
namespace Go.Proofs.Ytjiaepphnddpoaa
open Go.RowKit Go.Shelf
set_option linter.unusedSimpArgs false
set_option linter.unusedVariables false

set_option maxRecDepth 100000 in
set_option maxHeartbeats 16000000 in
theorem TowWithin_bad (s : Strm) (A O D Q : Option Addr) (n c no co nd cd nq cq : Nat) (bs : List Bnd) (l : List Wat) (bits : List Int) (w : World) (hs : SlAt w 0 5 Sec.cells A n c s.secs) (hl : SlAt w 0 2 Bnd.cells O no co bs) (hd : SlAt w 0 4 Wat.cells D nd cd l) (hq : SlAt w 0 1 ivs Q nq cq bits) (hnd : nd ≤ 48) (hwo : okWats l = true) (herr : errB s bs ≠ 0) :
    Calls Try.prog 6 #[.agg #[.int .i64 s.head, .slice A n c, .int .i64 s.lane.lo, .int .i64 s.lane.hi, .int .i64 s.bend, .slice O no co], .slice D nd cd, .slice Q nq cq] w fun e w' => e = .returned (.bool true) ∧ Below w.heap.size w w' := by
  obtain ⟨w1, hw1⟩ : ∃ w1, w1 = w.alloc (.cells #[.int .i64 s.head, .slice A n c, .int .i64 s.lane.lo, .int .i64 s.lane.hi, .int .i64 s.bend, .slice O no co] 37) := ⟨_, rfl⟩
  have k3 : Blk w1 w.heap.size 37 #[.int .i64 s.head, .slice A n c, .int .i64 s.lane.lo, .int .i64 s.lane.hi, .int .i64 s.bend, .slice O no co] := by rw [hw1]; exact Blk.new _ _ _
  have b : Below w.heap.size w w1 := by rw [hw1]; exact (Below.refl _ _).alloc (Nat.le_refl _) _
  replace hs : SlAt w1 0 5 Sec.cells A n c s.secs := by rw [hw1]; exact hs.alloc _
  replace hl : SlAt w1 0 2 Bnd.cells O no co bs := by rw [hw1]; exact hl.alloc _
  replace hd : SlAt w1 0 4 Wat.cells D nd cd l := by rw [hw1]; exact hd.alloc _
  replace hq : SlAt w1 0 1 ivs Q nq cq bits := by rw [hw1]; exact hq.alloc _
  have hdl := Lib.hid hd.len
  have hll := Lib.hid hl.len
  have hsl := Lib.hid hs.len
  have hno := hl.le
  have hCW := fun W h => waters_any D nd cd 0 l W h
  have e1 : chkWats l = 0 := by rw [chkWats, hwo]; rfl
  simp only [e1] at hCW
  have hwl : Hid (l.all okWat = true) := by unfold okWats at hwo; simp only [Bool.and_eq_true] at hwo; exact hwo.2
  clear e1 hwo
  go_enter Try.func6, Try.ntmps6
  go_wp2_with fail
  rw [← hw1]
  clear hw1
  refine (hCW _ hd).mono ?_
  clear hCW
  rintro e W ⟨rfl, hbel⟩
  replace k3 := k3.below hbel
  replace b := b.trans (hbel.mono b.size)
  replace hs := hs.below hbel
  replace hl := hl.below hbel
  replace hd := hd.below hbel
  replace hq := hq.below hbel
  clear hbel
  obtain ⟨c3, f3, l3⟩ := k3.rules
  go_wp2_with fail
  refine (inside_any bs bits 0 O Q no co nq cq 0 0 _ (by omega) (by omega) hl hq).mono ?_
  rintro e W ⟨P1, m1, rfl, hr1, hbel⟩
  clear c3 f3 l3
  replace k3 := k3.below hbel
  replace b := b.trans (hbel.mono b.size)
  replace hs := hs.below hbel
  replace hl := hl.below hbel
  replace hd := hd.below hbel
  replace hq := hq.below hbel
  clear hbel
  replace hr1 := hr1.mono (Nat.zero_le _)
  go_wp2_with fail
  refine (inside_any bs [] 0 O none no co 0 0 0 0 _ (by omega) (by omega) hl (SlAt.nil _ _ _ _)).mono ?_
  rintro e W ⟨P2, m2, rfl, hr2, hbel⟩
  replace hr1 := hr1.below hbel
  replace k3 := k3.below hbel
  replace b := b.trans (hbel.mono b.size)
  replace hs := hs.below hbel
  replace hl := hl.below hbel
  replace hd := hd.below hbel
  replace hq := hq.below hbel
  clear hbel
  replace hr2 := hr2.mono (Nat.zero_le _)
  go_wp2_with fail
  have hown0 := owns0 W 3 1
  have hbel : Below W.heap.size W (W.alloc (.cells #[] 3)) := (Below.refl _ _).alloc (Nat.le_refl _) _
  have hz := W.heap.size
  go_loopw [10, 11] (fun v i wr => ∃ k : Nat, i = .int .i64 k ∧ k ≤ no ∧ wr.ownsRow W.heap.size 3 1 v k (((bs.take k).map (·.hi)).map (.int .i64 ·)) ∧ Below W.heap.size W wr) (fun v i wr => no - (intOf i).toNat)
  case atStart => exact ⟨0, rfl, Nat.zero_le _, hown0, hbel⟩
  case round =>
    obtain ⟨k, rfl, hk, hown, hb⟩ := hrel
    by_cases hlt : k < no
    · obtain ⟨x, hx⟩ := some_of_lt hll.out hlt
      have hnx : Hid (((bs.take (k + 1)).map (·.hi)).map (.int .i64 ·) = ((bs.take k).map (·.hi)).map (Value.int .i64 ·) ++ [.int .i64 x.hi]) := by show _ = _; rw [mapTake_succ _ hx, List.map_append]; rfl
      obtain ⟨bb, off, rfl, -, hbl, d0, d1⟩ := (hl.below hb).bnd hx
      replace hx := Lib.hid hx
      have hk0 : (0 : Int) ≤ (k : Int) := by omega
      have hk1 : (k : Int) < (no : Int) := by omega
      have hbig1 : Hid (k + 1 ≤ maxLen) := by show k + 1 ≤ maxLen; unfold maxLen; omega
      have hbig2 : Hid ((k + 1) * 8 ≤ 140737488355328) := by show (k + 1) * 8 ≤ 140737488355328; omega
      obtain ⟨i0, hi0, hz0, hz1, hz2⟩ := info_parts Try.infoInt
      have hnews : ∀ (j : Nat) (u : Value), ([.int .i64 (x.hi)] : List Value)[j]? = some u → (wr.alloc (.cells #[.int .i64 (x.hi)] 3)).cell? ((⟨wr.heap.size, 0, none⟩ : Addr).add j) = some u :=
        World.news_of_block (cs := #[.int .i64 (x.hi)]) (World.alloc_heap_new wr _)
      have hownf := hown.alloc (.cells #[.int .i64 (x.hi)] 3)
      have hbf := hb.alloc hb.size (.cells #[.int .i64 (x.hi)] 3)
      go_wp2_with (at_builtin; refine wpList_append_lies _ rfl (.tmp 47) (.tmp 53) 27 rfl W.heap.size 3 i0 (.int .i64 0) 1 8 Try.underlying27 hi0 hz0 hz1 hz2 rfl (by decide) u10 k (((bs.take k).map (·.hi)).map (.int .i64 ·)) rfl hownf ⟨wr.heap.size, 0, none⟩ 1 1 [.int .i64 (x.hi)] rfl rfl hnews (by simp [Value.oneCell']) (by decide) hbig1.out hbig2.out (hbf.size) (wr.heap.size + 1) (by simp) ?_; intro g cap w7 hown7 hgrow hlies hlt7)
      have hbg : Below W.heap.size _ w7 := ⟨hgrow.os, hgrow.tape, hgrow.output, hgrow.size, fun b hb2 => hgrow.block b (Nat.lt_of_lt_of_le hb2 hbf.size) (fun e => by have := (hownf.lt _ e.symm).1; omega)⟩
      have hbh := hbf.trans hbg
      go_roundw
      case rel =>
        refine ⟨k + 1, by go_num, by omega, ?_, hbh⟩
        rw [hnx.out]
        simpa using hown7
      case measure => simp [intOf]; omega
    · obtain rfl : k = no := by omega
      have ht : bs.take k = bs := List.take_of_length_le (by rw [hll.out]; exact Nat.le_refl _)
      rw [ht] at hown
      obtain ⟨P3, m3, e3, hr3⟩ := SlAt.of_own (enc := ivs) hown (by omega) (bs.map (·.hi)) (flatMap_ivs _).symm (fun _ => rfl) (by rw [List.length_map]; exact hll.out)
      subst e3
      replace hr3 := hr3.mono (Nat.zero_le _)
      have hbel := hb
      replace hr1 := hr1.below hbel
      replace hr2 := hr2.below hbel
      replace k3 := k3.below hbel
      replace b := b.trans (hbel.mono b.size)
      replace hs := hs.below hbel
      replace hl := hl.below hbel
      replace hd := hd.below hbel
      replace hq := hq.below hbel
      clear hbel
      clear hown hb ht
      generalize wr = W at *
      go_wp2_with fail
      have her : errB s bs = 30 ∨ errB s bs = 31 := by
        unfold errB at herr ⊢
        repeat' split at herr
        all_goals simp_all
      have hnil : ∀ d, encR s bs d = ([], errB s bs) := fun d => by rw [encR, if_neg herr]
      clear hr1 hr2 hr3
      obtain ⟨er, her2⟩ : ∃ er, er = errB s bs := ⟨_, rfl⟩
      simp only [← her2] at hnil her herr
      replace her2 := Lib.hid her2
      replace hnil := Lib.hid hnil
      go_loopw [7, 12] (fun vb i wr => vb = .slice O k co ∧ i = .int .i64 0 ∧ wr = W) (fun vb i wr => 0)
      case atStart => exact ⟨rfl, rfl, rfl⟩
      case round =>
        obtain ⟨rfl, rfl, rfl⟩ := hrel
        by_cases hn0 : nd = 0
        · have hlt : ¬ (0 : Int) < (nd : Int) := by omega
          replace hn0 := Lib.hid hn0
          go_wp2_with fail
          refine (works_any _).mono ?_
          rintro e W ⟨rfl, hbel⟩
          go_wp2
          go_ret
          exact ⟨rfl, b.trans (hbel.mono b.size)⟩
        · obtain ⟨x, hx⟩ := some_of_lt hdl.out (show 0 < nd by omega)
          have hEn := fun W h1 h2 => Enclose_any s A O n c k co 0 0 bs x.acr W h1 h2
          simp only [hnil.out] at hEn
          obtain ⟨bw, ow, hA, -, hbw, z0, z1, -, -⟩ := hd.wat hx
          rw [Nat.zero_mul, Nat.add_zero] at z0 z1
          replace hx := Lib.hid hx
          subst hA
          have hk1 : (0 : Int) < (nd : Int) := by omega
          replace hn0 := Lib.hid hn0
          rcases her with rfl | rfl
          all_goals
            go_wp2_with fail
            refine wp_held_np (fun w' : World => (∀ j, w'.cell? ⟨w.heap.size, j, none⟩ = #[Value.int .i64 s.head, .slice A n c, .int .i64 s.lane.lo, .int .i64 s.lane.hi, .int .i64 s.bend, .slice O k co][j]?) ∧ w'.cell? ⟨bw, ow, none⟩ = some (.int .i64 x.acr.lo) ∧ w'.cell? ⟨bw, ow + 1, none⟩ = some (.int .i64 x.acr.hi)) (by kernel_rfl) ?_
            have hbel : Below wr.heap.size wr wr.drew := (Below.refl _ _).drew
            replace z0 := (hbel.cell (p := ⟨bw, ow, none⟩) hbw).trans z0
            replace z1 := (hbel.cell (p := ⟨bw, ow + 1, none⟩) hbw).trans z1
            replace k3 := k3.below hbel
            replace b := b.trans (hbel.mono b.size)
            replace hs := hs.below hbel
            replace hl := hl.below hbel
            replace hd := hd.below hbel
            replace hq := hq.below hbel
            clear hbel
            generalize wr.drew = W at *
            have hS : (fun w' : World => (∀ j, w'.cell? ⟨w.heap.size, j, none⟩ = #[Value.int .i64 s.head, .slice A n c, .int .i64 s.lane.lo, .int .i64 s.lane.hi, .int .i64 s.bend, .slice O k co][j]?) ∧ w'.cell? ⟨bw, ow, none⟩ = some (.int .i64 x.acr.lo) ∧ w'.cell? ⟨bw, ow + 1, none⟩ = some (.int .i64 x.acr.hi)) W := ⟨k3.cell, z0, z1⟩
            refine held_take (i := 0) (v := ?_) 62 rfl rfl (by kernel_rfl) (by kernel_rfl) (by kernel_rfl) (fun _ _ _ h => h) (Or.inl ⟨by rfl, ?_⟩) hS ?_
            rotate_left 1
            · intro w' hSw
              try dsimp only at hSw
              obtain ⟨q1, q2, q3⟩ := hSw
              go_simp
              all_goals with_reducible rfl
            try simp only [Act.put, List.setIfInBounds_toArray, List.set_cons_zero, List.set_cons_succ]
            refine held_take (i := 1) (v := ?_) 63 rfl rfl (by kernel_rfl) (by kernel_rfl) (by kernel_rfl) (fun _ _ _ h => h) (Or.inl ⟨by rfl, ?_⟩) hS ?_
            rotate_left 1
            · intro w' hSw
              try dsimp only at hSw
              obtain ⟨q1, q2, q3⟩ := hSw
              go_simp
              all_goals with_reducible rfl
            try simp only [Act.put, List.setIfInBounds_toArray, List.set_cons_zero, List.set_cons_succ]
            refine held_take (i := 2) (v := ?_) 64 rfl rfl (by kernel_rfl) (by kernel_rfl) (by kernel_rfl) (fun _ _ _ h => h) (Or.inl ⟨by rfl, ?_⟩) hS ?_
            rotate_left 1
            · intro w' hSw
              try dsimp only at hSw
              obtain ⟨q1, q2, q3⟩ := hSw
              go_simp
              all_goals with_reducible rfl
            try simp only [Act.put, List.setIfInBounds_toArray, List.set_cons_zero, List.set_cons_succ]
            refine held_take (i := 3) (v := ?_) 65 rfl rfl (by kernel_rfl) (by kernel_rfl) (by kernel_rfl) (fun _ _ _ h => h) (Or.inl ⟨by rfl, ?_⟩) hS ?_
            rotate_left 1
            · intro w' hSw
              try dsimp only at hSw
              obtain ⟨q1, q2, q3⟩ := hSw
              go_simp
              all_goals with_reducible rfl
            try simp only [Act.put, List.setIfInBounds_toArray, List.set_cons_zero, List.set_cons_succ]
            refine held_take (i := 4) (v := ?_) 66 rfl rfl (by kernel_rfl) (by kernel_rfl) (by kernel_rfl) (fun _ _ _ h => h) (Or.inl ⟨by rfl, ?_⟩) hS ?_
            rotate_left 1
            · intro w' hSw
              try dsimp only at hSw
              obtain ⟨q1, q2, q3⟩ := hSw
              go_simp
              all_goals with_reducible rfl
            try simp only [Act.put, List.setIfInBounds_toArray, List.set_cons_zero, List.set_cons_succ]
            refine held_take (i := 5) (v := ?_) 67 rfl rfl (by kernel_rfl) (by kernel_rfl) (by kernel_rfl) (fun _ _ _ h => h) (Or.inl ⟨by rfl, ?_⟩) hS ?_
            rotate_left 1
            · intro w' hSw
              try dsimp only at hSw
              obtain ⟨q1, q2, q3⟩ := hSw
              go_simp
              all_goals with_reducible rfl
            try simp only [Act.put, List.setIfInBounds_toArray, List.set_cons_zero, List.set_cons_succ]
            refine held_take (i := 6) (v := ?_) 68 rfl rfl (by kernel_rfl) (by kernel_rfl) (by kernel_rfl) (fun _ _ _ h => h) (Or.inl ⟨by rfl, ?_⟩) hS ?_
            rotate_left 1
            · intro w' hSw
              try dsimp only at hSw
              obtain ⟨q1, q2, q3⟩ := hSw
              go_simp
              all_goals with_reducible rfl
            try simp only [Act.put, List.setIfInBounds_toArray, List.set_cons_zero, List.set_cons_succ]
            refine held_take (i := 7) (v := ?_) 69 rfl rfl (by kernel_rfl) (by kernel_rfl) (by kernel_rfl) (fun _ _ _ h => h) (Or.inl ⟨by rfl, ?_⟩) hS ?_
            rotate_left 1
            · intro w' hSw
              try dsimp only at hSw
              obtain ⟨q1, q2, q3⟩ := hSw
              go_simp
              all_goals with_reducible rfl
            try simp only [Act.put, List.setIfInBounds_toArray, List.set_cons_zero, List.set_cons_succ]
            refine held_one (i := 8) (by kernel_rfl) rfl rfl (fun K hK => ?_)
            go_simp
            refine (hEn _ hs hl).mono ?_
            rintro e W1 ⟨P4, n4, m4, rfl, hr4, hbel⟩
            clear hEn hS
            obtain rfl : n4 = 0 := by have h9 : ([] : List Bnd).length = n4 := hr4.len; exact h9.symm
            have hbw2 : bw < W.heap.size := World.block_lt_of_cell? W _ z0
            replace z0 := (hbel.cell (p := ⟨bw, ow, none⟩) hbw2).trans z0
            replace z1 := (hbel.cell (p := ⟨bw, ow + 1, none⟩) hbw2).trans z1
            replace k3 := k3.below hbel
            replace b := b.trans (hbel.mono b.size)
            replace hs := hs.below hbel
            replace hl := hl.below hbel
            replace hd := hd.below hbel
            replace hq := hq.below hbel
            clear hbel
            have hS : (fun w' : World => (∀ j, w'.cell? ⟨w.heap.size, j, none⟩ = #[Value.int .i64 s.head, .slice A n c, .int .i64 s.lane.lo, .int .i64 s.lane.hi, .int .i64 s.bend, .slice O k co][j]?) ∧ w'.cell? ⟨bw, ow, none⟩ = some (.int .i64 x.acr.lo) ∧ w'.cell? ⟨bw, ow + 1, none⟩ = some (.int .i64 x.acr.hi)) W1 := ⟨k3.cell, z0, z1⟩
            refine hK _ _ hS ?_
            clear hK K
            try simp only [Act.put, List.setIfInBounds_toArray, List.set_cons_zero, List.set_cons_succ]
            refine held_take (i := 9) (v := ?_) 61 rfl rfl (by kernel_rfl) (by kernel_rfl) (by kernel_rfl) (fun _ _ _ h => h) (Or.inl ⟨by rfl, ?_⟩) hS ?_
            rotate_left 1
            · intro w' hSw
              try dsimp only at hSw
              obtain ⟨q1, q2, q3⟩ := hSw
              go_simp
              all_goals with_reducible rfl
            try simp only [Act.put, List.setIfInBounds_toArray, List.set_cons_zero, List.set_cons_succ]
            refine held_take (i := 10) (v := ?_) 71 rfl rfl (by kernel_rfl) (by kernel_rfl) (by kernel_rfl) (fun _ _ _ h => h) (Or.inl ⟨by rfl, ?_⟩) hS ?_
            rotate_left 1
            · intro w' hSw
              try dsimp only at hSw
              obtain ⟨q1, q2, q3⟩ := hSw
              go_simp
              all_goals with_reducible rfl
            try simp only [Act.put, List.setIfInBounds_toArray, List.set_cons_zero, List.set_cons_succ]
            refine held_take (i := 11) (v := ?_) 72 rfl rfl (by kernel_rfl) (by kernel_rfl) (by kernel_rfl) (fun _ _ _ h => h) (Or.inl ⟨by rfl, ?_⟩) hS ?_
            rotate_left 1
            · intro w' hSw
              try dsimp only at hSw
              obtain ⟨q1, q2, q3⟩ := hSw
              go_simp
              all_goals with_reducible rfl
            try simp only [Act.put, List.setIfInBounds_toArray, List.set_cons_zero, List.set_cons_succ]
            refine held_take (i := 12) (v := ?_) 13 rfl rfl (by kernel_rfl) (by kernel_rfl) (by kernel_rfl) (fun _ _ _ h => h) (Or.inl ⟨by rfl, ?_⟩) hS ?_
            rotate_left 1
            · intro w' hSw
              try dsimp only at hSw
              obtain ⟨q1, q2, q3⟩ := hSw
              go_simp
              all_goals with_reducible rfl
            try simp only [Act.put, List.setIfInBounds_toArray, List.set_cons_zero, List.set_cons_succ]
            refine held_take (i := 13) (v := ?_) 14 rfl rfl (by kernel_rfl) (by kernel_rfl) (by kernel_rfl) (fun _ _ _ h => h) (Or.inl ⟨by rfl, ?_⟩) hS ?_
            rotate_left 1
            · intro w' hSw
              try dsimp only at hSw
              obtain ⟨q1, q2, q3⟩ := hSw
              go_simp
              all_goals with_reducible rfl
            try simp only [Act.put, List.setIfInBounds_toArray, List.set_cons_zero, List.set_cons_succ]
            refine wpAnyH_done (by kernel_rfl) (noPanic_normal ?_) _
            clear hS
            go_wp2_with fail
            refine (works_any _).mono ?_
            rintro e W ⟨rfl, hbel⟩
            go_wp2
            go_ret
            exact ⟨rfl, b.trans (hbel.mono b.size)⟩
end Go.Proofs.Ytjiaepphnddpoaa
