/-
  Small helpers of the statements: drifts, sums, lists compared, a list of one's own.
-/
import Derived.Test.YtjiaepphnddpoaaGreatM1
namespace Go.Proofs.YtjiaepphnddpoaaGreat
open Go.RowKit Go.Shelf
set_option linter.unusedSimpArgs false
set_option linter.unusedVariables false

theorem quiet_more {P : Program} {f : FuncId} {args : Array Value} {w : World} {a x : Nat} {v : Value} (h : Calls P f args (w.drewN (a + x)) fun e w' => e = .returned v ∧ w' = w.drewN (a + x)) : Calls P f args (w.drewN (a + x)) fun e w'' => e = .returned v ∧ ∃ n, w'' = w.drewN (a + n) :=
  h.mono fun _ _ ⟨he, hm⟩ => ⟨he, x, hm⟩
def drTo (b : Bnd) (bits : List Int) (fr : Int) (k : Nat) : List Int := (List.range k).map fun i => insB bits fr i b
theorem drTo_succ (b : Bnd) (bits : List Int) (fr : Int) (k : Nat) : drTo b bits fr (k + 1) = drTo b bits fr k ++ [insB bits fr k b] := by
  unfold drTo; rw [List.range_succ, List.map_append, List.map_singleton]
theorem drTo_len (b : Bnd) (bits : List Int) (fr : Int) (k : Nat) : (drTo b bits fr k).length = k := by simp [drTo]
theorem drTo_at (b : Bnd) (bits : List Int) (fr : Int) {i k : Nat} (h : i < k) : (drTo b bits fr k)[i]? = some (insB bits fr i b) := by
  unfold drTo; rw [List.getElem?_map, List.getElem?_range h]; rfl
theorem drTo_in {b : Bnd} (bits : List Int) (fr : Int) (k : Nat) {m : Int} (hm : m ≤ 100000) (h : okBnd m b = true) {i : Nat} (hi : i < k) : inB ((drTo b bits fr k).getD i 0) b := by
  rw [getD_of _ (drTo_at b bits fr hi)]
  exact (insB_in bits fr i hm h).1
theorem drTo_ok {s : Strm} {b : Bnd} (bits : List Int) (fr : Int) (h : okBnd 100 b = true) : okNums s (drTo b bits fr s.secs.length) 100 = true := by
  unfold okNums
  rw [Bool.and_eq_true]
  refine ⟨decide_eq_true (drTo_len _ _ _ _), List.all_eq_true.2 fun x hx => ?_⟩
  obtain ⟨i, hi⟩ := List.mem_iff_getElem?.1 hx
  have hl := lt_of_at hi
  rw [drTo_len] at hl
  rw [drTo_at b bits fr hl] at hi
  cases hi
  obtain ⟨h1, h2, h3⟩ := of_decide_eq_true h
  have := (insB_in bits fr i (by omega) h).1
  unfold inB at this
  exact decide_eq_true (by omega)
set_option maxRecDepth 100000 in
set_option maxHeartbeats 1000000 in
theorem drifts_any (x : Bnd) (n : Nat) (bits : List Int) (fr : Int) (O : Option Addr) (no co B2 : Nat) (w : World) (hn : n ≤ 17592186044416) (hf1 : -1000000 ≤ fr) (hf2 : fr ≤ 1000000) (ho : SlAt w B2 1 ivs O no co bits) :
    Calls Tryz.prog 39 #[.agg #[.int .i64 x.lo, .int .i64 x.hi], .int .i64 (n : Int), .slice O no co, .int .i64 fr] w fun e w' => ∃ P pc, e = .returned (.slice P n pc) ∧ SlAt w' w.heap.size 1 ivs P n pc (drTo x bits fr n) ∧ Below w.heap.size w w' := by
  obtain ⟨w1, hw1⟩ : ∃ w1, w1 = w.alloc (.cells #[.int .i64 x.lo, .int .i64 x.hi] 24) := ⟨_, rfl⟩
  have k4 : Blk w1 w.heap.size 24 #[.int .i64 x.lo, .int .i64 x.hi] := by rw [hw1]; exact Blk.new _ _ _
  have hb1 : Below w.heap.size w w1 := by rw [hw1]; exact (Below.refl _ _).alloc (Nat.le_refl _) _
  have hz1 : w.heap.size ≤ w1.heap.size := hb1.size
  replace ho : SlAt w1 B2 1 ivs O no co bits := by rw [hw1]; exact ho.alloc _
  go_enter Tryz.func39, Tryz.ntmps39
  go_wp2_with fail
  rw [← hw1]
  clear hw1
  go_loopw [9, 10] (fun v i wr => ∃ k : Nat, i = .int .i64 k ∧ k ≤ n ∧ wr.ownsRow w1.heap.size 3 1 v k ((drTo x bits fr k).map (.int .i64 ·)) ∧ Below w1.heap.size w1 wr) (fun v i wr => n - (intOf i).toNat)
  case atStart => exact ⟨0, rfl, Nat.zero_le _, ⟨rfl, .inl ⟨rfl, rfl⟩⟩, Below.refl _ _⟩
  case round =>
    obtain ⟨k, rfl, hk, hown, hb⟩ := hrel
    have k4w := k4.belowB hb k4.lt
    by_cases hlt : k < n
    · have hnx : Hid ((drTo x bits fr (k + 1)).map (.int .i64 ·) = (drTo x bits fr k).map (Value.int .i64 ·) ++ [.int .i64 (insB bits fr k x)]) := by show _ = _; rw [drTo_succ, List.map_append]; rfl
      have hP := fun q => Pick_any bits q O no co B2 wr.drew (ho.keep hb.size (fun _ _ h => hb.cell h)).drew
      have hR := fun a => Rest_any a (wrap64 (wrap64 (x.hi - x.lo) + 1)) wr.drew (wrap64_le _)
      have hk0 : (0 : Int) ≤ (k : Int) := by omega
      have hk1 : (k : Int) < (n : Int) := by omega
      have t1 := IntWalk.i64_in (fr + (k : Int)) (by omega)
      have hw := IntWalk.i64_left
      go_wp2_with fail
      refine wp_held_np (fun w' : World => w'.cell? ⟨w.heap.size, 0, none⟩ = some (.int .i64 x.lo) ∧ w'.cell? ⟨w.heap.size, 1, none⟩ = some (.int .i64 x.hi)) (by kernel_rfl) ?_
      replace hb := hb.drew
      replace hown : wr.drew.ownsRow _ _ _ _ _ _ := hown
      replace k4w := k4w.drew
      have hS : (fun w' : World => w'.cell? ⟨w.heap.size, 0, none⟩ = some (.int .i64 x.lo) ∧ w'.cell? ⟨w.heap.size, 1, none⟩ = some (.int .i64 x.hi)) wr.drew := ⟨k4w.cell 0, k4w.cell 1⟩
      generalize wr.drew = W at *
      refine held_take (i := 0) (v := ?_) 16 rfl rfl (by kernel_rfl) (by kernel_rfl) (by kernel_rfl) (fun _ _ _ h => h) (Or.inl ⟨by rfl, ?_⟩) hS ?_
      rotate_left 1
      · intro w' hSw
        try dsimp only at hSw
        obtain ⟨q1, q2⟩ := hSw
        go_simp
        all_goals with_reducible rfl
      try simp only [Act.put, List.setIfInBounds_toArray, List.set_cons_zero, List.set_cons_succ]
      refine held_take (i := 1) (v := ?_) 17 rfl rfl (by kernel_rfl) (by kernel_rfl) (by kernel_rfl) (fun _ _ _ h => h) (Or.inl ⟨by rfl, ?_⟩) hS ?_
      rotate_left 1
      · intro w' hSw
        try dsimp only at hSw
        obtain ⟨q1, q2⟩ := hSw
        go_simp
        all_goals with_reducible rfl
      try simp only [Act.put, List.setIfInBounds_toArray, List.set_cons_zero, List.set_cons_succ]
      refine held_take (i := 2) (v := ?_) 18 rfl rfl (by kernel_rfl) (by kernel_rfl) (by kernel_rfl) (fun _ _ _ h => h) (Or.inl ⟨by rfl, ?_⟩) hS ?_
      rotate_left 1
      · intro w' hSw
        try dsimp only at hSw
        obtain ⟨q1, q2⟩ := hSw
        go_simp
        all_goals with_reducible rfl
      try simp only [Act.put, List.setIfInBounds_toArray, List.set_cons_zero, List.set_cons_succ]
      refine held_take (i := 3) (v := ?_) 19 rfl rfl (by kernel_rfl) (by kernel_rfl) (by kernel_rfl) (fun _ _ _ h => h) (Or.inl ⟨by rfl, ?_⟩) hS ?_
      rotate_left 1
      · intro w' hSw
        try dsimp only at hSw
        obtain ⟨q1, q2⟩ := hSw
        go_simp
        all_goals with_reducible rfl
      try simp only [Act.put, List.setIfInBounds_toArray, List.set_cons_zero, List.set_cons_succ]
      refine held_take (i := 4) (v := ?_) 20 rfl rfl (by kernel_rfl) (by kernel_rfl) (by kernel_rfl) (fun _ _ _ h => h) (Or.inl ⟨by rfl, ?_⟩) hS ?_
      rotate_left 1
      · intro w' hSw
        try dsimp only at hSw
        obtain ⟨q1, q2⟩ := hSw
        go_simp
        all_goals with_reducible rfl
      try simp only [Act.put, List.setIfInBounds_toArray, List.set_cons_zero, List.set_cons_succ]
      refine held_take (i := 5) (v := ?_) 21 rfl rfl (by kernel_rfl) (by kernel_rfl) (by kernel_rfl) (fun _ _ _ h => h) (Or.inl ⟨by rfl, ?_⟩) hS ?_
      rotate_left 1
      · intro w' hSw
        try dsimp only at hSw
        obtain ⟨q1, q2⟩ := hSw
        go_simp
        all_goals with_reducible rfl
      try simp only [Act.put, List.setIfInBounds_toArray, List.set_cons_zero, List.set_cons_succ]
      refine held_take (i := 6) (v := ?_) 22 rfl rfl (by kernel_rfl) (by kernel_rfl) (by kernel_rfl) (fun _ _ _ h => h) (Or.inl ⟨by rfl, ?_⟩) hS ?_
      rotate_left 1
      · intro w' hSw
        try dsimp only at hSw
        obtain ⟨q1, q2⟩ := hSw
        go_simp
        all_goals with_reducible rfl
      try simp only [Act.put, List.setIfInBounds_toArray, List.set_cons_zero, List.set_cons_succ]
      refine held_take (i := 8) (v := ?_) 24 rfl rfl (by kernel_rfl) (by kernel_rfl) (by kernel_rfl) (fun _ _ _ h => h) (Or.inl ⟨by rfl, ?_⟩) hS ?_
      rotate_left 1
      · intro w' hSw
        try dsimp only at hSw
        obtain ⟨q1, q2⟩ := hSw
        go_simp
        all_goals with_reducible rfl
      try simp only [Act.put, List.setIfInBounds_toArray, List.set_cons_zero, List.set_cons_succ]
      refine held_take (i := 9) (v := ?_) 25 rfl rfl (by kernel_rfl) (by kernel_rfl) (by kernel_rfl) (fun _ _ _ h => h) (Or.inl ⟨by rfl, ?_⟩) hS ?_
      rotate_left 1
      · intro w' hSw
        try dsimp only at hSw
        obtain ⟨q1, q2⟩ := hSw
        go_simp
        all_goals with_reducible rfl
      try simp only [Act.put, List.setIfInBounds_toArray, List.set_cons_zero, List.set_cons_succ]
      refine held_take (i := 10) (v := ?_) 26 rfl rfl (by kernel_rfl) (by kernel_rfl) (by kernel_rfl) (fun _ _ _ h => h) (Or.inl ⟨by rfl, ?_⟩) hS ?_
      rotate_left 1
      · intro w' hSw
        try dsimp only at hSw
        obtain ⟨q1, q2⟩ := hSw
        go_simp
        all_goals with_reducible rfl
      try simp only [Act.put, List.setIfInBounds_toArray, List.set_cons_zero, List.set_cons_succ]
      refine held_take (i := 11) (v := ?_) 27 rfl rfl (by kernel_rfl) (by kernel_rfl) (by kernel_rfl) (fun _ _ _ h => h) (Or.inl ⟨by rfl, ?_⟩) hS ?_
      rotate_left 1
      · intro w' hSw
        try dsimp only at hSw
        obtain ⟨q1, q2⟩ := hSw
        go_simp
        all_goals with_reducible rfl
      try simp only [Act.put, List.setIfInBounds_toArray, List.set_cons_zero, List.set_cons_succ]
      refine held_take (i := 12) (v := ?_) 28 rfl rfl (by kernel_rfl) (by kernel_rfl) (by kernel_rfl) (fun _ _ _ h => h) (Or.inl ⟨by rfl, ?_⟩) hS ?_
      rotate_left 1
      · intro w' hSw
        try dsimp only at hSw
        obtain ⟨q1, q2⟩ := hSw
        go_simp
        all_goals with_reducible rfl
      try simp only [Act.put, List.setIfInBounds_toArray, List.set_cons_zero, List.set_cons_succ]
      refine held_take (i := 13) (v := ?_) 29 rfl rfl (by kernel_rfl) (by kernel_rfl) (by kernel_rfl) (fun _ _ _ h => h) (Or.inl ⟨by rfl, ?_⟩) hS ?_
      rotate_left 1
      · intro w' hSw
        try dsimp only at hSw
        obtain ⟨q1, q2⟩ := hSw
        go_simp
        all_goals with_reducible rfl
      try simp only [Act.put, List.setIfInBounds_toArray, List.set_cons_zero, List.set_cons_succ]
      refine held_one (i := 7) (by kernel_rfl) rfl rfl (fun K hK => ?_)
      go_simp
      refine (hP _).mono ?_
      rintro e w' ⟨rfl, rfl⟩
      refine hK _ _ hS ?_
      clear hK K hP
      try simp only [Act.put, List.setIfInBounds_toArray, List.set_cons_zero, List.set_cons_succ]
      refine held_one (i := 14) (by kernel_rfl) rfl rfl (fun K hK => ?_)
      go_simp
      refine (hR _).mono ?_
      rintro e w' ⟨rfl, rfl⟩
      refine hK _ _ hS ?_
      clear hK K hR
      try simp only [Act.put, List.setIfInBounds_toArray, List.set_cons_zero, List.set_cons_succ]
      refine held_take (i := 15) (v := ?_) 31 rfl rfl (by kernel_rfl) (by kernel_rfl) (by kernel_rfl) (fun _ _ _ h => h) (Or.inl ⟨by rfl, ?_⟩) hS ?_
      rotate_left 1
      · intro w' hSw
        try dsimp only at hSw
        obtain ⟨q1, q2⟩ := hSw
        go_simp
        all_goals with_reducible rfl
      try simp only [Act.put, List.setIfInBounds_toArray, List.set_cons_zero, List.set_cons_succ]
      clear t1
      have hX : wrap64 (x.lo + restS (pickS bits (fr + k)) (wrap64 (wrap64 (x.hi - x.lo) + 1))) = insB bits fr k x := rfl
      rw [hX]
      clear hX hw
      generalize insB bits fr k x = X at *
      have hbig1 : Hid (k + 1 ≤ maxLen) := by show k + 1 ≤ maxLen; unfold maxLen; omega
      have hbig2 : Hid ((k + 1) * 8 ≤ 140737488355328) := by show (k + 1) * 8 ≤ 140737488355328; omega
      obtain ⟨i0, hi0, hz0, hz1, hz2⟩ := info_parts Tryz.infoInt
      have hnews : ∀ (j : Nat) (u : Value), ([.int .i64 (X)] : List Value)[j]? = some u → (W.alloc (.cells #[.int .i64 (X)] 3)).cell? ((⟨W.heap.size, 0, none⟩ : Addr).add j) = some u :=
        World.news_of_block (cs := #[.int .i64 (X)]) (World.alloc_heap_new W _)
      have hownf := hown.alloc (.cells #[.int .i64 (X)] 3)
      have hbf := hb.alloc hb.size (.cells #[.int .i64 (X)] 3)
      refine held_one (i := 16) (by kernel_rfl) rfl rfl (fun K hK => ?_)
      go_simp
      refine hK _ _ ⟨(World.cell?_alloc_lt _ _ _ (World.block_lt_of_cell? _ _ hS.1)).trans hS.1, (World.cell?_alloc_lt _ _ _ (World.block_lt_of_cell? _ _ hS.2)).trans hS.2⟩ ?_
      clear hK K
      try simp only [Act.put, List.setIfInBounds_toArray, List.set_cons_zero, List.set_cons_succ]
      refine held_one (i := 17) (by kernel_rfl) rfl rfl (fun K hK => ?_)
      refine wp_append_lies _ _ _ 31 (by rfl) w1.heap.size 3 i0 (.int .i64 0) 1 8 Tryz.underlying31 hi0 hz0 hz1 hz2 rfl (by omega) u9 k ((drTo x bits fr k).map (.int .i64 ·)) (by rfl) hownf ⟨W.heap.size, 0, none⟩ 1 1 [.int .i64 (X)] (by rfl) rfl hnews (by simp [Value.oneCell']) (by omega) hbig1.out hbig2.out (hbf.size) (W.heap.size + 1) (by simp) ?_
      intro g cap w7 hown7 hgrow hlies hlt7
      have hbg : Below w1.heap.size _ w7 := ⟨hgrow.os, hgrow.tape, hgrow.output, hgrow.size, fun b hb2 => hgrow.block b (Nat.lt_of_lt_of_le hb2 hbf.size) (fun e => by have := (hownf.lt _ e.symm).1; omega)⟩
      have hbh := hbf.trans hbg
      have k4v := k4.belowB hbh k4.lt
      replace hS : (fun w' : World => w'.cell? ⟨w.heap.size, 0, none⟩ = some (.int .i64 x.lo) ∧ w'.cell? ⟨w.heap.size, 1, none⟩ = some (.int .i64 x.hi)) w7 := ⟨k4v.cell 0, k4v.cell 1⟩
      refine hK _ _ hS ?_
      clear hK K
      try simp only [Act.put, List.setIfInBounds_toArray, List.set_cons_zero, List.set_cons_succ]
      refine held_take (i := 18) (v := ?_) 9 rfl rfl (by kernel_rfl) (by kernel_rfl) (by kernel_rfl) (fun _ _ _ h => h) (Or.inl ⟨by rfl, ?_⟩) hS ?_
      rotate_left 1
      · intro w' hSw
        try dsimp only at hSw
        obtain ⟨q1, q2⟩ := hSw
        go_simp
        all_goals with_reducible rfl
      try simp only [Act.put, List.setIfInBounds_toArray, List.set_cons_zero, List.set_cons_succ]
      refine wpAnyH_done (by kernel_rfl) (noPanic_normal ?_) _
      clear hS
      go_wp2
      go_roundw
      case rel =>
        refine ⟨k + 1, by go_num, by omega, ?_, hbh⟩
        rw [hnx.out]
        simpa using hown7
      case measure => simp [intOf]; omega
    · obtain rfl : k = n := by omega
      go_wp2
      go_ret
      obtain ⟨P, pc, e2, h2⟩ := SlAt.of_own (enc := ivs) hown (by omega) (drTo x bits fr k) (flatMap_ivs _).symm (fun _ => rfl) (drTo_len _ _ _ _)
      exact ⟨P, pc, by rw [e2]; rfl, h2.mono hz1, hb1.trans (hb.mono hz1)⟩
/-! Sum -/
theorem sumL_take {l : List Int} {k : Nat} {x : Int} (h : l[k]? = some x) : sumL (l.take (k + 1)) = sumL (l.take k) + x := by
  rw [List.take_add_one, h, sumL_append]; simp [sumL]
set_option maxRecDepth 100000 in
set_option maxHeartbeats 1000000 in
theorem Sum_any (l : List Int) (M : Int) (A : Option Addr) (n c B : Nat) (w : World) (hM : 0 ≤ M ∧ M ≤ 1000000) (hn : n ≤ 1000000) (hl2 : ∀ x ∈ l, 0 ≤ x ∧ x ≤ M) (hs : SlAt w B 1 ivs A n c l) :
    Calls Tryz.prog 123 #[.slice A n c] w fun e w' => e = .returned (.int .i64 (sumL l)) ∧ w = w' := by
  have hl := Lib.hid hs.len
  replace hl2 := Lib.hid hl2
  go_enter Tryz.func123, Tryz.ntmps123
  go_wp2_with fail
  go_loop [3, 4] (fun v i => ∃ k : Nat, i = .int .i64 k ∧ k ≤ n ∧ v = .int .i64 (sumL (l.take k)) ∧ 0 ≤ sumL (l.take k) ∧ sumL (l.take k) ≤ k * M) (fun v i => n - (intOf i).toNat)
  case atStart => exact ⟨0, rfl, Nat.zero_le _, rfl, by simp [sumL], by simp [sumL]⟩
  case round =>
    obtain ⟨k, rfl, hk, rfl, h0, h1⟩ := hrel
    by_cases hlt : k < n
    · obtain ⟨x, hx⟩ := some_of_lt hl.out hlt
      have hst := Lib.hid (sumL_take hx)
      obtain ⟨b1, b2⟩ := hl2.out x (List.mem_of_getElem? hx)
      obtain ⟨b, off, rfl, -, hbl, e0⟩ := hs.int hx
      replace hx := Lib.hid hx
      have hm : ((k : Int)) * M ≤ 1000000 * 1000000 := Int.mul_le_mul (by omega) hM.2 hM.1 (by omega)
      have hm2 : ((k + 1 : Nat) : Int) * M = (k : Int) * M + M := by rw [show ((k + 1 : Nat) : Int) = (k : Int) + 1 by omega, Int.add_mul, Int.one_mul]
      replace hm2 := Lib.hid hm2
      generalize sumL (l.take k) = S at *
      have hk0 : (0 : Int) ≤ (k : Int) := by omega
      have hk1 : (k : Int) < (n : Int) := by omega
      go_wp2
      go_round
      case rel => exact ⟨k + 1, by go_num, by omega, by rw [hst.out], by rw [hst.out]; omega, by rw [hst.out, hm2.out]; omega⟩
      case measure => simp [intOf]; omega
    · obtain rfl : k = n := by omega
      have ht : Hid (l.take k = l) := List.take_of_length_le (by rw [hl.out]; exact Nat.le_refl _)
      go_wp2
      go_ret
      exact ⟨ret_int (by rw [ht.out]), rfl⟩
/-! Earlier -/
end Go.Proofs.YtjiaepphnddpoaaGreat
