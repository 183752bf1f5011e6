/-
  The specification's package: Enclose; the bends.
-/
import Derived.Test.YtjiaepphnddpoaaGreatR7
namespace Go.Proofs.YtjiaepphnddpoaaGreat
open Go.RowKit Go.Shelf
set_option linter.unusedSimpArgs false
set_option linter.unusedVariables false

set_option maxRecDepth 100000 in
set_option maxHeartbeats 4000000 in
theorem Rbends_any (s : Strm) (A O : Option Addr) (n c co B : Nat) (l : List Bnd) (w : World) (ho : okStrm s = true) (hl : okOffs s l = true) (hs : SlAt w B 2 Bnd.cells O n co l) :
    Calls Tryz.prog 128 #[.agg #[.int .i64 s.head, .slice A n c, .int .i64 s.lane.lo, .int .i64 s.lane.hi, .int .i64 s.bend], .slice O n co] w fun e w' => ∃ P pc, e = .returned (.slice P n pc) ∧ SlAt w' w.heap.size 2 Bnd.cells P n pc (bendL s l) ∧ Below w.heap.size w w' := by
  have hh := ok_head ho
  unfold headOk at hh
  have hln := Lib.hid hs.len
  have hn8 : n ≤ 8 := by have := okOffs_len hl; have := hln.out; omega
  have hEl : Hid ((bendL s l).length = n) := by show _ = _; unfold bendL; rw [eachL_length, hln.out]
  obtain ⟨h1, h2, -⟩ := hh
  replace hl := Lib.hid hl
  clear ho
  go_enter Tryz.func128, Tryz.ntmps128
  go_wp2_with fail
  go_loopw [5, 7] (fun v i wr => ∃ k : Nat, i = .int .i64 k ∧ k ≤ n ∧ Blk wr (w.heap.size + 1) 24 #[.int .i64 (prev (still s.head) l k).lo, .int .i64 (prev (still s.head) l k).hi] ∧ wr.ownsRow (w.heap.size + 2) 24 2 v k (((bendL s l).take k).flatMap Bnd.cells) ∧ Below w.heap.size w wr ∧ w.heap.size + 2 ≤ wr.heap.size) (fun v i wr => n - (intOf i).toNat)
  case atStart =>
    refine ⟨0, rfl, Nat.zero_le _, ?_, ⟨rfl, .inl ⟨rfl, rfl⟩⟩, ((Below.refl _ _).alloc (Nat.le_refl _) _).alloc (by simp) _, by simp⟩
    have := Blk.new (w.alloc (.cells #[.int .i64 s.head, .slice A n c, .int .i64 s.lane.lo, .int .i64 s.lane.hi, .int .i64 s.bend] 26)) 24 #[.int .i64 s.head, .int .i64 s.head]
    rw [World.size_alloc] at this
    exact this
  case round =>
    obtain ⟨k, rfl, hk, k6, hown, hb, hsz⟩ := hrel
    by_cases hlt : k < n
    · have hlk : k < l.length := by rw [hln.out]; exact hlt
      have hget := eachL_get (fun _ own bef => bendB own bef) (still s.head) l hlk
      obtain ⟨bO, oO, hA, -, hbl0, e0, e1⟩ := hs.bnd (getD_get (l := l) (still s.head) hlk)
      replace e0 := (hb.cell (p := ⟨bO, oO + k * 2, none⟩) hbl0).trans e0
      replace e1 := (hb.cell (p := ⟨bO, oO + k * 2 + 1, none⟩) hbl0).trans e1
      have hxb := okOffs_get hl.out (List.mem_of_getElem? (getD_get (l := l) (still s.head) hlk))
      have hyb : -16384 ≤ (prev (still s.head) l k).lo ∧ (prev (still s.head) l k).lo ≤ (prev (still s.head) l k).hi ∧ (prev (still s.head) l k).hi ≤ 16384 := by
        cases k with
        | zero => show -16384 ≤ s.head ∧ s.head ≤ s.head ∧ s.head ≤ 16384; omega
        | succ q => exact okOffs_get hl.out (List.mem_of_getElem? (getD_get (l := l) (still s.head) (show q < l.length by omega)))
      have hpk : Hid (prev (still s.head) l (k + 1) = l.getD k (still s.head)) := rfl
      generalize l.getD k (still s.head) = x at *
      generalize prev (still s.head) l k = y at *
      have hnx : Hid (((bendL s l).take (k + 1)).flatMap Bnd.cells = ((bendL s l).take k).flatMap Bnd.cells ++ [.int .i64 (max 0 (max (x.lo - y.hi) (-(x.hi - y.lo)))), .int .i64 (max (x.hi - y.lo) (-(x.lo - y.hi)))]) := by
        show _ = _
        have hg : (bendL s l)[k]? = some (bendB x y) := hget
        rw [List.take_add_one, hg]
        have q1 : max (max 0 (x.lo - y.hi)) (y.lo - x.hi) = max 0 (max (x.lo - y.hi) (-(x.hi - y.lo))) := by omega
        have q2 : max (x.hi - y.lo) (y.hi - x.lo) = max (x.hi - y.lo) (-(x.lo - y.hi)) := by omega
        simp only [List.flatMap_append, Option.toList, List.flatMap_cons, List.flatMap_nil, List.append_nil, Bnd.cells, bendB, q1, q2]
      clear hget
      have u1 := IntWalk.i64_in (x.lo - y.hi) (by omega)
      have u2 := IntWalk.i64_in (x.hi - y.lo) (by omega)
      have hk0 : (0 : Int) ≤ (k : Int) := by omega
      have hk1 : (k : Int) < (n : Int) := by omega
      subst hA
      go_wp2_with fail
      refine wp_held_np (fun w' : World => w'.cell? ⟨bO, oO + k * 2, none⟩ = some (.int .i64 x.lo) ∧ w'.cell? ⟨bO, oO + k * 2 + 1, none⟩ = some (.int .i64 x.hi) ∧ (∀ j, w'.cell? ⟨w.heap.size + 1, j, none⟩ = #[Value.int .i64 y.lo, .int .i64 y.hi][j]?)) (by kernel_rfl) ?_
      replace k6 := k6.drew
      replace hown : wr.drew.ownsRow _ _ _ _ _ _ := hown
      replace hb := hb.drew
      have hS : (fun w' : World => w'.cell? ⟨bO, oO + k * 2, none⟩ = some (.int .i64 x.lo) ∧ w'.cell? ⟨bO, oO + k * 2 + 1, none⟩ = some (.int .i64 x.hi) ∧ (∀ j, w'.cell? ⟨w.heap.size + 1, j, none⟩ = #[Value.int .i64 y.lo, .int .i64 y.hi][j]?)) wr.drew := ⟨e0, e1, k6.cell⟩
      replace hsz : w.heap.size + 2 ≤ wr.drew.heap.size := hsz
      generalize wr.drew = wd at *
      refine held_take (i := 0) (v := ?_) 21 rfl rfl (by kernel_rfl) (by kernel_rfl) (by kernel_rfl) (fun _ _ _ h => h) (Or.inl ⟨by rfl, ?_⟩) hS ?_
      rotate_left 1
      · intro w' hSw
        try dsimp only at hSw
        obtain ⟨q1, q2, q3⟩ := hSw
        go_simp
        all_goals with_reducible rfl
      try simp only [Act.put, List.setIfInBounds_toArray, List.set_cons_zero, List.set_cons_succ]
      refine held_take (i := 1) (v := ?_) 22 rfl rfl (by kernel_rfl) (by kernel_rfl) (by kernel_rfl) (fun _ _ _ h => h) (Or.inl ⟨by rfl, ?_⟩) hS ?_
      rotate_left 1
      · intro w' hSw
        try dsimp only at hSw
        obtain ⟨q1, q2, q3⟩ := hSw
        go_simp
        all_goals with_reducible rfl
      try simp only [Act.put, List.setIfInBounds_toArray, List.set_cons_zero, List.set_cons_succ]
      refine held_take (i := 2) (v := ?_) 23 rfl rfl (by kernel_rfl) (by kernel_rfl) (by kernel_rfl) (fun _ _ _ h => h) (Or.inl ⟨by rfl, ?_⟩) hS ?_
      rotate_left 1
      · intro w' hSw
        try dsimp only at hSw
        obtain ⟨q1, q2, q3⟩ := hSw
        go_simp
        all_goals with_reducible rfl
      try simp only [Act.put, List.setIfInBounds_toArray, List.set_cons_zero, List.set_cons_succ]
      refine held_take (i := 3) (v := ?_) 24 rfl rfl (by kernel_rfl) (by kernel_rfl) (by kernel_rfl) (fun _ _ _ h => h) (Or.inl ⟨by rfl, ?_⟩) hS ?_
      rotate_left 1
      · intro w' hSw
        try dsimp only at hSw
        obtain ⟨q1, q2, q3⟩ := hSw
        go_simp
        all_goals with_reducible rfl
      try simp only [Act.put, List.setIfInBounds_toArray, List.set_cons_zero, List.set_cons_succ]
      refine held_take (i := 4) (v := ?_) 25 rfl rfl (by kernel_rfl) (by kernel_rfl) (by kernel_rfl) (fun _ _ _ h => h) (Or.inl ⟨by rfl, ?_⟩) hS ?_
      rotate_left 1
      · intro w' hSw
        try dsimp only at hSw
        obtain ⟨q1, q2, q3⟩ := hSw
        go_simp
        all_goals with_reducible rfl
      try simp only [Act.put, List.setIfInBounds_toArray, List.set_cons_zero, List.set_cons_succ]
      refine held_take (i := 5) (v := ?_) 26 rfl rfl (by kernel_rfl) (by kernel_rfl) (by kernel_rfl) (fun _ _ _ h => h) (Or.inl ⟨by rfl, ?_⟩) hS ?_
      rotate_left 1
      · intro w' hSw
        try dsimp only at hSw
        obtain ⟨q1, q2, q3⟩ := hSw
        go_simp
        all_goals with_reducible rfl
      try simp only [Act.put, List.setIfInBounds_toArray, List.set_cons_zero, List.set_cons_succ]
      refine held_take (i := 6) (v := ?_) 27 rfl rfl (by kernel_rfl) (by kernel_rfl) (by kernel_rfl) (fun _ _ _ h => h) (Or.inl ⟨by rfl, ?_⟩) hS ?_
      rotate_left 1
      · intro w' hSw
        try dsimp only at hSw
        obtain ⟨q1, q2, q3⟩ := hSw
        go_simp
        all_goals with_reducible rfl
      try simp only [Act.put, List.setIfInBounds_toArray, List.set_cons_zero, List.set_cons_succ]
      refine held_take (i := 7) (v := ?_) 28 rfl rfl (by kernel_rfl) (by kernel_rfl) (by kernel_rfl) (fun _ _ _ h => h) (Or.inl ⟨by rfl, ?_⟩) hS ?_
      rotate_left 1
      · intro w' hSw
        try dsimp only at hSw
        obtain ⟨q1, q2, q3⟩ := hSw
        go_simp
        all_goals with_reducible rfl
      try simp only [Act.put, List.setIfInBounds_toArray, List.set_cons_zero, List.set_cons_succ]
      refine held_take (i := 8) (v := ?_) 29 rfl rfl (by kernel_rfl) (by kernel_rfl) (by kernel_rfl) (fun _ _ _ h => h) (Or.inl ⟨by rfl, ?_⟩) hS ?_
      rotate_left 1
      · intro w' hSw
        try dsimp only at hSw
        obtain ⟨q1, q2, q3⟩ := hSw
        go_simp
        all_goals with_reducible rfl
      try simp only [Act.put, List.setIfInBounds_toArray, List.set_cons_zero, List.set_cons_succ]
      refine held_take (i := 9) (v := ?_) 30 rfl rfl (by kernel_rfl) (by kernel_rfl) (by kernel_rfl) (fun _ _ _ h => h) (Or.inl ⟨by rfl, ?_⟩) hS ?_
      rotate_left 1
      · intro w' hSw
        try dsimp only at hSw
        obtain ⟨q1, q2, q3⟩ := hSw
        go_simp
        all_goals with_reducible rfl
      try simp only [Act.put, List.setIfInBounds_toArray, List.set_cons_zero, List.set_cons_succ]
      refine held_take (i := 10) (v := ?_) 31 rfl rfl (by kernel_rfl) (by kernel_rfl) (by kernel_rfl) (fun _ _ _ h => h) (Or.inl ⟨by rfl, ?_⟩) hS ?_
      rotate_left 1
      · intro w' hSw
        try dsimp only at hSw
        obtain ⟨q1, q2, q3⟩ := hSw
        go_simp
        all_goals with_reducible rfl
      try simp only [Act.put, List.setIfInBounds_toArray, List.set_cons_zero, List.set_cons_succ]
      refine held_take (i := 11) (v := ?_) 32 rfl rfl (by kernel_rfl) (by kernel_rfl) (by kernel_rfl) (fun _ _ _ h => h) (Or.inl ⟨by rfl, ?_⟩) hS ?_
      rotate_left 1
      · intro w' hSw
        try dsimp only at hSw
        obtain ⟨q1, q2, q3⟩ := hSw
        go_simp
        all_goals with_reducible rfl
      try simp only [Act.put, List.setIfInBounds_toArray, List.set_cons_zero, List.set_cons_succ]
      refine held_take (i := 12) (v := ?_) 33 rfl rfl (by kernel_rfl) (by kernel_rfl) (by kernel_rfl) (fun _ _ _ h => h) (Or.inl ⟨by rfl, ?_⟩) hS ?_
      rotate_left 1
      · intro w' hSw
        try dsimp only at hSw
        obtain ⟨q1, q2, q3⟩ := hSw
        go_simp
        all_goals with_reducible rfl
      try simp only [Act.put, List.setIfInBounds_toArray, List.set_cons_zero, List.set_cons_succ]
      refine held_take (i := 13) (v := ?_) 34 rfl rfl (by kernel_rfl) (by kernel_rfl) (by kernel_rfl) (fun _ _ _ h => h) (Or.inl ⟨by rfl, ?_⟩) hS ?_
      rotate_left 1
      · intro w' hSw
        try dsimp only at hSw
        obtain ⟨q1, q2, q3⟩ := hSw
        go_simp
        all_goals with_reducible rfl
      try simp only [Act.put, List.setIfInBounds_toArray, List.set_cons_zero, List.set_cons_succ]
      refine held_take (i := 14) (v := ?_) 35 rfl rfl (by kernel_rfl) (by kernel_rfl) (by kernel_rfl) (fun _ _ _ h => h) (Or.inl ⟨by rfl, ?_⟩) hS ?_
      rotate_left 1
      · intro w' hSw
        try dsimp only at hSw
        obtain ⟨q1, q2, q3⟩ := hSw
        go_simp
        all_goals with_reducible rfl
      try simp only [Act.put, List.setIfInBounds_toArray, List.set_cons_zero, List.set_cons_succ]
      refine held_take (i := 15) (v := ?_) 36 rfl rfl (by kernel_rfl) (by kernel_rfl) (by kernel_rfl) (fun _ _ _ h => h) (Or.inl ⟨by rfl, ?_⟩) hS ?_
      rotate_left 1
      · intro w' hSw
        try dsimp only at hSw
        obtain ⟨q1, q2, q3⟩ := hSw
        go_simp
        all_goals with_reducible rfl
      try simp only [Act.put, List.setIfInBounds_toArray, List.set_cons_zero, List.set_cons_succ]
      refine held_take (i := 16) (v := ?_) 8 rfl rfl (by kernel_rfl) (by kernel_rfl) (by kernel_rfl) (fun _ _ _ h => h) (Or.inl ⟨by rfl, ?_⟩) hS ?_
      rotate_left 1
      · intro w' hSw
        try dsimp only at hSw
        obtain ⟨q1, q2, q3⟩ := hSw
        go_simp
        all_goals with_reducible rfl
      try simp only [Act.put, List.setIfInBounds_toArray, List.set_cons_zero, List.set_cons_succ]
      refine held_take (i := 17) (v := ?_) 9 rfl rfl (by kernel_rfl) (by kernel_rfl) (by kernel_rfl) (fun _ _ _ h => h) (Or.inl ⟨by rfl, ?_⟩) hS ?_
      rotate_left 1
      · intro w' hSw
        try dsimp only at hSw
        obtain ⟨q1, q2, q3⟩ := hSw
        go_simp
        all_goals with_reducible rfl
      try simp only [Act.put, List.setIfInBounds_toArray, List.set_cons_zero, List.set_cons_succ]
      refine wpAnyH_done (by kernel_rfl) (noPanic_normal ?_) _
      obtain ⟨e0, e1, -⟩ := hS
      clear u1 u2
      have u3 := IntWalk.i64_in (-(x.lo - y.hi)) (by omega)
      have u4 := IntWalk.i64_in (-(x.hi - y.lo)) (by omega)
      generalize x.lo - y.hi = lo at *
      generalize x.hi - y.lo = hi at *
      have hmax := max2_int
      have hmax3 := max3_int
      obtain ⟨m1, hm1⟩ : ∃ m1, max 0 (max lo (-hi)) = m1 := ⟨_, rfl⟩
      obtain ⟨m2, hm2⟩ : ∃ m2, max hi (-lo) = m2 := ⟨_, rfl⟩
      rw [hm1, hm2] at hnx
      have hbig1 : Hid (k + 1 ≤ maxLen) := by show k + 1 ≤ maxLen; unfold maxLen; omega
      have hbig2 : Hid ((k + 1) * 16 ≤ 140737488355328) := by show (k + 1) * 16 ≤ 140737488355328; omega
      obtain ⟨i0, hi0, hz0, hz1, hz2⟩ := info_parts Tryz.infoBnd
      have hnews : ∀ (j : Nat) (u : Value), ([.int .i64 m1, .int .i64 m2] : List Value)[j]? = some u → (wd.alloc (.cells #[.int .i64 m1, .int .i64 m2] 24)).cell? ((⟨wd.heap.size, 0, none⟩ : Addr).add j) = some u :=
        World.news_of_block (cs := #[.int .i64 m1, .int .i64 m2]) (World.alloc_heap_new wd _)
      have hownf := hown.alloc (.cells #[.int .i64 m1, .int .i64 m2] 24)
      have hbf := (Below.refl wd.heap.size wd).alloc (Nat.le_refl _) (.cells #[.int .i64 m1, .int .i64 m2] 24)
      have hsz2 : w.heap.size + 2 ≤ (wd.alloc (.cells #[.int .i64 m1, .int .i64 m2] 24)).heap.size := by simp; omega
      have k6f := k6.alloc (.cells #[.int .i64 m1, .int .i64 m2] 24)
      have hbwf := hb.alloc hb.size (.cells #[.int .i64 m1, .int .i64 m2] 24)
      have e0f := (World.cell?_alloc_lt wd (.cells #[.int .i64 m1, .int .i64 m2] 24) ⟨bO, oO + k * 2, none⟩ (by dsimp only; omega)).trans e0
      have e1f := (World.cell?_alloc_lt wd (.cells #[.int .i64 m1, .int .i64 m2] 24) ⟨bO, oO + k * 2 + 1, none⟩ (by dsimp only; omega)).trans e1
      go_wp2_with (at_builtin; first | rw [hm1] | rw [hm2] | (refine wpList_append_lies _ rfl (.tmp 37) (.tmp 47) 27 rfl (w.heap.size + 2) 24 i0 (.agg #[.int .i64 0, .int .i64 0]) 2 16 Tryz.underlying27 hi0 hz0 hz1 hz2 rfl (by decide) u5 k (((bendL s l).take k).flatMap Bnd.cells) rfl hownf ⟨wd.heap.size, 0, none⟩ 1 1 [.int .i64 m1, .int .i64 m2] rfl rfl hnews (by simp [Value.oneCell']) (by decide) hbig1.out hbig2.out hsz2 (wd.heap.size + 1) (by simp) ?_; intro g cap w7 hown7 hgrow hlies hlt7; have hbb : Below (w.heap.size + 2) _ w7 := ⟨hgrow.os, hgrow.tape, hgrow.output, hgrow.size, fun b hb2 => hgrow.block b (Nat.lt_of_lt_of_le hb2 hsz2) (fun e => by have := (hownf.lt _ e.symm).1; omega)⟩; have e0g := (hbb.cell (p := ⟨bO, oO + k * 2, none⟩) (by dsimp only; omega)).trans e0f; have e1g := (hbb.cell (p := ⟨bO, oO + k * 2 + 1, none⟩) (by dsimp only; omega)).trans e1f; have k6g := k6f.belowB hbb (by omega); obtain ⟨c6, f6, l6⟩ := k6g.rules))
      go_roundw
      case rel =>
        refine ⟨k + 1, by go_num, by omega, ?_, ?_, ?_, ?_⟩
        · rw [hpk.out]
          exact (k6g.set_ 0 (.int .i64 x.lo)).set_ 1 (.int .i64 x.hi)
        · rw [hnx.out]
          have hg7 : w.heap.size + 2 ≤ g := (hown7.lt _ rfl).1
          exact ownsRow_setCell (ownsRow_setCell hown7 (by simp [Value.ownBlock]; omega) _) (by simp [Value.ownBlock]; omega) _
        · exact ((hbwf.trans (hbb.mono (by omega))).setCell (p := ⟨w.heap.size + 1, 0, none⟩) (by simp) _).setCell (p := ⟨w.heap.size + 1, 1, none⟩) (by simp) _
        · have := hbb.size
          simp
          omega
      case measure => simp [intOf]; omega
    · obtain rfl : k = n := by omega
      go_wp2
      go_ret
      have ht : (bendL s l).take k = bendL s l := List.take_of_length_le (by rw [hEl.out]; exact Nat.le_refl _)
      rw [ht] at hown
      obtain ⟨P, pc, e2, h2⟩ := SlAt.of_own (enc := Bnd.cells) hown (by omega) (bendL s l) rfl (fun _ => rfl) hEl.out
      exact ⟨P, pc, by rw [e2]; rfl, h2.mono (by omega), hb⟩
end Go.Proofs.YtjiaepphnddpoaaGreat
