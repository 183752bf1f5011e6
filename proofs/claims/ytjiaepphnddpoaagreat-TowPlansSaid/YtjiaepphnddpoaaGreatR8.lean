/-
  The specification's package: Enclose; the bends.
  The specification's package: the pulls of bends.
  The specification's package: Bends; the pulls of bounds, and Pulls.
-/
import Derived.Test.YtjiaepphnddpoaaGreatR5
namespace Go.Proofs.YtjiaepphnddpoaaGreat
open Go.RowKit Go.Shelf
set_option linter.unusedSimpArgs false
set_option linter.unusedVariables false

set_option maxRecDepth 100000 in
set_option maxHeartbeats 4000000 in
theorem Rbends_any (s : Strm) (A O : Option Addr) (n c co B : Nat) (l : List Bnd) (w : World) (ho : okStrm s = true) (hl : okOffs s l = true) (hs : SlAt w B 2 Bnd.cells O n co l) :
    Calls Tryz.prog 128 #[.agg #[.int .i64 s.head, .slice A n c, .int .i64 s.lane.lo, .int .i64 s.lane.hi, .int .i64 s.bend], .slice O n co] w fun e w' => ∃ P pc, e = .returned (.slice P n pc) ∧ SlAt w' w.heap.size 2 Bnd.cells P n pc (bendL s l) ∧ Below w.heap.size w w' := by
  have hh := ok_head ho
  unfold headOk at hh
  have hln := Lib.hid hs.len
  have hn8 : n ≤ 8 := by have := okOffs_len hl; have := hln.out; omega
  have hEl : Hid ((bendL s l).length = n) := by show _ = _; unfold bendL; rw [eachL_length, hln.out]
  obtain ⟨h1, h2, -⟩ := hh
  replace hl := Lib.hid hl
  clear ho
  go_enter Tryz.func128, Tryz.ntmps128
  go_wp2_with fail
  go_loopw [5, 7] (fun v i wr => ∃ k : Nat, i = .int .i64 k ∧ k ≤ n ∧ Blk wr (w.heap.size + 1) 24 #[.int .i64 (prev (still s.head) l k).lo, .int .i64 (prev (still s.head) l k).hi] ∧ wr.ownsRow (w.heap.size + 2) 24 2 v k (((bendL s l).take k).flatMap Bnd.cells) ∧ Below w.heap.size w wr ∧ w.heap.size + 2 ≤ wr.heap.size) (fun v i wr => n - (intOf i).toNat)
  case atStart =>
    refine ⟨0, rfl, Nat.zero_le _, ?_, ⟨rfl, .inl ⟨rfl, rfl⟩⟩, ((Below.refl _ _).alloc (Nat.le_refl _) _).alloc (by simp) _, by simp⟩
    have := Blk.new (w.alloc (.cells #[.int .i64 s.head, .slice A n c, .int .i64 s.lane.lo, .int .i64 s.lane.hi, .int .i64 s.bend] 26)) 24 #[.int .i64 s.head, .int .i64 s.head]
    rw [World.size_alloc] at this
    exact this
  case round =>
    obtain ⟨k, rfl, hk, k6, hown, hb, hsz⟩ := hrel
    by_cases hlt : k < n
    · have hlk : k < l.length := by rw [hln.out]; exact hlt
      have hget := eachL_get (fun _ own bef => bendB own bef) (still s.head) l hlk
      obtain ⟨bO, oO, hA, -, hbl0, e0, e1⟩ := hs.bnd (getD_get (l := l) (still s.head) hlk)
      replace e0 := (hb.cell (p := ⟨bO, oO + k * 2, none⟩) hbl0).trans e0
      replace e1 := (hb.cell (p := ⟨bO, oO + k * 2 + 1, none⟩) hbl0).trans e1
      have hxb := okOffs_get hl.out (List.mem_of_getElem? (getD_get (l := l) (still s.head) hlk))
      have hyb : -16384 ≤ (prev (still s.head) l k).lo ∧ (prev (still s.head) l k).lo ≤ (prev (still s.head) l k).hi ∧ (prev (still s.head) l k).hi ≤ 16384 := by
        cases k with
        | zero => show -16384 ≤ s.head ∧ s.head ≤ s.head ∧ s.head ≤ 16384; omega
        | succ q => exact okOffs_get hl.out (List.mem_of_getElem? (getD_get (l := l) (still s.head) (show q < l.length by omega)))
      have hpk : Hid (prev (still s.head) l (k + 1) = l.getD k (still s.head)) := rfl
      generalize l.getD k (still s.head) = x at *
      generalize prev (still s.head) l k = y at *
      have hnx : Hid (((bendL s l).take (k + 1)).flatMap Bnd.cells = ((bendL s l).take k).flatMap Bnd.cells ++ [.int .i64 (max 0 (max (x.lo - y.hi) (-(x.hi - y.lo)))), .int .i64 (max (x.hi - y.lo) (-(x.lo - y.hi)))]) := by
        show _ = _
        have hg : (bendL s l)[k]? = some (bendB x y) := hget
        rw [List.take_add_one, hg]
        have q1 : max (max 0 (x.lo - y.hi)) (y.lo - x.hi) = max 0 (max (x.lo - y.hi) (-(x.hi - y.lo))) := by omega
        have q2 : max (x.hi - y.lo) (y.hi - x.lo) = max (x.hi - y.lo) (-(x.lo - y.hi)) := by omega
        simp only [List.flatMap_append, Option.toList, List.flatMap_cons, List.flatMap_nil, List.append_nil, Bnd.cells, bendB, q1, q2]
      clear hget
      have u1 := IntWalk.i64_in (x.lo - y.hi) (by omega)
      have u2 := IntWalk.i64_in (x.hi - y.lo) (by omega)
      have hk0 : (0 : Int) ≤ (k : Int) := by omega
      have hk1 : (k : Int) < (n : Int) := by omega
      subst hA
      go_wp2_with fail
      refine wp_held_np (fun w' : World => w'.cell? ⟨bO, oO + k * 2, none⟩ = some (.int .i64 x.lo) ∧ w'.cell? ⟨bO, oO + k * 2 + 1, none⟩ = some (.int .i64 x.hi) ∧ (∀ j, w'.cell? ⟨w.heap.size + 1, j, none⟩ = #[Value.int .i64 y.lo, .int .i64 y.hi][j]?)) (by kernel_rfl) ?_
      replace k6 := k6.drew
      replace hown : wr.drew.ownsRow _ _ _ _ _ _ := hown
      replace hb := hb.drew
      have hS : (fun w' : World => w'.cell? ⟨bO, oO + k * 2, none⟩ = some (.int .i64 x.lo) ∧ w'.cell? ⟨bO, oO + k * 2 + 1, none⟩ = some (.int .i64 x.hi) ∧ (∀ j, w'.cell? ⟨w.heap.size + 1, j, none⟩ = #[Value.int .i64 y.lo, .int .i64 y.hi][j]?)) wr.drew := ⟨e0, e1, k6.cell⟩
      replace hsz : w.heap.size + 2 ≤ wr.drew.heap.size := hsz
      generalize wr.drew = wd at *
      refine held_take (i := 0) (v := ?_) 21 rfl rfl (by kernel_rfl) (by kernel_rfl) (by kernel_rfl) (fun _ _ _ h => h) (Or.inl ⟨by rfl, ?_⟩) hS ?_
      rotate_left 1
      · intro w' hSw
        try dsimp only at hSw
        obtain ⟨q1, q2, q3⟩ := hSw
        go_simp
        all_goals with_reducible rfl
      try simp only [Act.put, List.setIfInBounds_toArray, List.set_cons_zero, List.set_cons_succ]
      refine held_take (i := 1) (v := ?_) 22 rfl rfl (by kernel_rfl) (by kernel_rfl) (by kernel_rfl) (fun _ _ _ h => h) (Or.inl ⟨by rfl, ?_⟩) hS ?_
      rotate_left 1
      · intro w' hSw
        try dsimp only at hSw
        obtain ⟨q1, q2, q3⟩ := hSw
        go_simp
        all_goals with_reducible rfl
      try simp only [Act.put, List.setIfInBounds_toArray, List.set_cons_zero, List.set_cons_succ]
      refine held_take (i := 2) (v := ?_) 23 rfl rfl (by kernel_rfl) (by kernel_rfl) (by kernel_rfl) (fun _ _ _ h => h) (Or.inl ⟨by rfl, ?_⟩) hS ?_
      rotate_left 1
      · intro w' hSw
        try dsimp only at hSw
        obtain ⟨q1, q2, q3⟩ := hSw
        go_simp
        all_goals with_reducible rfl
      try simp only [Act.put, List.setIfInBounds_toArray, List.set_cons_zero, List.set_cons_succ]
      refine held_take (i := 3) (v := ?_) 24 rfl rfl (by kernel_rfl) (by kernel_rfl) (by kernel_rfl) (fun _ _ _ h => h) (Or.inl ⟨by rfl, ?_⟩) hS ?_
      rotate_left 1
      · intro w' hSw
        try dsimp only at hSw
        obtain ⟨q1, q2, q3⟩ := hSw
        go_simp
        all_goals with_reducible rfl
      try simp only [Act.put, List.setIfInBounds_toArray, List.set_cons_zero, List.set_cons_succ]
      refine held_take (i := 4) (v := ?_) 25 rfl rfl (by kernel_rfl) (by kernel_rfl) (by kernel_rfl) (fun _ _ _ h => h) (Or.inl ⟨by rfl, ?_⟩) hS ?_
      rotate_left 1
      · intro w' hSw
        try dsimp only at hSw
        obtain ⟨q1, q2, q3⟩ := hSw
        go_simp
        all_goals with_reducible rfl
      try simp only [Act.put, List.setIfInBounds_toArray, List.set_cons_zero, List.set_cons_succ]
      refine held_take (i := 5) (v := ?_) 26 rfl rfl (by kernel_rfl) (by kernel_rfl) (by kernel_rfl) (fun _ _ _ h => h) (Or.inl ⟨by rfl, ?_⟩) hS ?_
      rotate_left 1
      · intro w' hSw
        try dsimp only at hSw
        obtain ⟨q1, q2, q3⟩ := hSw
        go_simp
        all_goals with_reducible rfl
      try simp only [Act.put, List.setIfInBounds_toArray, List.set_cons_zero, List.set_cons_succ]
      refine held_take (i := 6) (v := ?_) 27 rfl rfl (by kernel_rfl) (by kernel_rfl) (by kernel_rfl) (fun _ _ _ h => h) (Or.inl ⟨by rfl, ?_⟩) hS ?_
      rotate_left 1
      · intro w' hSw
        try dsimp only at hSw
        obtain ⟨q1, q2, q3⟩ := hSw
        go_simp
        all_goals with_reducible rfl
      try simp only [Act.put, List.setIfInBounds_toArray, List.set_cons_zero, List.set_cons_succ]
      refine held_take (i := 7) (v := ?_) 28 rfl rfl (by kernel_rfl) (by kernel_rfl) (by kernel_rfl) (fun _ _ _ h => h) (Or.inl ⟨by rfl, ?_⟩) hS ?_
      rotate_left 1
      · intro w' hSw
        try dsimp only at hSw
        obtain ⟨q1, q2, q3⟩ := hSw
        go_simp
        all_goals with_reducible rfl
      try simp only [Act.put, List.setIfInBounds_toArray, List.set_cons_zero, List.set_cons_succ]
      refine held_take (i := 8) (v := ?_) 29 rfl rfl (by kernel_rfl) (by kernel_rfl) (by kernel_rfl) (fun _ _ _ h => h) (Or.inl ⟨by rfl, ?_⟩) hS ?_
      rotate_left 1
      · intro w' hSw
        try dsimp only at hSw
        obtain ⟨q1, q2, q3⟩ := hSw
        go_simp
        all_goals with_reducible rfl
      try simp only [Act.put, List.setIfInBounds_toArray, List.set_cons_zero, List.set_cons_succ]
      refine held_take (i := 9) (v := ?_) 30 rfl rfl (by kernel_rfl) (by kernel_rfl) (by kernel_rfl) (fun _ _ _ h => h) (Or.inl ⟨by rfl, ?_⟩) hS ?_
      rotate_left 1
      · intro w' hSw
        try dsimp only at hSw
        obtain ⟨q1, q2, q3⟩ := hSw
        go_simp
        all_goals with_reducible rfl
      try simp only [Act.put, List.setIfInBounds_toArray, List.set_cons_zero, List.set_cons_succ]
      refine held_take (i := 10) (v := ?_) 31 rfl rfl (by kernel_rfl) (by kernel_rfl) (by kernel_rfl) (fun _ _ _ h => h) (Or.inl ⟨by rfl, ?_⟩) hS ?_
      rotate_left 1
      · intro w' hSw
        try dsimp only at hSw
        obtain ⟨q1, q2, q3⟩ := hSw
        go_simp
        all_goals with_reducible rfl
      try simp only [Act.put, List.setIfInBounds_toArray, List.set_cons_zero, List.set_cons_succ]
      refine held_take (i := 11) (v := ?_) 32 rfl rfl (by kernel_rfl) (by kernel_rfl) (by kernel_rfl) (fun _ _ _ h => h) (Or.inl ⟨by rfl, ?_⟩) hS ?_
      rotate_left 1
      · intro w' hSw
        try dsimp only at hSw
        obtain ⟨q1, q2, q3⟩ := hSw
        go_simp
        all_goals with_reducible rfl
      try simp only [Act.put, List.setIfInBounds_toArray, List.set_cons_zero, List.set_cons_succ]
      refine held_take (i := 12) (v := ?_) 33 rfl rfl (by kernel_rfl) (by kernel_rfl) (by kernel_rfl) (fun _ _ _ h => h) (Or.inl ⟨by rfl, ?_⟩) hS ?_
      rotate_left 1
      · intro w' hSw
        try dsimp only at hSw
        obtain ⟨q1, q2, q3⟩ := hSw
        go_simp
        all_goals with_reducible rfl
      try simp only [Act.put, List.setIfInBounds_toArray, List.set_cons_zero, List.set_cons_succ]
      refine held_take (i := 13) (v := ?_) 34 rfl rfl (by kernel_rfl) (by kernel_rfl) (by kernel_rfl) (fun _ _ _ h => h) (Or.inl ⟨by rfl, ?_⟩) hS ?_
      rotate_left 1
      · intro w' hSw
        try dsimp only at hSw
        obtain ⟨q1, q2, q3⟩ := hSw
        go_simp
        all_goals with_reducible rfl
      try simp only [Act.put, List.setIfInBounds_toArray, List.set_cons_zero, List.set_cons_succ]
      refine held_take (i := 14) (v := ?_) 35 rfl rfl (by kernel_rfl) (by kernel_rfl) (by kernel_rfl) (fun _ _ _ h => h) (Or.inl ⟨by rfl, ?_⟩) hS ?_
      rotate_left 1
      · intro w' hSw
        try dsimp only at hSw
        obtain ⟨q1, q2, q3⟩ := hSw
        go_simp
        all_goals with_reducible rfl
      try simp only [Act.put, List.setIfInBounds_toArray, List.set_cons_zero, List.set_cons_succ]
      refine held_take (i := 15) (v := ?_) 36 rfl rfl (by kernel_rfl) (by kernel_rfl) (by kernel_rfl) (fun _ _ _ h => h) (Or.inl ⟨by rfl, ?_⟩) hS ?_
      rotate_left 1
      · intro w' hSw
        try dsimp only at hSw
        obtain ⟨q1, q2, q3⟩ := hSw
        go_simp
        all_goals with_reducible rfl
      try simp only [Act.put, List.setIfInBounds_toArray, List.set_cons_zero, List.set_cons_succ]
      refine held_take (i := 16) (v := ?_) 8 rfl rfl (by kernel_rfl) (by kernel_rfl) (by kernel_rfl) (fun _ _ _ h => h) (Or.inl ⟨by rfl, ?_⟩) hS ?_
      rotate_left 1
      · intro w' hSw
        try dsimp only at hSw
        obtain ⟨q1, q2, q3⟩ := hSw
        go_simp
        all_goals with_reducible rfl
      try simp only [Act.put, List.setIfInBounds_toArray, List.set_cons_zero, List.set_cons_succ]
      refine held_take (i := 17) (v := ?_) 9 rfl rfl (by kernel_rfl) (by kernel_rfl) (by kernel_rfl) (fun _ _ _ h => h) (Or.inl ⟨by rfl, ?_⟩) hS ?_
      rotate_left 1
      · intro w' hSw
        try dsimp only at hSw
        obtain ⟨q1, q2, q3⟩ := hSw
        go_simp
        all_goals with_reducible rfl
      try simp only [Act.put, List.setIfInBounds_toArray, List.set_cons_zero, List.set_cons_succ]
      refine wpAnyH_done (by kernel_rfl) (noPanic_normal ?_) _
      obtain ⟨e0, e1, -⟩ := hS
      clear u1 u2
      have u3 := IntWalk.i64_in (-(x.lo - y.hi)) (by omega)
      have u4 := IntWalk.i64_in (-(x.hi - y.lo)) (by omega)
      generalize x.lo - y.hi = lo at *
      generalize x.hi - y.lo = hi at *
      have hmax := max2_int
      have hmax3 := max3_int
      obtain ⟨m1, hm1⟩ : ∃ m1, max 0 (max lo (-hi)) = m1 := ⟨_, rfl⟩
      obtain ⟨m2, hm2⟩ : ∃ m2, max hi (-lo) = m2 := ⟨_, rfl⟩
      rw [hm1, hm2] at hnx
      have hbig1 : Hid (k + 1 ≤ maxLen) := by show k + 1 ≤ maxLen; unfold maxLen; omega
      have hbig2 : Hid ((k + 1) * 16 ≤ 140737488355328) := by show (k + 1) * 16 ≤ 140737488355328; omega
      obtain ⟨i0, hi0, hz0, hz1, hz2⟩ := info_parts Tryz.infoBnd
      have hnews : ∀ (j : Nat) (u : Value), ([.int .i64 m1, .int .i64 m2] : List Value)[j]? = some u → (wd.alloc (.cells #[.int .i64 m1, .int .i64 m2] 24)).cell? ((⟨wd.heap.size, 0, none⟩ : Addr).add j) = some u :=
        World.news_of_block (cs := #[.int .i64 m1, .int .i64 m2]) (World.alloc_heap_new wd _)
      have hownf := hown.alloc (.cells #[.int .i64 m1, .int .i64 m2] 24)
      have hbf := (Below.refl wd.heap.size wd).alloc (Nat.le_refl _) (.cells #[.int .i64 m1, .int .i64 m2] 24)
      have hsz2 : w.heap.size + 2 ≤ (wd.alloc (.cells #[.int .i64 m1, .int .i64 m2] 24)).heap.size := by simp; omega
      have k6f := k6.alloc (.cells #[.int .i64 m1, .int .i64 m2] 24)
      have hbwf := hb.alloc hb.size (.cells #[.int .i64 m1, .int .i64 m2] 24)
      have e0f := (World.cell?_alloc_lt wd (.cells #[.int .i64 m1, .int .i64 m2] 24) ⟨bO, oO + k * 2, none⟩ (by dsimp only; omega)).trans e0
      have e1f := (World.cell?_alloc_lt wd (.cells #[.int .i64 m1, .int .i64 m2] 24) ⟨bO, oO + k * 2 + 1, none⟩ (by dsimp only; omega)).trans e1
      go_wp2_with (at_builtin; first | rw [hm1] | rw [hm2] | (refine wpList_append_lies _ rfl (.tmp 37) (.tmp 47) 27 rfl (w.heap.size + 2) 24 i0 (.agg #[.int .i64 0, .int .i64 0]) 2 16 Tryz.underlying27 hi0 hz0 hz1 hz2 rfl (by decide) u5 k (((bendL s l).take k).flatMap Bnd.cells) rfl hownf ⟨wd.heap.size, 0, none⟩ 1 1 [.int .i64 m1, .int .i64 m2] rfl rfl hnews (by simp [Value.oneCell']) (by decide) hbig1.out hbig2.out hsz2 (wd.heap.size + 1) (by simp) ?_; intro g cap w7 hown7 hgrow hlies hlt7; have hbb : Below (w.heap.size + 2) _ w7 := ⟨hgrow.os, hgrow.tape, hgrow.output, hgrow.size, fun b hb2 => hgrow.block b (Nat.lt_of_lt_of_le hb2 hsz2) (fun e => by have := (hownf.lt _ e.symm).1; omega)⟩; have e0g := (hbb.cell (p := ⟨bO, oO + k * 2, none⟩) (by dsimp only; omega)).trans e0f; have e1g := (hbb.cell (p := ⟨bO, oO + k * 2 + 1, none⟩) (by dsimp only; omega)).trans e1f; have k6g := k6f.belowB hbb (by omega); obtain ⟨c6, f6, l6⟩ := k6g.rules))
      go_roundw
      case rel =>
        refine ⟨k + 1, by go_num, by omega, ?_, ?_, ?_, ?_⟩
        · rw [hpk.out]
          exact (k6g.set_ 0 (.int .i64 x.lo)).set_ 1 (.int .i64 x.hi)
        · rw [hnx.out]
          have hg7 : w.heap.size + 2 ≤ g := (hown7.lt _ rfl).1
          exact ownsRow_setCell (ownsRow_setCell hown7 (by simp [Value.ownBlock]; omega) _) (by simp [Value.ownBlock]; omega) _
        · exact ((hbwf.trans (hbb.mono (by omega))).setCell (p := ⟨w.heap.size + 1, 0, none⟩) (by simp) _).setCell (p := ⟨w.heap.size + 1, 1, none⟩) (by simp) _
        · have := hbb.size
          simp
          omega
      case measure => simp [intOf]; omega
    · obtain rfl : k = n := by omega
      go_wp2
      go_ret
      have ht : (bendL s l).take k = bendL s l := List.take_of_length_le (by rw [hEl.out]; exact Nat.le_refl _)
      rw [ht] at hown
      obtain ⟨P, pc, e2, h2⟩ := SlAt.of_own (enc := Bnd.cells) hown (by omega) (bendL s l) rfl (fun _ => rfl) hEl.out
      exact ⟨P, pc, by rw [e2]; rfl, h2.mono (by omega), hb⟩
end Go.Proofs.YtjiaepphnddpoaaGreat
namespace Go.Proofs.YtjiaepphnddpoaaGreat
open Go.RowKit Go.Shelf
set_option linter.unusedSimpArgs false
set_option linter.unusedVariables false

def sumI : List Int → Int
  | [] => 0
  | b :: bs => sumI bs + b
def ownI (sl : Int) (x : Sec) (b : Int) : Int := x.drag * (sl * sl + b)
def pullI (sl : Int) (secs : List Sec) (l : List Int) : List Int := (List.range l.length).map fun i => sumI ((List.zipWith (ownI sl) secs l).drop i)
def fillI (P : List Int) (k : Nat) : List Int := List.replicate k 0 ++ P.drop k
theorem fillI_set {P : List Int} {k : Nat} {y : Int} (h : P[k]? = some y) : (fillI P (k + 1)).set k y = fillI P k := by
  have hk : k < P.length := (List.getElem?_eq_some_iff.1 h).1
  have ey : P[k] = y := (List.getElem?_eq_some_iff.1 h).2
  unfold fillI
  rw [List.set_append_left _ _ (by rw [List.length_replicate]; omega), List.replicate_succ', List.set_append_right _ _ (by rw [List.length_replicate]; omega)]
  rw [List.length_replicate, Nat.sub_self, List.set_cons_zero, List.append_assoc, List.drop_eq_getElem_cons hk, ey]; rfl
theorem pullI_len (sl : Int) (secs : List Sec) (l : List Int) : (pullI sl secs l).length = l.length := by simp [pullI]
theorem pullI_get (sl : Int) (secs : List Sec) (l : List Int) {k : Nat} (hk : k < l.length) : (pullI sl secs l)[k]? = some (sumI ((List.zipWith (ownI sl) secs l).drop k)) := by simp [pullI, hk]
theorem sumI_step {Z : List Int} {k : Nat} {z : Int} (h : Z[k]? = some z) : sumI (Z.drop k) = sumI (Z.drop (k + 1)) + z := by
  have hk : k < Z.length := (List.getElem?_eq_some_iff.1 h).1
  have e : Z[k] = z := (List.getElem?_eq_some_iff.1 h).2
  rw [List.drop_eq_getElem_cons hk, e]; rfl
theorem sumI_bd : ∀ (Z : List Int) (M : Int), (∀ z ∈ Z, 0 ≤ z ∧ z ≤ M) → 0 ≤ sumI Z ∧ sumI Z ≤ Z.length * M
  | [], M, _ => by simp [sumI]
  | z :: Z, M, h => by
    obtain ⟨a1, a2⟩ := sumI_bd Z M (fun y hy => h y (List.mem_cons_of_mem _ hy))
    obtain ⟨b1, b2⟩ := h z (List.mem_cons_self ..)
    simp only [sumI, List.length_cons]
    have e : ((Z.length + 1 : Nat) : Int) * M = Z.length * M + M := by rw [Int.natCast_add, Int.add_mul]; simp
    rw [e]
    omega
theorem ownI_bd {x : Sec} {b sl : Int} (hx : okSec x = true) (h1 : 0 ≤ sl) (h2 : sl ≤ 150) (h5 : 0 ≤ b) (h6 : b ≤ 32768) : (0 ≤ sl * sl ∧ sl * sl ≤ 22500) ∧ 0 ≤ x.drag * (sl * sl + b) ∧ x.drag * (sl * sl + b) ≤ 60000000 := by
  obtain ⟨⟨r1, r2⟩, _, ⟨r3, r4⟩, _⟩ := ownPull_bd (b := ⟨b, b⟩) hx h1 h2 h1 h2 h5 h6 h5 h6
  exact ⟨⟨r1, r2⟩, r3, r4⟩
set_option maxRecDepth 100000 in
set_option maxHeartbeats 4000000 in
theorem Rpull_any (s : Strm) (A D : Option Addr) (n c pc B1 B2 : Nat) (l : List Int) (sl : Int) (w : World) (ho : okStrm s = true) (h0 : 0 ≤ sl) (h1 : sl ≤ 150) (hlb : ∀ x ∈ l, 0 ≤ x ∧ x ≤ 32768) (hss : SlAt w B1 5 Sec.cells A n c s.secs) (hp : SlAt w B2 1 ivs D n pc l) :
    Calls Tryz.prog 176 #[.agg #[.int .i64 s.head, .slice A n c, .int .i64 s.lane.lo, .int .i64 s.lane.hi, .int .i64 s.bend], .slice D n pc, .int .i64 sl] w fun e w' => ∃ P pc, e = .returned (.slice P n pc) ∧ SlAt w' w.heap.size 1 ivs P n pc (pullI sl s.secs l) ∧ Below w.heap.size w w' := by
  have hn8 : n ≤ 8 := by have := ok_head ho; unfold headOk at this; have := hss.len; omega
  have hsl := Lib.hid hss.len
  have hll := Lib.hid hp.len
  replace ho := Lib.hid ho
  replace hlb := Lib.hid hlb
  obtain ⟨i0, hi0, hz0, hz1, hz2⟩ := info_parts Tryz.infoInt
  have hc1 := Lib.hid (show i0.bytes * n ≤ 281474976710656 by rw [hz2]; omega)
  have hc2 := Lib.hid (show n ≤ maxLen by unfold maxLen; omega)
  have hnn := IntWalk.i64_in ((n : Int) - 1) (by omega)
  have k3 := Blk.new w 26 #[.int .i64 s.head, .slice A n c, .int .i64 s.lane.lo, .int .i64 s.lane.hi, .int .i64 s.bend]
  have b0 := (Below.refl w.heap.size w).alloc (Nat.le_refl _) (.cells #[.int .i64 s.head, .slice A n c, .int .i64 s.lane.lo, .int .i64 s.lane.hi, .int .i64 s.bend] 26)
  go_enter Tryz.func176, Tryz.ntmps176
  go_wp2_with (at_make; refine wpList_make_full _ rfl _ _ 31 rfl (w.heap.size + 1) 3 i0 (.int .i64 0) 1 Tryz.underlying31 hi0 hz0 hz1 _ _ _ _ n rfl rfl rfl rfl hc1.out hc2.out (by simp) ?_; intro w1 hown hgrow; have k3a := k3.grown hgrow (by simp); obtain ⟨c3, f3, l3⟩ := k3a.rules)
  have hown0 : w1.ownsRow (w.heap.size + 1) 3 1 (.slice (some ⟨w.heap.size + 1, 0, none⟩) n n) n ((fillI (pullI sl s.secs l) n).map (Value.int .i64)) := by
    have e : fillI (pullI sl s.secs l) n = List.replicate n 0 := by unfold fillI; rw [List.drop_eq_nil_of_le (by rw [pullI_len, hll.out]; omega), List.append_nil]
    rw [e, List.map_replicate]
    rw [madeCells_int, World.size_alloc] at hown
    exact hown
  have hb1 : Below w.heap.size w w1 := b0.grown hgrow b0.size (fun k e => by cases e)
  have hsz1 : w.heap.size + 1 ≤ w1.heap.size := by have := hgrow.size; simpa using this
  clear hown hgrow c3 f3 l3 k3 b0
  have hZl : Hid ((List.zipWith (ownI sl) s.secs l).length = n) := by show _ = _; rw [List.length_zipWith, hll.out, hsl.out]; omega
  have hZ : ∀ (m : Nat) (z : Int), (List.zipWith (ownI sl) s.secs l)[m]? = some z → 0 ≤ z ∧ z ≤ 60000000 := by
    intro m z hz
    rw [List.getElem?_zipWith] at hz
    cases hs1 : s.secs[m]? with
    | none => rw [hs1] at hz; cases hz
    | some x =>
      cases hb1 : l[m]? with
      | none => rw [hs1, hb1] at hz; cases hz
      | some y =>
        rw [hs1, hb1] at hz
        simp only [Option.some.injEq] at hz
        subst hz
        obtain ⟨d1, d2⟩ := hlb.out y (List.mem_of_getElem? hb1)
        have hm : m < s.secs.length := (List.getElem?_eq_some_iff.1 hs1).1
        have hx : okSec x = true := by
          have := ok_sec ho.out hm
          rw [sec_at s hm] at hs1
          injection hs1 with hs1
          rw [← hs1]; exact this
        exact (ownI_bd hx h0 h1 d1 d2).2
  have hS : ∀ m, 0 ≤ sumI ((List.zipWith (ownI sl) s.secs l).drop m) ∧ sumI ((List.zipWith (ownI sl) s.secs l).drop m) ≤ 480000000 := by
    intro m
    have h8 : ((List.zipWith (ownI sl) s.secs l).drop m).length ≤ 8 := by rw [List.length_drop, hZl.out]; omega
    have := sumI_bd ((List.zipWith (ownI sl) s.secs l).drop m) 60000000 (fun z hz => by
      have hz' := List.mem_of_mem_drop hz
      obtain ⟨j, hj⟩ := List.mem_iff_getElem?.1 hz'
      exact hZ j z hj)
    omega
  replace hS := Lib.hid hS
  clear hZ
  go_loopw [8, 9] (fun v j wr => ∃ k : Nat, j = .int .i64 ((k : Int) - 1) ∧ k ≤ n ∧ v = .int .i64 (sumI ((List.zipWith (ownI sl) s.secs l).drop k)) ∧ Blk wr w.heap.size 26 #[.int .i64 s.head, .slice A n c, .int .i64 s.lane.lo, .int .i64 s.lane.hi, .int .i64 s.bend] ∧
      wr.ownsRow (w.heap.size + 1) 3 1 (.slice (some ⟨w.heap.size + 1, 0, none⟩) n n) n ((fillI (pullI sl s.secs l) k).map (Value.int .i64)) ∧ Below w.heap.size w wr) (fun v j wr => (intOf j + 1).toNat)
  case atStart =>
    have e : (List.zipWith (ownI sl) s.secs l).drop n = [] := List.drop_eq_nil_of_le (by rw [hZl.out]; omega)
    exact ⟨n, rfl, Nat.le_refl _, by rw [e]; rfl, k3a, hown0, hb1⟩
  case round =>
    clear hown0 k3a hb1
    obtain ⟨k, rfl, hk, rfl, k3, hown, hb⟩ := hrel
    cases k with
    | zero =>
      go_wp2
      go_ret
      have e : fillI (pullI sl s.secs l) 0 = pullI sl s.secs l := by simp [fillI]
      rw [e] at hown
      obtain ⟨O1, c1, e1, h1⟩ := SlAt.of_own (enc := ivs) hown (by omega) (pullI sl s.secs l) (flatMap_ivs _).symm (fun _ => rfl) (by rw [pullI_len, hll.out])
      exact ⟨O1, c1, congrArg Ending.returned e1, h1.mono (by omega), hb⟩
    | succ m =>
      rw [show (((m + 1 : Nat) : Int) - 1) = (m : Int) from by omega]
      obtain ⟨x, hx⟩ := some_of_lt hll.out (show m < n by omega)
      have hms : m < s.secs.length := by have := hsl.out; omega
      obtain ⟨d1, d2⟩ := hlb.out x (List.mem_of_getElem? hx)
      obtain ⟨⟨r1, r2⟩, r3, r4⟩ := ownI_bd (b := x) (ok_sec ho.out hms) h0 h1 d1 d2
      have hz : (List.zipWith (ownI sl) s.secs l)[m]? = some (ownI sl (s.sec m) x) := by
        rw [List.getElem?_zipWith, sec_at s hms, hx]
      have hst := Lib.hid (sumI_step hz)
      obtain ⟨s1, s2⟩ := hS.out (m + 1)
      have hpz := Lib.hid (pullI_get sl s.secs l (k := m) (by have := hll.out; omega))
      obtain ⟨bA, oA, hA, -, hbA, -, -, -, e3, -⟩ := (hss.keep hb.size (fun _ _ h => hb.cell h)).sec (sec_at s hms)
      obtain ⟨bD, oD, hD, -, hbD, e0⟩ := (hp.keep hb.size (fun _ _ h => hb.cell h)).int hx
      have ho' : ownI sl (s.sec m) x = (s.sec m).drag * (sl * sl + x) := rfl
      rw [ho'] at hst
      generalize (s.sec m).drag = dr at *
      generalize sumI ((List.zipWith (ownI sl) s.secs l).drop (m + 1)) = S at *
      replace hx := Lib.hid hx
      subst hA
      subst hD
      have hml : (m : Int) < (n : Int) := by omega
      have hm0 : (0 : Int) ≤ (m : Int) := by omega
      have t1 := IntWalk.i64_in (sl * sl) (by omega)
      have t2 := IntWalk.i64_in (sl * sl + x) (by omega)
      have t3 := IntWalk.i64_in (dr * (sl * sl + x)) (by omega)
      have t4 := IntWalk.i64_in (S + dr * (sl * sl + x)) (by omega)
      go_wp2_with fail
      refine wp_held_np (fun w' : World => (∀ j, w'.cell? ⟨w.heap.size, j, none⟩ = #[Value.int .i64 s.head, .slice (some ⟨bA, oA, none⟩) n c, .int .i64 s.lane.lo, .int .i64 s.lane.hi, .int .i64 s.bend][j]?) ∧ w'.cell? ⟨bD, oD + m, none⟩ = some (.int .i64 x) ∧ w'.cell? ⟨bA, oA + m * 5 + 3, none⟩ = some (.int .i64 dr)) (by kernel_rfl) ?_
      have hS3 : (fun w' : World => (∀ j, w'.cell? ⟨w.heap.size, j, none⟩ = #[Value.int .i64 s.head, .slice (some ⟨bA, oA, none⟩) n c, .int .i64 s.lane.lo, .int .i64 s.lane.hi, .int .i64 s.bend][j]?) ∧ w'.cell? ⟨bD, oD + m, none⟩ = some (.int .i64 x) ∧ w'.cell? ⟨bA, oA + m * 5 + 3, none⟩ = some (.int .i64 dr)) wr.drew := ⟨k3.cell, e0, e3⟩
      replace k3 := k3.drew
      replace hown : wr.drew.ownsRow _ _ _ _ _ _ := hown
      replace hb := hb.drew
      generalize wr.drew = wd at *
      refine held_take (i := 0) (v := ?_) 22 rfl rfl (by kernel_rfl) (by kernel_rfl) (by kernel_rfl) (fun _ _ _ h => h) (Or.inl ⟨by rfl, ?_⟩) hS3 ?_
      rotate_left 1
      · intro w' hSw
        try dsimp only at hSw
        obtain ⟨q1, q2, q3⟩ := hSw
        go_simp
        all_goals with_reducible rfl
      try simp only [Act.put, List.setIfInBounds_toArray, List.set_cons_zero, List.set_cons_succ]
      refine held_take (i := 1) (v := ?_) 23 rfl rfl (by kernel_rfl) (by kernel_rfl) (by kernel_rfl) (fun _ _ _ h => h) (Or.inl ⟨by rfl, ?_⟩) hS3 ?_
      rotate_left 1
      · intro w' hSw
        try dsimp only at hSw
        obtain ⟨q1, q2, q3⟩ := hSw
        go_simp
        all_goals with_reducible rfl
      try simp only [Act.put, List.setIfInBounds_toArray, List.set_cons_zero, List.set_cons_succ]
      refine held_take (i := 2) (v := ?_) 24 rfl rfl (by kernel_rfl) (by kernel_rfl) (by kernel_rfl) (fun _ _ _ h => h) (Or.inl ⟨by rfl, ?_⟩) hS3 ?_
      rotate_left 1
      · intro w' hSw
        try dsimp only at hSw
        obtain ⟨q1, q2, q3⟩ := hSw
        go_simp
        all_goals with_reducible rfl
      try simp only [Act.put, List.setIfInBounds_toArray, List.set_cons_zero, List.set_cons_succ]
      refine held_take (i := 3) (v := ?_) 25 rfl rfl (by kernel_rfl) (by kernel_rfl) (by kernel_rfl) (fun _ _ _ h => h) (Or.inl ⟨by rfl, ?_⟩) hS3 ?_
      rotate_left 1
      · intro w' hSw
        try dsimp only at hSw
        obtain ⟨q1, q2, q3⟩ := hSw
        go_simp
        all_goals with_reducible rfl
      try simp only [Act.put, List.setIfInBounds_toArray, List.set_cons_zero, List.set_cons_succ]
      refine held_take (i := 4) (v := ?_) 26 rfl rfl (by kernel_rfl) (by kernel_rfl) (by kernel_rfl) (fun _ _ _ h => h) (Or.inl ⟨by rfl, ?_⟩) hS3 ?_
      rotate_left 1
      · intro w' hSw
        try dsimp only at hSw
        obtain ⟨q1, q2, q3⟩ := hSw
        go_simp
        all_goals with_reducible rfl
      try simp only [Act.put, List.setIfInBounds_toArray, List.set_cons_zero, List.set_cons_succ]
      refine held_take (i := 5) (v := ?_) 27 rfl rfl (by kernel_rfl) (by kernel_rfl) (by kernel_rfl) (fun _ _ _ h => h) (Or.inl ⟨by rfl, ?_⟩) hS3 ?_
      rotate_left 1
      · intro w' hSw
        try dsimp only at hSw
        obtain ⟨q1, q2, q3⟩ := hSw
        go_simp
        all_goals with_reducible rfl
      try simp only [Act.put, List.setIfInBounds_toArray, List.set_cons_zero, List.set_cons_succ]
      refine held_take (i := 6) (v := ?_) 28 rfl rfl (by kernel_rfl) (by kernel_rfl) (by kernel_rfl) (fun _ _ _ h => h) (Or.inl ⟨by rfl, ?_⟩) hS3 ?_
      rotate_left 1
      · intro w' hSw
        try dsimp only at hSw
        obtain ⟨q1, q2, q3⟩ := hSw
        go_simp
        all_goals with_reducible rfl
      try simp only [Act.put, List.setIfInBounds_toArray, List.set_cons_zero, List.set_cons_succ]
      refine held_take (i := 7) (v := ?_) 29 rfl rfl (by kernel_rfl) (by kernel_rfl) (by kernel_rfl) (fun _ _ _ h => h) (Or.inl ⟨by rfl, ?_⟩) hS3 ?_
      rotate_left 1
      · intro w' hSw
        try dsimp only at hSw
        obtain ⟨q1, q2, q3⟩ := hSw
        go_simp
        all_goals with_reducible rfl
      try simp only [Act.put, List.setIfInBounds_toArray, List.set_cons_zero, List.set_cons_succ]
      refine held_take (i := 8) (v := ?_) 30 rfl rfl (by kernel_rfl) (by kernel_rfl) (by kernel_rfl) (fun _ _ _ h => h) (Or.inl ⟨by rfl, ?_⟩) hS3 ?_
      rotate_left 1
      · intro w' hSw
        try dsimp only at hSw
        obtain ⟨q1, q2, q3⟩ := hSw
        go_simp
        all_goals with_reducible rfl
      try simp only [Act.put, List.setIfInBounds_toArray, List.set_cons_zero, List.set_cons_succ]
      refine held_take (i := 9) (v := ?_) 31 rfl rfl (by kernel_rfl) (by kernel_rfl) (by kernel_rfl) (fun _ _ _ h => h) (Or.inl ⟨by rfl, ?_⟩) hS3 ?_
      rotate_left 1
      · intro w' hSw
        try dsimp only at hSw
        obtain ⟨q1, q2, q3⟩ := hSw
        go_simp
        all_goals with_reducible rfl
      try simp only [Act.put, List.setIfInBounds_toArray, List.set_cons_zero, List.set_cons_succ]
      refine held_take (i := 10) (v := ?_) 32 rfl rfl (by kernel_rfl) (by kernel_rfl) (by kernel_rfl) (fun _ _ _ h => h) (Or.inl ⟨by rfl, ?_⟩) hS3 ?_
      rotate_left 1
      · intro w' hSw
        try dsimp only at hSw
        obtain ⟨q1, q2, q3⟩ := hSw
        go_simp
        all_goals with_reducible rfl
      try simp only [Act.put, List.setIfInBounds_toArray, List.set_cons_zero, List.set_cons_succ]
      refine held_take (i := 11) (v := ?_) 33 rfl rfl (by kernel_rfl) (by kernel_rfl) (by kernel_rfl) (fun _ _ _ h => h) (Or.inl ⟨by rfl, ?_⟩) hS3 ?_
      rotate_left 1
      · intro w' hSw
        try dsimp only at hSw
        obtain ⟨q1, q2, q3⟩ := hSw
        go_simp
        all_goals with_reducible rfl
      try simp only [Act.put, List.setIfInBounds_toArray, List.set_cons_zero, List.set_cons_succ]
      refine held_take (i := 12) (v := ?_) 34 rfl rfl (by kernel_rfl) (by kernel_rfl) (by kernel_rfl) (fun _ _ _ h => h) (Or.inl ⟨by rfl, ?_⟩) hS3 ?_
      rotate_left 1
      · intro w' hSw
        try dsimp only at hSw
        obtain ⟨q1, q2, q3⟩ := hSw
        go_simp
        all_goals with_reducible rfl
      try simp only [Act.put, List.setIfInBounds_toArray, List.set_cons_zero, List.set_cons_succ]
      refine held_take (i := 13) (v := ?_) 35 rfl rfl (by kernel_rfl) (by kernel_rfl) (by kernel_rfl) (fun _ _ _ h => h) (Or.inl ⟨by rfl, ?_⟩) hS3 ?_
      rotate_left 1
      · intro w' hSw
        try dsimp only at hSw
        obtain ⟨q1, q2, q3⟩ := hSw
        go_simp
        all_goals with_reducible rfl
      try simp only [Act.put, List.setIfInBounds_toArray, List.set_cons_zero, List.set_cons_succ]
      refine held_take (i := 14) (v := ?_) 36 rfl rfl (by kernel_rfl) (by kernel_rfl) (by kernel_rfl) (fun _ _ _ h => h) (Or.inl ⟨by rfl, ?_⟩) hS3 ?_
      rotate_left 1
      · intro w' hSw
        try dsimp only at hSw
        obtain ⟨q1, q2, q3⟩ := hSw
        go_simp
        all_goals with_reducible rfl
      try simp only [Act.put, List.setIfInBounds_toArray, List.set_cons_zero, List.set_cons_succ]
      refine held_take (i := 15) (v := ?_) 37 rfl rfl (by kernel_rfl) (by kernel_rfl) (by kernel_rfl) (fun _ _ _ h => h) (Or.inl ⟨by rfl, ?_⟩) hS3 ?_
      rotate_left 1
      · intro w' hSw
        try dsimp only at hSw
        obtain ⟨q1, q2, q3⟩ := hSw
        go_simp
        all_goals with_reducible rfl
      try simp only [Act.put, List.setIfInBounds_toArray, List.set_cons_zero, List.set_cons_succ]
      refine held_take (i := 16) (v := ?_) 38 rfl rfl (by kernel_rfl) (by kernel_rfl) (by kernel_rfl) (fun _ _ _ h => h) (Or.inl ⟨by rfl, ?_⟩) hS3 ?_
      rotate_left 1
      · intro w' hSw
        try dsimp only at hSw
        obtain ⟨q1, q2, q3⟩ := hSw
        go_simp
        all_goals with_reducible rfl
      try simp only [Act.put, List.setIfInBounds_toArray, List.set_cons_zero, List.set_cons_succ]
      refine held_take (i := 17) (v := ?_) 8 rfl rfl (by kernel_rfl) (by kernel_rfl) (by kernel_rfl) (fun _ _ _ h => h) (Or.inl ⟨by rfl, ?_⟩) hS3 ?_
      rotate_left 1
      · intro w' hSw
        try dsimp only at hSw
        obtain ⟨q1, q2, q3⟩ := hSw
        go_simp
        all_goals with_reducible rfl
      try simp only [Act.put, List.setIfInBounds_toArray, List.set_cons_zero, List.set_cons_succ]
      refine wpAnyH_done (by kernel_rfl) (noPanic_normal ?_) _
      clear hS3 e0 e3 t1 t2 t3 t4
      have hown3 := (hown.stored m (.int .i64 (S + dr * (sl * sl + x)))).1
      rw [← List.map_set, fillI_set (by rw [hpz.out, hst.out])] at hown3
      obtain ⟨v0, hcc⟩ := own_cell hown (j := m) (by omega)
      have hfr := hown.frozenAt m
      have k3b := k3.far (p := ⟨w.heap.size + 1, m, none⟩) (by simp) (.int .i64 (S + dr * (sl * sl + x)))
      go_wp2
      go_roundw
      case rel => exact ⟨m, rfl, by omega, by rw [hst.out], k3b, hown3, hb.setCell (p := ⟨w.heap.size + 1, m, none⟩) (by simp) _⟩
      case measure => simp [intOf]
end Go.Proofs.YtjiaepphnddpoaaGreat
namespace Go.Proofs.YtjiaepphnddpoaaGreat
open Go.RowKit Go.Shelf
set_option linter.unusedSimpArgs false
set_option linter.unusedVariables false

set_option maxRecDepth 100000 in
set_option maxHeartbeats 1000000 in
theorem Ralong_any (b : Bnd) (w : World) :
    Calls Tryz.prog 59 #[.agg #[.int .i64 b.lo, .int .i64 b.hi]] w fun e w' => e = .returned (.bool (okBnd 50 b)) ∧ Below w.heap.size w w' := by
  have hen := fun W => rends_any b (-50) 50 W
  go_enter Tryz.func59, Tryz.ntmps59
  go_wp2_with fail
  refine (hen _).mono ?_
  rintro e w3 ⟨rfl, hb1⟩
  go_wp2
  go_ret
  exact ⟨ret_bool (by simp [okBnd]), ((Below.refl _ _).alloc (Nat.le_refl _) _).trans (hb1.mono (by simp))⟩
theorem ok_pull {s : Strm} {l : List Bnd} (ho : okStrm s = true) (hl : okOffs s l = true) : (∀ x ∈ (bendL s l).map (·.lo), 0 ≤ x ∧ x ≤ 32768) ∧ (∀ x ∈ (bendL s l).map (·.hi), 0 ≤ x ∧ x ≤ 32768) := by
  have hh := ok_head ho
  have hla := okOffs_all hl
  constructor
  all_goals
    intro x hx
    obtain ⟨y, hy, rfl⟩ := List.mem_map.1 hx
    obtain ⟨k, hk⟩ := List.mem_iff_getElem?.1 hy
    have := bendL_bd hh hla hk
    omega
theorem sumB_lo : ∀ Z : List Bnd, (sumB Z).lo = sumI (Z.map (·.lo))
  | [] => rfl
  | z :: Z => by simp only [sumB, List.map_cons, sumI, sumB_lo Z]
theorem sumB_hi : ∀ Z : List Bnd, (sumB Z).hi = sumI (Z.map (·.hi))
  | [] => rfl
  | z :: Z => by simp only [sumB, List.map_cons, sumI, sumB_hi Z]
theorem zipB_lo (sl fa : Int) : ∀ (secs : List Sec) (bd : List Bnd), (List.zipWith (ownPull sl fa) secs bd).map (·.lo) = List.zipWith (ownI sl) secs (bd.map (·.lo))
  | [], _ => rfl
  | _ :: _, [] => rfl
  | x :: xs, b :: bs => by simp only [List.zipWith_cons_cons, List.map_cons, zipB_lo sl fa xs bs]; rfl
theorem zipB_hi (sl fa : Int) : ∀ (secs : List Sec) (bd : List Bnd), (List.zipWith (ownPull sl fa) secs bd).map (·.hi) = List.zipWith (ownI fa) secs (bd.map (·.hi))
  | [], _ => rfl
  | _ :: _, [] => rfl
  | x :: xs, b :: bs => by simp only [List.zipWith_cons_cons, List.map_cons, zipB_hi sl fa xs bs]; rfl
theorem pullZ_lo (sl fa : Int) (secs : List Sec) (bd : List Bnd) : (pullZ sl fa secs bd).map (·.lo) = pullI sl secs (bd.map (·.lo)) := by
  unfold pullZ pullI
  rw [List.map_map, List.length_map]
  refine List.map_congr_left fun i _ => ?_
  show (sumB ((List.zipWith (ownPull sl fa) secs bd).drop i)).lo = _
  rw [sumB_lo, List.map_drop, zipB_lo]
theorem pullZ_hi (sl fa : Int) (secs : List Sec) (bd : List Bnd) : (pullZ sl fa secs bd).map (·.hi) = pullI fa secs (bd.map (·.hi)) := by
  unfold pullZ pullI
  rw [List.map_map, List.length_map]
  refine List.map_congr_left fun i _ => ?_
  show (sumB ((List.zipWith (ownPull sl fa) secs bd).drop i)).hi = _
  rw [sumB_hi, List.map_drop, zipB_hi]
theorem pullL_len (s : Strm) (l : List Bnd) (v : Int) (cur : Bnd) : (pullL s l v cur).length = l.length := by simp [pullL]
end Go.Proofs.YtjiaepphnddpoaaGreat
