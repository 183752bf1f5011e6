/-
  Shots, walks: delays that lie in an array, as numbers choose them.
-/
import Derived.Test.YtfengddpfeneiaaS5
import Derived.Test.YtfengddpfeneiaaQ16
import Derived.Deep.Cut
namespace Go.Proofs.Ytfengddpfeneiaa
open Go.RowKit Go.Shelf
set_option linter.unusedSimpArgs false
set_option linter.unusedVariables false

set_option maxRecDepth 100000 in
set_option maxHeartbeats 2000000 in
theorem late_own (a : Arr) (ha : okArr a = true) (bits : List Int) (S G O : Option Addr) (ns cs ng cg no co B1 B2 B3 : Nat) (w : World) (hS : SlAt w B1 1 ivs S ns cs a.sh) (hG : SlAt w B2 4 Gun.cells G ng cg a.gs) (ho : SlAt w B3 1 ivs O no co bits) :
    Calls Try.prog 53 #[.agg #[.slice S ns cs, .slice G ng cg], .slice O no co] w fun e w' => ∃ v, e = .returned v ∧ w'.ownsRow w.heap.size 3 1 v ng ((lateL a.gs bits).map (.int .i64 ·)) ∧ Below w.heap.size w w' := by
  have hgl := Lib.hid hG.len
  have hng : ng ≤ 8 := by have := okArr_len ha; unfold arrLen at this; rw [hG.len] at this; omega
  have hgo := Lib.hid (fun (g : Gun) (h : g ∈ a.gs) => okArr_gun ha h)
  have hP := Lib.hid (fun q W h => Pick_any bits q O no co B3 W h)
  obtain ⟨i0, hi0, hz0, hz1, hz2⟩ := info_parts Try.infoInt
  obtain ⟨w1, hw1⟩ : ∃ w1, w1 = w.alloc (.cells #[.slice S ns cs, .slice G ng cg] 25) := ⟨_, rfl⟩
  have k3 : Blk w1 w.heap.size 25 #[.slice S ns cs, .slice G ng cg] := by rw [hw1]; exact Blk.new _ _ _
  have b : Below w.heap.size w w1 := by rw [hw1]; exact (Below.refl _ _).alloc (Nat.le_refl _) _
  have hG1 : SlAt w1 B2 4 Gun.cells G ng cg a.gs := by rw [hw1]; exact hG.alloc _
  have ho1 : SlAt w1 B3 1 ivs O no co bits := by rw [hw1]; exact ho.alloc _
  clear hS hG ho ha
  go_enter Try.func53, Try.ntmps53
  go_wp2_with fail
  rw [← hw1]
  clear hw1
  go_loopw [5, 6] (fun v i wr => ∃ k : Nat, i = .int .i64 (k : Int) ∧ k ≤ ng ∧ wr.ownsRow w1.heap.size 3 1 v k (((lateL a.gs bits).take k).map (.int .i64 ·)) ∧ Below w1.heap.size w1 wr) (fun v i wr => ng - (intOf i).toNat)
  case atStart => exact ⟨0, rfl, Nat.zero_le _, ⟨rfl, .inl ⟨rfl, rfl⟩⟩, Below.refl _ _⟩
  case round =>
    obtain ⟨k, rfl, hk, hown, hb⟩ := hrel
    have k3r := k3.below hb
    obtain ⟨c3, f3, l3⟩ := k3r.rules
    by_cases hlt : k < ng
    · obtain ⟨x, hx⟩ := some_of_lt hgl.out hlt
      obtain ⟨bq, oq, hA, -, -, -, -, e2, e3⟩ := (hG1.below hb).gun hx
      have hxo := hgo.out x (List.mem_of_getElem? hx)
      have hk0 : (0 : Int) ≤ (k : Int) := by omega
      have hk1 : (k : Int) < (ng : Int) := by omega
      have hrb := restS_bd (pickS bits (k : Int)) (many := x.late.hi - x.late.lo + 1) (by omega)
      have htk : Hid (((lateL a.gs bits).take (k + 1)).map (Value.int .i64 ·) = ((lateL a.gs bits).take k).map (.int .i64 ·) ++ [.int .i64 (x.late.lo + restS (pickS bits (k : Int)) (x.late.hi - x.late.lo + 1))]) := by show _ = _; rw [List.take_add_one, lateL_at bits hx]; simp [lateD]
      obtain ⟨-, -, -, -, o5, o6, o7⟩ := hxo
      have u1 := IntWalk.i64_in (x.late.hi - x.late.lo) (by omega)
      have u2 := IntWalk.i64_in (x.late.hi - x.late.lo + 1) (by omega)
      have u3 := IntWalk.i64_in (x.late.lo + restS (pickS bits (k : Int)) (x.late.hi - x.late.lo + 1)) (by omega)
      have hR := fun W => Rest_any (pickS bits (k : Int)) (x.late.hi - x.late.lo + 1) W (by omega)
      have k7 := Blk.new wr 62 #[.int .i64 x.late.lo, .int .i64 x.late.hi]
      have hbel := (Below.refl wr.heap.size wr).alloc (Nat.le_refl _) (.cells #[.int .i64 x.late.lo, .int .i64 x.late.hi] 62)
      have how := (ho1.below hb).below hbel
      have hown9 := ownsRow_below hown hbel
      have hb9 := hb.trans (hbel.mono hb.size)
      have hgs := hb.size
      have hu5 : ∀ q, u5.ownBlock = some q → q < wr.heap.size := fun q e => (hown.lt q e).2
      subst hA
      replace hx := Lib.hid hx
      clear hbel
      go_wp2_with fail
      clear c3 f3 l3 e2 e3 k3r hown hb
      generalize wr.heap.size = g7 at *
      generalize wr.alloc (.cells #[.int .i64 x.late.lo, .int .i64 x.late.hi] 62) = V at *
      refine wp_held_np (fun w' : World => (∀ j, w'.cell? ⟨g7, j, none⟩ = #[Value.int .i64 x.late.lo, .int .i64 x.late.hi][j]?) ∧ True) (by kernel_rfl) ?_
      replace k7 := k7.drew
      replace how := how.drew
      replace hown9 : V.drew.ownsRow _ _ _ _ _ _ := hown9
      replace hb9 := hb9.drew
      generalize V.drew = V2 at *
      have hSx : (fun w' : World => (∀ j, w'.cell? ⟨g7, j, none⟩ = #[Value.int .i64 x.late.lo, .int .i64 x.late.hi][j]?) ∧ True) V2 := ⟨k7.cell, trivial⟩
      refine held_take (i := 0) (v := ?_) 21 rfl rfl (by kernel_rfl) (by kernel_rfl) (by kernel_rfl) (fun _ _ _ h => h) (Or.inl ⟨by rfl, ?_⟩) hSx ?_
      rotate_left 1
      · intro w' hSw
        try dsimp only at hSw
        obtain ⟨q1, q2⟩ := hSw
        go_simp
        all_goals with_reducible rfl
      try simp only [Act.put, List.setIfInBounds_toArray, List.set_cons_zero, List.set_cons_succ]
      refine held_take (i := 1) (v := ?_) 22 rfl rfl (by kernel_rfl) (by kernel_rfl) (by kernel_rfl) (fun _ _ _ h => h) (Or.inl ⟨by rfl, ?_⟩) hSx ?_
      rotate_left 1
      · intro w' hSw
        try dsimp only at hSw
        obtain ⟨q1, q2⟩ := hSw
        go_simp
        all_goals with_reducible rfl
      try simp only [Act.put, List.setIfInBounds_toArray, List.set_cons_zero, List.set_cons_succ]
      refine held_take (i := 2) (v := ?_) 23 rfl rfl (by kernel_rfl) (by kernel_rfl) (by kernel_rfl) (fun _ _ _ h => h) (Or.inl ⟨by rfl, ?_⟩) hSx ?_
      rotate_left 1
      · intro w' hSw
        try dsimp only at hSw
        obtain ⟨q1, q2⟩ := hSw
        go_simp
        all_goals with_reducible rfl
      try simp only [Act.put, List.setIfInBounds_toArray, List.set_cons_zero, List.set_cons_succ]
      refine held_take (i := 3) (v := ?_) 24 rfl rfl (by kernel_rfl) (by kernel_rfl) (by kernel_rfl) (fun _ _ _ h => h) (Or.inl ⟨by rfl, ?_⟩) hSx ?_
      rotate_left 1
      · intro w' hSw
        try dsimp only at hSw
        obtain ⟨q1, q2⟩ := hSw
        go_simp
        all_goals with_reducible rfl
      try simp only [Act.put, List.setIfInBounds_toArray, List.set_cons_zero, List.set_cons_succ]
      refine held_take (i := 4) (v := ?_) 25 rfl rfl (by kernel_rfl) (by kernel_rfl) (by kernel_rfl) (fun _ _ _ h => h) (Or.inl ⟨by rfl, ?_⟩) hSx ?_
      rotate_left 1
      · intro w' hSw
        try dsimp only at hSw
        obtain ⟨q1, q2⟩ := hSw
        go_simp
        all_goals with_reducible rfl
      try simp only [Act.put, List.setIfInBounds_toArray, List.set_cons_zero, List.set_cons_succ]
      refine held_take (i := 6) (v := ?_) 27 rfl rfl (by kernel_rfl) (by kernel_rfl) (by kernel_rfl) (fun _ _ _ h => h) (Or.inl ⟨by rfl, ?_⟩) hSx ?_
      rotate_left 1
      · intro w' hSw
        try dsimp only at hSw
        obtain ⟨q1, q2⟩ := hSw
        go_simp
        all_goals with_reducible rfl
      try simp only [Act.put, List.setIfInBounds_toArray, List.set_cons_zero, List.set_cons_succ]
      refine held_take (i := 7) (v := ?_) 28 rfl rfl (by kernel_rfl) (by kernel_rfl) (by kernel_rfl) (fun _ _ _ h => h) (Or.inl ⟨by rfl, ?_⟩) hSx ?_
      rotate_left 1
      · intro w' hSw
        try dsimp only at hSw
        obtain ⟨q1, q2⟩ := hSw
        go_simp
        all_goals with_reducible rfl
      try simp only [Act.put, List.setIfInBounds_toArray, List.set_cons_zero, List.set_cons_succ]
      refine held_take (i := 8) (v := ?_) 29 rfl rfl (by kernel_rfl) (by kernel_rfl) (by kernel_rfl) (fun _ _ _ h => h) (Or.inl ⟨by rfl, ?_⟩) hSx ?_
      rotate_left 1
      · intro w' hSw
        try dsimp only at hSw
        obtain ⟨q1, q2⟩ := hSw
        go_simp
        all_goals with_reducible rfl
      try simp only [Act.put, List.setIfInBounds_toArray, List.set_cons_zero, List.set_cons_succ]
      refine held_take (i := 9) (v := ?_) 30 rfl rfl (by kernel_rfl) (by kernel_rfl) (by kernel_rfl) (fun _ _ _ h => h) (Or.inl ⟨by rfl, ?_⟩) hSx ?_
      rotate_left 1
      · intro w' hSw
        try dsimp only at hSw
        obtain ⟨q1, q2⟩ := hSw
        go_simp
        all_goals with_reducible rfl
      try simp only [Act.put, List.setIfInBounds_toArray, List.set_cons_zero, List.set_cons_succ]
      refine held_take (i := 10) (v := ?_) 31 rfl rfl (by kernel_rfl) (by kernel_rfl) (by kernel_rfl) (fun _ _ _ h => h) (Or.inl ⟨by rfl, ?_⟩) hSx ?_
      rotate_left 1
      · intro w' hSw
        try dsimp only at hSw
        obtain ⟨q1, q2⟩ := hSw
        go_simp
        all_goals with_reducible rfl
      try simp only [Act.put, List.setIfInBounds_toArray, List.set_cons_zero, List.set_cons_succ]
      refine held_take (i := 11) (v := ?_) 32 rfl rfl (by kernel_rfl) (by kernel_rfl) (by kernel_rfl) (fun _ _ _ h => h) (Or.inl ⟨by rfl, ?_⟩) hSx ?_
      rotate_left 1
      · intro w' hSw
        try dsimp only at hSw
        obtain ⟨q1, q2⟩ := hSw
        go_simp
        all_goals with_reducible rfl
      try simp only [Act.put, List.setIfInBounds_toArray, List.set_cons_zero, List.set_cons_succ]
      refine held_one (i := 5) (by kernel_rfl) rfl rfl (fun K hK => ?_)
      go_simp
      refine (hP.out (k : Int) _ how).mono ?_
      rintro e w' ⟨rfl, rfl⟩
      refine hK _ _ hSx ?_
      clear hK K
      try simp only [Act.put, List.setIfInBounds_toArray, List.set_cons_zero, List.set_cons_succ]
      refine held_one (i := 12) (by kernel_rfl) rfl rfl (fun K hK => ?_)
      go_simp
      refine (hR _).mono ?_
      rintro e w' ⟨rfl, rfl⟩
      refine hK _ _ hSx ?_
      clear hK K hR
      try simp only [Act.put, List.setIfInBounds_toArray, List.set_cons_zero, List.set_cons_succ]
      refine held_take (i := 13) (v := ?_) 34 rfl rfl (by kernel_rfl) (by kernel_rfl) (by kernel_rfl) (fun _ _ _ h => h) (Or.inl ⟨by rfl, ?_⟩) hSx ?_
      rotate_left 1
      · intro w' hSw
        try dsimp only at hSw
        obtain ⟨q1, q2⟩ := hSw
        go_simp
        all_goals with_reducible rfl
      try simp only [Act.put, List.setIfInBounds_toArray, List.set_cons_zero, List.set_cons_succ]
      generalize x.late.lo + restS (pickS bits (k : Int)) (x.late.hi - x.late.lo + 1) = nv at *
      have hbig1 : Hid (k + 1 ≤ maxLen) := by show k + 1 ≤ maxLen; unfold maxLen; omega
      have hbig2 : Hid ((k + 1) * 8 ≤ 140737488355328) := by show (k + 1) * 8 ≤ 140737488355328; omega
      have hnews : ∀ (j : Nat) (u : Value), ([.int .i64 nv] : List Value)[j]? = some u → (V2.alloc (.cells #[.int .i64 nv] 3)).cell? ((⟨V2.heap.size, 0, none⟩ : Addr).add j) = some u :=
        World.news_of_block (cs := #[.int .i64 nv]) (World.alloc_heap_new V2 _)
      have hownf := hown9.alloc (.cells #[.int .i64 nv] 3)
      have hbf := hb9.alloc hb9.size (.cells #[.int .i64 nv] 3)
      have k7f := k7.alloc (.cells #[.int .i64 nv] 3)
      refine held_one (i := 14) (by kernel_rfl) rfl rfl (fun K hK => ?_)
      go_simp
      refine hK _ _ ⟨k7f.cell, trivial⟩ ?_
      clear hK K
      try simp only [Act.put, List.setIfInBounds_toArray, List.set_cons_zero, List.set_cons_succ]
      refine held_one (i := 15) (by kernel_rfl) rfl rfl (fun K hK => ?_)
      refine wp_append_lies _ _ _ 22 (by rfl) w1.heap.size 3 i0 (.int .i64 0) 1 8 Try.underlying22 hi0 hz0 hz1 hz2 rfl (by omega) u5 k (((lateL a.gs bits).take k).map (.int .i64 ·)) (by rfl) hownf ⟨V2.heap.size, 0, none⟩ 1 1 [.int .i64 nv] (by rfl) rfl hnews (by simp [Value.oneCell']) (by omega) hbig1.out hbig2.out (hbf.size) (V2.heap.size + 1) (by simp) ?_
      intro g cap w7 hown7 hgrow hlies hlt7
      have hbg : Below w1.heap.size _ w7 := ⟨hgrow.os, hgrow.tape, hgrow.output, hgrow.size, fun b hb2 => hgrow.block b (Nat.lt_of_lt_of_le hb2 hbf.size) (fun e => by have := (hownf.lt _ e.symm).1; omega)⟩
      have hbh := hbf.trans hbg
      have k7h := k7f.grown hgrow (fun e => by have := hu5 _ e.symm; omega)
      refine hK _ _ ⟨k7h.cell, trivial⟩ ?_
      clear hK K hSx
      try simp only [Act.put, List.setIfInBounds_toArray, List.set_cons_zero, List.set_cons_succ]
      have hSx : (fun w' : World => (∀ j, w'.cell? ⟨g7, j, none⟩ = #[Value.int .i64 x.late.lo, .int .i64 x.late.hi][j]?) ∧ True) w7 := ⟨k7h.cell, trivial⟩
      refine held_take (i := 16) (v := ?_) 5 rfl rfl (by kernel_rfl) (by kernel_rfl) (by kernel_rfl) (fun _ _ _ h => h) (Or.inl ⟨by rfl, ?_⟩) hSx ?_
      rotate_left 1
      · intro w' hSw
        try dsimp only at hSw
        obtain ⟨q1, q2⟩ := hSw
        go_simp
        all_goals with_reducible rfl
      try simp only [Act.put, List.setIfInBounds_toArray, List.set_cons_zero, List.set_cons_succ]
      refine wpAnyH_done (by kernel_rfl) (noPanic_normal ?_) _
      clear hSx
      try simp only [Act.put, List.setIfInBounds_toArray, List.set_cons_zero, List.set_cons_succ]
      go_wp2_with fail
      go_roundw
      case rel => exact ⟨k + 1, by go_num, by omega, by rw [htk.out]; exact hown7, hbh⟩
      case measure => simp [intOf]; omega
    · obtain rfl : k = ng := by omega
      rw [List.take_of_length_le (by rw [lateL_len, hgl.out]; exact Nat.le_refl _)] at hown
      go_wp2_with fail
      go_ret
      exact ⟨_, rfl, ownsRow_base hown b.size, b.trans (hb.mono b.size)⟩
theorem late_any (a : Arr) (ha : okArr a = true) (bits : List Int) (S G O : Option Addr) (ns cs ng cg no co B1 B2 B3 : Nat) (w : World) (hS : SlAt w B1 1 ivs S ns cs a.sh) (hG : SlAt w B2 4 Gun.cells G ng cg a.gs) (ho : SlAt w B3 1 ivs O no co bits) :
    Calls Try.prog 53 #[.agg #[.slice S ns cs, .slice G ng cg], .slice O no co] w fun e w' => ∃ P pc, e = .returned (.slice P ng pc) ∧ SlAt w' w.heap.size 1 ivs P ng pc (lateL a.gs bits) ∧ Below w.heap.size w w' := by
  have hgl := hG.len
  have hng : ng ≤ 8 := by have := okArr_len ha; unfold arrLen at this; rw [hG.len] at this; omega
  refine (late_own a ha bits S G O ns cs ng cg no co B1 B2 B3 w hS hG ho).mono ?_
  rintro e w' ⟨v, rfl, hown, hb⟩
  obtain ⟨P, pc, rfl, hP1⟩ := SlAt.of_own (enc := ivs) hown (by omega) (lateL a.gs bits) (flatMap_ivs _).symm (fun _ => rfl) (by rw [lateL_len]; exact hgl)
  exact ⟨P, pc, rfl, hP1, hb⟩
end Go.Proofs.Ytfengddpfeneiaa
