/-
  Shots, walks: the planned guns; a value for each sample.
-/
import Derived.Test.YtfengddpfeneiaaGreatS2
namespace Go.Proofs.YtfengddpfeneiaaGreat
open Go.RowKit Go.Shelf
set_option linter.unusedSimpArgs false
set_option linter.unusedVariables false

theorem Tryz.infoPln : (Tryz.prog.info? 168).map (fun i => (i.zero, i.size, i.bytes)) = some (some (.agg #[.int .i64 0, .int .i64 0, .int .i64 0, .int .i64 0, .slice none 0 0]), 5, 56) := by kernel_rfl
theorem takeFlat {α β : Type} {xs : List α} {k : Nat} {x : α} (h : xs[k]? = some x) (f : α → List β) : (xs.take (k + 1)).flatMap f = (xs.take k).flatMap f ++ f x := by
  rw [List.take_add_one, h, List.flatMap_append]; simp
theorem ownsNil (w : World) (e : TypeId) (s : Nat) : w.ownsRow w.heap.size e s (.slice none 0 0) 0 [] := ⟨by simp, .inl ⟨rfl, rfl⟩⟩
set_option maxRecDepth 100000 in
set_option maxHeartbeats 1000000 in
theorem guns_any (a : Arr) (S G : Option Addr) (ns cs ng cg B : Nat) (w : World) (hng : ng ≤ 1000) (hG : SlAt w B 4 Gun.cells G ng cg a.gs) :
    Calls Tryz.prog 87 #[.agg #[.slice S ns cs, .slice G ng cg]] w fun e w' => ∃ A c, e = .returned (.slice A ng c) ∧ SlAt w' w.heap.size 5 (plc S ns cs) A ng c a.gs ∧ Below w.heap.size w w' := by
  have hgl := Lib.hid hG.len
  obtain ⟨w1, hw1⟩ : ∃ w1, w1 = w.alloc (.cells #[.slice S ns cs, .slice G ng cg] 83) := ⟨_, rfl⟩
  have k3 : Blk w1 w.heap.size 83 #[.slice S ns cs, .slice G ng cg] := by rw [hw1]; exact Blk.new _ _ _
  have b : Below w.heap.size w w1 := by rw [hw1]; exact (Below.refl _ _).alloc (Nat.le_refl _) _
  have hG0 := Lib.hid hG
  have hown0 : w1.ownsRow w.heap.size 168 5 (.slice none 0 0) 0 [] := ⟨rfl, .inl ⟨rfl, rfl⟩⟩
  clear hG
  go_enter Tryz.func87, Tryz.ntmps87
  go_wp2_with fail
  rw [← hw1]
  clear hw1
  obtain ⟨c3, f3, l3⟩ := k3.rules
  go_wp2_with fail
  clear c3 f3 l3
  go_loopw [3, 9] (fun v i wr => ∃ k : Nat, i = .int .i64 k ∧ k ≤ ng ∧ wr.ownsRow w.heap.size 168 5 v k ((a.gs.take k).flatMap (plc S ns cs)) ∧ (∀ p, v.ownBlock = some p → w.heap.size < p) ∧ Blk wr w.heap.size 83 #[.slice S ns cs, .slice G ng cg] ∧ Below w.heap.size w wr) (fun v i wr => ng - (intOf i).toNat)
  case atStart => exact ⟨0, rfl, Nat.zero_le _, hown0, (fun p h => by cases h), k3, b⟩
  case round =>
    obtain ⟨k, rfl, hk, hown, hvb, k3, hb⟩ := hrel
    by_cases hlt : k < ng
    · obtain ⟨x, hx⟩ := some_of_lt hgl.out hlt
      have hnx := Lib.hid (takeFlat hx (plc S ns cs))
      obtain ⟨bb, off, rfl, -, hbl, d0, d1, d2, d3⟩ := (hG0.out.below hb).gun hx
      replace hx := Lib.hid hx
      have hk0 : (0 : Int) ≤ (k : Int) := by omega
      have hk1 : (k : Int) < (ng : Int) := by omega
      have hbig1 : Hid (k + 1 ≤ maxLen) := by show k + 1 ≤ maxLen; unfold maxLen; omega
      have hbig2 : Hid ((k + 1) * 56 ≤ 140737488355328) := by show (k + 1) * 56 ≤ 140737488355328; omega
      obtain ⟨i0, hi0, hz0, hz1, hz2⟩ := info_parts Tryz.infoPln
      have hl3 := k3.lt
      have k3a := (k3.alloc (.cells #[.int .i64 x.vol, .int .i64 x.time, .int .i64 x.late.lo, .int .i64 x.late.hi] 163)).alloc (.cells #[.int .i64 x.vol, .int .i64 x.time, .int .i64 x.late.lo, .int .i64 x.late.hi, .slice S ns cs] 168)
      have hownf := (hown.alloc (.cells #[.int .i64 x.vol, .int .i64 x.time, .int .i64 x.late.lo, .int .i64 x.late.hi] 163)).alloc (.cells #[.int .i64 x.vol, .int .i64 x.time, .int .i64 x.late.lo, .int .i64 x.late.hi, .slice S ns cs] 168)
      have hbf := (hb.alloc hb.size (.cells #[.int .i64 x.vol, .int .i64 x.time, .int .i64 x.late.lo, .int .i64 x.late.hi] 163)).alloc (by have := hb.size; simp; omega) (.cells #[.int .i64 x.vol, .int .i64 x.time, .int .i64 x.late.lo, .int .i64 x.late.hi, .slice S ns cs] 168)
      have hnews : ∀ (j : Nat) (u : Value), ([.int .i64 x.vol, .int .i64 x.time, .int .i64 x.late.lo, .int .i64 x.late.hi, .slice S ns cs] : List Value)[j]? = some u → ((wr.alloc (.cells #[.int .i64 x.vol, .int .i64 x.time, .int .i64 x.late.lo, .int .i64 x.late.hi] 163)).alloc (.cells #[.int .i64 x.vol, .int .i64 x.time, .int .i64 x.late.lo, .int .i64 x.late.hi, .slice S ns cs] 168)).cell? ((⟨wr.heap.size + 1, 0, none⟩ : Addr).add j) = some u := by
        rw [show wr.heap.size + 1 = (wr.alloc (.cells #[.int .i64 x.vol, .int .i64 x.time, .int .i64 x.late.lo, .int .i64 x.late.hi] 163)).heap.size from by simp]
        exact World.news_of_block (cs := #[.int .i64 x.vol, .int .i64 x.time, .int .i64 x.late.lo, .int .i64 x.late.hi, .slice S ns cs]) (World.alloc_heap_new (wr.alloc (.cells #[.int .i64 x.vol, .int .i64 x.time, .int .i64 x.late.lo, .int .i64 x.late.hi] 163)) _)
      obtain ⟨c3, f3, l3⟩ := k3.rules
      go_wp2_with (at_builtin; refine wpList_append_lies _ rfl (.tmp 13) (.tmp 19) 159 rfl w.heap.size 168 i0 (.agg #[.int .i64 0, .int .i64 0, .int .i64 0, .int .i64 0, .slice none 0 0]) 5 56 Tryz.underlying159 hi0 hz0 hz1 hz2 rfl (by decide) u3 k ((a.gs.take k).flatMap (plc S ns cs)) rfl hownf ⟨wr.heap.size + 1, 0, none⟩ 1 1 [.int .i64 x.vol, .int .i64 x.time, .int .i64 x.late.lo, .int .i64 x.late.hi, .slice S ns cs] rfl rfl hnews (by simp [Value.oneCell']) (by decide) hbig1.out hbig2.out (hbf.size) (wr.heap.size + 1 + 1) (by simp) ?_; intro g cap w7 hown7 hgrow hlies hlt7)
      have hbg : Below w.heap.size _ w7 := ⟨hgrow.os, hgrow.tape, hgrow.output, hgrow.size, fun b hb2 => hgrow.block b (Nat.lt_of_lt_of_le hb2 hbf.size) (fun e => by have := (hownf.lt _ e.symm).1; omega)⟩
      have hbh := hbf.trans hbg
      have k3h := k3a.grown hgrow (fun e => by have := hvb _ e.symm; omega)
      clear c3 f3 l3
      go_roundw
      case rel =>
        refine ⟨k + 1, by go_num, by omega, ?_, ?_, k3h, hbh⟩
        · rw [hnx.out]
          exact hown7
        · intro p hp
          simp only [Value.ownBlock, Option.some.injEq] at hp
          subst hp
          rcases hlies with h | h
          · exact hvb _ h
          · have := k3a.lt; omega
      case measure => simp [intOf]; omega
    · obtain rfl : k = ng := by omega
      have ht : a.gs.take k = a.gs := List.take_of_length_le (by rw [hgl.out]; exact Nat.le_refl _)
      rw [ht] at hown
      obtain ⟨O, co, e1, h1⟩ := SlAt.of_own (enc := plc S ns cs) hown (by omega) a.gs rfl (fun _ => rfl) hgl.out
      go_wp2_with fail
      go_ret
      exact ⟨O, co, congrArg Ending.returned e1, h1, hb⟩
/-- What is handed to sampled: at every sample, in every later world, a value. -/
def FunT (g : Nat) (lb : Array Value) (f : Nat → Value) (n : Nat) (w : World) : Prop :=
  ∀ (W : World) (t : Nat), Below w.heap.size w W → t < n → Calls Tryz.prog g (#[.int .i64 (t : Int)] ++ lb) W fun e w' => e = .returned (f t) ∧ Below W.heap.size W w'
set_option maxRecDepth 100000 in
set_option maxHeartbeats 1000000 in
theorem sampledI_any (f : Nat → Int) (gs : List Gun) (A S : Option Addr) (n c ns cs B g : Nat) (lb : Array Value) (eg : ∀ args w, (callFunc g args).run Tryz.prog w = .ok (.enter g args) w) (w : World)
    (hn0 : 0 < n) (hns : ns ≤ 1000) (hf : FunT g lb (fun t => .int .i64 (f t)) (ns + 48) w) (hs : SlAt w B 5 (plc S ns cs) A n c gs) :
    Calls Tryz.prog 132 #[.slice A n c, .func (.func g) #[] lb] w fun e w' => ∃ O co, e = .returned (.slice O (ns + 48) co) ∧ SlAt w' w.heap.size 1 ivs O (ns + 48) co ((List.range (ns + 48)).map f) ∧ Below w.heap.size w w' := by
  have hl := Lib.hid hs.len
  have hn := hs.le
  obtain ⟨x, hx⟩ := some_of_lt hl.out hn0
  obtain ⟨bb, off, rfl, -, hbl, d0, d1, d2, d3, d4⟩ := hs.pln hx
  rw [Nat.zero_mul, Nat.add_zero] at d4
  clear d0 d1 d2 d3 hx hs
  obtain ⟨i0, hi0, hz0, hz1, hz2⟩ := info_parts Tryz.infoInt
  have hc1 := Lib.hid (show i0.bytes * (ns + 48) ≤ 281474976710656 by rw [hz2]; omega)
  have hc2 := Lib.hid (show ns + 48 ≤ maxLen by unfold maxLen; omega)
  have hn0' : (0 : Int) < (n : Int) := by omega
  go_enter Tryz.func132, Tryz.ntmps132
  go_wp2_with (at_make; refine wpList_make_full _ rfl _ _ 36 rfl w.heap.size 3 i0 (.int .i64 0) 1 Tryz.underlying36 hi0 hz0 hz1 _ _ _ _ (ns + 48) rfl rfl rfl rfl hc1.out hc2.out (Nat.le_refl _) ?_; intro w1 hown hgrow)
  have hL : ((List.range (ns + 48)).map f).length = ns + 48 := by simp
  have hown0 : w1.ownsRow w.heap.size 3 1 (.slice (some ⟨w.heap.size, 0, none⟩) (ns + 48) (ns + 48)) (ns + 48) ((fillTo ((List.range (ns + 48)).map f) 0 0).map (Value.int .i64)) := by
    rw [fillTo_zero, hL, List.map_replicate]
    rw [madeCells_int] at hown
    exact hown
  have hb1 : Below w.heap.size w w1 := (Below.refl _ _).grown hgrow (Nat.le_refl _) (fun k e => by cases e)
  have hL' := Lib.hid hL
  clear hown hgrow hL hz0 hz1 hz2 hi0 d4
  go_loopw [16] (fun i wr => ∃ k : Nat, i = .int .i64 k ∧ k ≤ ns + 48 ∧ wr.ownsRow w.heap.size 3 1 (.slice (some ⟨w.heap.size, 0, none⟩) (ns + 48) (ns + 48)) (ns + 48) ((fillTo ((List.range (ns + 48)).map f) k 0).map (Value.int .i64)) ∧ Below w.heap.size w wr) (fun i wr => ns + 48 - (intOf i).toNat)
  case atStart => exact ⟨0, rfl, Nat.zero_le _, hown0, hb1⟩
  case round =>
    obtain ⟨k, rfl, hk, hown, hb⟩ := hrel
    by_cases hlt : k < ns + 48
    · have hcall := hf wr k hb hlt
      have hget := Lib.hid (mapRange_at f hlt)
      have hlt' : (k : Int) < (ns : Int) + 48 := by omega
      clear hf
      go_wp2_with (go_at_fn g; refine hcall.mono ?_; rintro e w' ⟨rfl, hb'⟩; have hown2 := ownsRow_below hown hb'; obtain ⟨v0, hcc⟩ := own_cell hown2 (j := k) (by omega); have hfr := hown2.frozenAt k)
      have hown3 := (hown2.stored k (.int .i64 (f k))).1
      rw [← List.map_set, fillTo_set hget.out] at hown3
      go_roundw
      case rel => exact ⟨k + 1, by go_num, by omega, hown3, (hb.trans (hb'.mono hb.size)).setCell (p := ⟨w.heap.size, k, none⟩) (Nat.le_refl _) _⟩
      case measure => simp [intOf]; omega
    · obtain rfl : k = ns + 48 := by omega
      go_wp2
      go_ret
      obtain ⟨O, co, e1, h1⟩ := SlAt.of_own (enc := ivs) hown (by omega) ((List.range (ns + 48)).map f) (by rw [flatMap_ivs, fillTo_len 0 hL'.out]) (fun _ => rfl) hL'.out
      exact ⟨O, co, congrArg Ending.returned e1, h1, hb⟩
set_option maxRecDepth 100000 in
set_option maxHeartbeats 1000000 in
theorem sampledB_any (f : Nat → Bnd) (gs : List Gun) (A S : Option Addr) (n c ns cs B g : Nat) (lb : Array Value) (eg : ∀ args w, (callFunc g args).run Tryz.prog w = .ok (.enter g args) w) (w : World)
    (hn0 : 0 < n) (hns : ns ≤ 1000) (hf : FunT g lb (fun t => .agg #[.int .i64 (f t).lo, .int .i64 (f t).hi]) (ns + 48) w) (hs : SlAt w B 5 (plc S ns cs) A n c gs) :
    Calls Tryz.prog 89 #[.slice A n c, .func (.func g) #[] lb] w fun e w' => ∃ O co, e = .returned (.slice O (ns + 48) co) ∧ SlAt w' w.heap.size 2 Bnd.cells O (ns + 48) co ((List.range (ns + 48)).map f) ∧ Below w.heap.size w w' := by
  have hl := Lib.hid hs.len
  have hn := hs.le
  obtain ⟨x, hx⟩ := some_of_lt hl.out hn0
  obtain ⟨bb, off, rfl, -, hbl, d0, d1, d2, d3, d4⟩ := hs.pln hx
  rw [Nat.zero_mul, Nat.add_zero] at d4
  clear d0 d1 d2 d3 hx hs
  obtain ⟨i0, hi0, hz0, hz1, hz2⟩ := info_parts Tryz.infoBnd
  have hc1 := Lib.hid (show i0.bytes * (ns + 48) ≤ 281474976710656 by rw [hz2]; omega)
  have hc2 := Lib.hid (show ns + 48 ≤ maxLen by unfold maxLen; omega)
  have hn0' : (0 : Int) < (n : Int) := by omega
  go_enter Tryz.func89, Tryz.ntmps89
  go_wp2_with (at_make; refine wpList_make_full _ rfl _ _ 29 rfl w.heap.size 40 i0 (.agg #[.int .i64 0, .int .i64 0]) 2 Tryz.underlying29 hi0 hz0 hz1 _ _ _ _ (ns + 48) rfl rfl rfl rfl hc1.out hc2.out (Nat.le_refl _) ?_; intro w1 hown hgrow)
  have hL : ((List.range (ns + 48)).map f).length = ns + 48 := by simp
  have hown0 : w1.ownsRow w.heap.size 40 2 (.slice (some ⟨w.heap.size, 0, none⟩) (ns + 48) (ns + 48)) (ns + 48) ((fillTo ((List.range (ns + 48)).map f) 0 ⟨0, 0⟩).flatMap Bnd.cells) := by
    rw [fillTo_zero, hL]
    rw [madeCells_bnd] at hown
    exact hown
  have hb1 : Below w.heap.size w w1 := (Below.refl _ _).grown hgrow (Nat.le_refl _) (fun k e => by cases e)
  have hL' := Lib.hid hL
  clear hown hgrow hL hz0 hz1 hz2 hi0 d4
  go_loopw [16] (fun i wr => ∃ k : Nat, i = .int .i64 k ∧ k ≤ ns + 48 ∧ wr.ownsRow w.heap.size 40 2 (.slice (some ⟨w.heap.size, 0, none⟩) (ns + 48) (ns + 48)) (ns + 48) ((fillTo ((List.range (ns + 48)).map f) k ⟨0, 0⟩).flatMap Bnd.cells) ∧ Below w.heap.size w wr) (fun i wr => ns + 48 - (intOf i).toNat)
  case atStart => exact ⟨0, rfl, Nat.zero_le _, hown0, hb1⟩
  case round =>
    obtain ⟨k, rfl, hk, hown, hb⟩ := hrel
    by_cases hlt : k < ns + 48
    · have hcall := hf wr k hb hlt
      have hget := Lib.hid (mapRange_at f hlt)
      have hlt' : (k : Int) < (ns : Int) + 48 := by omega
      clear hf
      go_wp2_with (go_at_fn g; refine hcall.mono ?_; rintro e w' ⟨rfl, hb'⟩; have hown2 := ownsRow_below hown hb'; obtain ⟨v0, d0⟩ := own_cell hown2 (j := k * 2) (by omega); obtain ⟨v1, d1⟩ := own_cell hown2 (j := k * 2 + 1) (by omega); have e0 := hown2.frozenAt (k * 2); have e1 := hown2.frozenAt (k * 2 + 1))
      have hown3 := ((hown2.stored (k * 2) (.int .i64 (f k).lo)).1.stored (k * 2 + 1) (.int .i64 (f k).hi)).1
      rw [flatMap_set2, fillTo_set hget.out] at hown3
      go_roundw
      case rel => exact ⟨k + 1, by go_num, by omega, hown3, ((hb.trans (hb'.mono hb.size)).setCell (p := ⟨w.heap.size, k * 2, none⟩) (Nat.le_refl _) _).setCell (p := ⟨w.heap.size, k * 2 + 1, none⟩) (Nat.le_refl _) _⟩
      case measure => simp [intOf]; omega
    · obtain rfl : k = ns + 48 := by omega
      go_wp2
      go_ret
      rw [fillTo_len _ hL'.out] at hown
      obtain ⟨O, co, e1, h1⟩ := SlAt.of_own (enc := Bnd.cells) hown (by omega) ((List.range (ns + 48)).map f) rfl (fun _ => rfl) hL'.out
      exact ⟨O, co, congrArg Ending.returned e1, h1, hb⟩
end Go.Proofs.YtfengddpfeneiaaGreat
