/-
  Own texts for one claim, joined: H1 M1 M3 H2 M4 M7 G9.
-/
import Derived.Deep.AppendLies
import Derived.Deep.QuietTactic
import Derived.BigQuiet
import Derived.Deep.RegionHeld3
import Derived.StillTailTactics
import Derived.Shelf.Abstract
import Derived.Test.YtjiaepphnddpoaaGreatChecked
import Derived.Shelf.Abstract
import Derived.Deep.QuietTactic
import Derived.BigQuiet
import Derived.Deep.RegionHeld3
import Derived.StillTailTactics
import Derived.Deep.AppendLies
import Derived.WalkMore
import Derived.WalkKit
import Derived.WalkSpells
import Derived.WalkLawsBesides
import Derived.Lib.Hide
import Derived.OrdersHeld
import Derived.StillTail
import Derived.StillTailTactics
import Derived.RangeFuncNested
import Derived.RangeFuncBound
import Derived.RangeFuncCalls
import Derived.RangeFuncLeaves
import Derived.Shelf.Abstract
import Derived.Shelf.RegionOpen
import Derived.OwnWalkIn
import Derived.TacticsInMore
import Derived.LoopNIn
import Derived.LoopIn
import Derived.OrdersIn
import Derived.Deep.Quiet
import Derived.Deep.QuietTactic
import Derived.BigQuiet
import Derived.Deep.QuietTactic
import Derived.LoopN
import Derived.Deep.RegionWith
import Derived.BigQuiet
import Derived.Maps.Own
import Derived.Maps.Views
import Derived.WideKeyPair
import Derived.Carry
import Derived.BigRegionIn
import Derived.ChangeKeysEq
import Derived.Test.YtjiaepphnddpoaaGreatV01
import Derived.Test.YtjiaepphnddpoaaGreatV02
import Derived.Test.YtjiaepphnddpoaaGreatV03
import Derived.Test.YtjiaepphnddpoaaGreatV04
import Derived.Test.YtjiaepphnddpoaaGreatV05
import Derived.Test.YtjiaepphnddpoaaGreatV06
import Derived.Test.YtjiaepphnddpoaaGreatV07
import Derived.Test.YtjiaepphnddpoaaGreatV08
import Derived.Test.YtjiaepphnddpoaaGreatV09
namespace Go.Proofs.YtjiaepphnddpoaaGreat
open Go.RowKit Go.Shelf
set_option linter.unusedSimpArgs false
set_option linter.unusedVariables false
def insB (bits : List Int) (fr : Int) (i : Nat) (b : Bnd) : Int := wrap64 (b.lo + restS (pickS bits (fr + i)) (wrap64 (wrap64 (b.hi - b.lo) + 1)))
def insTo (l : List Bnd) (bits : List Int) (fr : Int) (k : Nat) : List Int := (List.range k).map fun i => insB bits fr i (l.getD i ⟨0, 0⟩)
def insL (l : List Bnd) (bits : List Int) (fr : Int) : List Int := insTo l bits fr l.length
theorem insTo_succ {l : List Bnd} {bits : List Int} {fr : Int} {k : Nat} {x : Bnd} (h : l[k]? = some x) : insTo l bits fr (k + 1) = insTo l bits fr k ++ [insB bits fr k x] := by
  unfold insTo; rw [List.range_succ, List.map_append, List.map_singleton, List.getD_eq_getElem?_getD, h]; rfl
set_option maxRecDepth 100000 in
set_option maxHeartbeats 1000000 in
theorem inside_any (l : List Bnd) (bits : List Int) (fr : Int) (A O : Option Addr) (n c no co B B2 : Nat) (w : World) (hf1 : -1000000 ≤ fr) (hf2 : fr ≤ 1000000) (hs : SlAt w B 2 Bnd.cells A n c l) (ho : SlAt w B2 1 ivs O no co bits) :
    Calls Tryz.prog 36 #[.slice A n c, .slice O no co, .int .i64 fr] w fun e w' => ∃ P pc, e = .returned (.slice P n pc) ∧ SlAt w' w.heap.size 1 ivs P n pc (insL l bits fr) ∧ Below w.heap.size w w' := by
  have hl := Lib.hid hs.len
  have hn := hs.le
  go_enter Tryz.func36, Tryz.ntmps36
  go_wp2_with fail
  go_loopw [7, 8] (fun v i wr => ∃ k : Nat, i = .int .i64 k ∧ k ≤ n ∧ wr.ownsRow w.heap.size 3 1 v k ((insTo l bits fr k).map (.int .i64 ·)) ∧ Below w.heap.size w wr) (fun v i wr => n - (intOf i).toNat)
  case atStart => exact ⟨0, rfl, Nat.zero_le _, ⟨rfl, .inl ⟨rfl, rfl⟩⟩, Below.refl _ _⟩
  case round =>
    obtain ⟨k, rfl, hk, hown, hb⟩ := hrel
    by_cases hlt : k < n
    · obtain ⟨x, hx⟩ := some_of_lt hl.out hlt
      have hnx : Hid ((insTo l bits fr (k + 1)).map (.int .i64 ·) = (insTo l bits fr k).map (Value.int .i64 ·) ++ [.int .i64 (insB bits fr k x)]) := by show _ = _; rw [insTo_succ hx, List.map_append]; rfl
      have hP := fun q => Pick_any bits q O no co B2 wr.drew (ho.keep hb.size (fun _ _ h => hb.cell h)).drew
      have hR := fun a => Rest_any a (wrap64 (wrap64 (x.hi - x.lo) + 1)) wr.drew (wrap64_le _)
      obtain ⟨b, off, rfl, -, hbl, d0, d1⟩ := hs.bnd hx
      have c0 := (hb.cell (p := ⟨b, off + k * 2, none⟩) (by dsimp only; omega)).trans d0
      have c1 := (hb.cell (p := ⟨b, off + k * 2 + 1, none⟩) (by dsimp only; omega)).trans d1
      replace d0 := Lib.hid d0
      replace d1 := Lib.hid d1
      replace hx := Lib.hid hx
      have hk0 : (0 : Int) ≤ (k : Int) := by omega
      have hk1 : (k : Int) < (n : Int) := by omega
      have t1 := IntWalk.i64_in (fr + (k : Int)) (by omega)
      have hw := IntWalk.i64_left
      go_wp2_with fail
      refine wp_held_np (fun w' : World => w'.cell? ⟨b, off + k * 2, none⟩ = some (.int .i64 x.lo) ∧ w'.cell? ⟨b, off + k * 2 + 1, none⟩ = some (.int .i64 x.hi)) (by kernel_rfl) ?_
      replace hb := hb.drew
      replace hown : wr.drew.ownsRow _ _ _ _ _ _ := hown
      have hS : (fun w' : World => w'.cell? ⟨b, off + k * 2, none⟩ = some (.int .i64 x.lo) ∧ w'.cell? ⟨b, off + k * 2 + 1, none⟩ = some (.int .i64 x.hi)) wr.drew := ⟨c0, c1⟩
      generalize wr.drew = W at *
      refine held_take (i := 0) (v := ?_) 15 rfl rfl (by kernel_rfl) (by kernel_rfl) (by kernel_rfl) (fun _ _ _ h => h) (Or.inl ⟨by rfl, ?_⟩) hS ?_
      rotate_left 1
      · intro w' hSw
        try dsimp only at hSw
        obtain ⟨q1, q2⟩ := hSw
        go_simp
        all_goals with_reducible rfl
      try simp only [Act.put, List.setIfInBounds_toArray, List.set_cons_zero, List.set_cons_succ]
      refine held_take (i := 1) (v := ?_) 16 rfl rfl (by kernel_rfl) (by kernel_rfl) (by kernel_rfl) (fun _ _ _ h => h) (Or.inl ⟨by rfl, ?_⟩) hS ?_
      rotate_left 1
      · intro w' hSw
        try dsimp only at hSw
        obtain ⟨q1, q2⟩ := hSw
        go_simp
        all_goals with_reducible rfl
      try simp only [Act.put, List.setIfInBounds_toArray, List.set_cons_zero, List.set_cons_succ]
      refine held_take (i := 2) (v := ?_) 17 rfl rfl (by kernel_rfl) (by kernel_rfl) (by kernel_rfl) (fun _ _ _ h => h) (Or.inl ⟨by rfl, ?_⟩) hS ?_
      rotate_left 1
      · intro w' hSw
        try dsimp only at hSw
        obtain ⟨q1, q2⟩ := hSw
        go_simp
        all_goals with_reducible rfl
      try simp only [Act.put, List.setIfInBounds_toArray, List.set_cons_zero, List.set_cons_succ]
      refine held_take (i := 3) (v := ?_) 18 rfl rfl (by kernel_rfl) (by kernel_rfl) (by kernel_rfl) (fun _ _ _ h => h) (Or.inl ⟨by rfl, ?_⟩) hS ?_
      rotate_left 1
      · intro w' hSw
        try dsimp only at hSw
        obtain ⟨q1, q2⟩ := hSw
        go_simp
        all_goals with_reducible rfl
      try simp only [Act.put, List.setIfInBounds_toArray, List.set_cons_zero, List.set_cons_succ]
      refine held_take (i := 4) (v := ?_) 19 rfl rfl (by kernel_rfl) (by kernel_rfl) (by kernel_rfl) (fun _ _ _ h => h) (Or.inl ⟨by rfl, ?_⟩) hS ?_
      rotate_left 1
      · intro w' hSw
        try dsimp only at hSw
        obtain ⟨q1, q2⟩ := hSw
        go_simp
        all_goals with_reducible rfl
      try simp only [Act.put, List.setIfInBounds_toArray, List.set_cons_zero, List.set_cons_succ]
      refine held_take (i := 5) (v := ?_) 20 rfl rfl (by kernel_rfl) (by kernel_rfl) (by kernel_rfl) (fun _ _ _ h => h) (Or.inl ⟨by rfl, ?_⟩) hS ?_
      rotate_left 1
      · intro w' hSw
        try dsimp only at hSw
        obtain ⟨q1, q2⟩ := hSw
        go_simp
        all_goals with_reducible rfl
      try simp only [Act.put, List.setIfInBounds_toArray, List.set_cons_zero, List.set_cons_succ]
      refine held_take (i := 6) (v := ?_) 21 rfl rfl (by kernel_rfl) (by kernel_rfl) (by kernel_rfl) (fun _ _ _ h => h) (Or.inl ⟨by rfl, ?_⟩) hS ?_
      rotate_left 1
      · intro w' hSw
        try dsimp only at hSw
        obtain ⟨q1, q2⟩ := hSw
        go_simp
        all_goals with_reducible rfl
      try simp only [Act.put, List.setIfInBounds_toArray, List.set_cons_zero, List.set_cons_succ]
      refine held_take (i := 7) (v := ?_) 22 rfl rfl (by kernel_rfl) (by kernel_rfl) (by kernel_rfl) (fun _ _ _ h => h) (Or.inl ⟨by rfl, ?_⟩) hS ?_
      rotate_left 1
      · intro w' hSw
        try dsimp only at hSw
        obtain ⟨q1, q2⟩ := hSw
        go_simp
        all_goals with_reducible rfl
      try simp only [Act.put, List.setIfInBounds_toArray, List.set_cons_zero, List.set_cons_succ]
      refine held_take (i := 8) (v := ?_) 23 rfl rfl (by kernel_rfl) (by kernel_rfl) (by kernel_rfl) (fun _ _ _ h => h) (Or.inl ⟨by rfl, ?_⟩) hS ?_
      rotate_left 1
      · intro w' hSw
        try dsimp only at hSw
        obtain ⟨q1, q2⟩ := hSw
        go_simp
        all_goals with_reducible rfl
      try simp only [Act.put, List.setIfInBounds_toArray, List.set_cons_zero, List.set_cons_succ]
      refine held_take (i := 9) (v := ?_) 24 rfl rfl (by kernel_rfl) (by kernel_rfl) (by kernel_rfl) (fun _ _ _ h => h) (Or.inl ⟨by rfl, ?_⟩) hS ?_
      rotate_left 1
      · intro w' hSw
        try dsimp only at hSw
        obtain ⟨q1, q2⟩ := hSw
        go_simp
        all_goals with_reducible rfl
      try simp only [Act.put, List.setIfInBounds_toArray, List.set_cons_zero, List.set_cons_succ]
      refine held_take (i := 11) (v := ?_) 26 rfl rfl (by kernel_rfl) (by kernel_rfl) (by kernel_rfl) (fun _ _ _ h => h) (Or.inl ⟨by rfl, ?_⟩) hS ?_
      rotate_left 1
      · intro w' hSw
        try dsimp only at hSw
        obtain ⟨q1, q2⟩ := hSw
        go_simp
        all_goals with_reducible rfl
      try simp only [Act.put, List.setIfInBounds_toArray, List.set_cons_zero, List.set_cons_succ]
      refine held_take (i := 12) (v := ?_) 27 rfl rfl (by kernel_rfl) (by kernel_rfl) (by kernel_rfl) (fun _ _ _ h => h) (Or.inl ⟨by rfl, ?_⟩) hS ?_
      rotate_left 1
      · intro w' hSw
        try dsimp only at hSw
        obtain ⟨q1, q2⟩ := hSw
        go_simp
        all_goals with_reducible rfl
      try simp only [Act.put, List.setIfInBounds_toArray, List.set_cons_zero, List.set_cons_succ]
      refine held_take (i := 13) (v := ?_) 28 rfl rfl (by kernel_rfl) (by kernel_rfl) (by kernel_rfl) (fun _ _ _ h => h) (Or.inl ⟨by rfl, ?_⟩) hS ?_
      rotate_left 1
      · intro w' hSw
        try dsimp only at hSw
        obtain ⟨q1, q2⟩ := hSw
        go_simp
        all_goals with_reducible rfl
      try simp only [Act.put, List.setIfInBounds_toArray, List.set_cons_zero, List.set_cons_succ]
      refine held_take (i := 14) (v := ?_) 29 rfl rfl (by kernel_rfl) (by kernel_rfl) (by kernel_rfl) (fun _ _ _ h => h) (Or.inl ⟨by rfl, ?_⟩) hS ?_
      rotate_left 1
      · intro w' hSw
        try dsimp only at hSw
        obtain ⟨q1, q2⟩ := hSw
        go_simp
        all_goals with_reducible rfl
      try simp only [Act.put, List.setIfInBounds_toArray, List.set_cons_zero, List.set_cons_succ]
      refine held_take (i := 15) (v := ?_) 30 rfl rfl (by kernel_rfl) (by kernel_rfl) (by kernel_rfl) (fun _ _ _ h => h) (Or.inl ⟨by rfl, ?_⟩) hS ?_
      rotate_left 1
      · intro w' hSw
        try dsimp only at hSw
        obtain ⟨q1, q2⟩ := hSw
        go_simp
        all_goals with_reducible rfl
      try simp only [Act.put, List.setIfInBounds_toArray, List.set_cons_zero, List.set_cons_succ]
      refine held_take (i := 16) (v := ?_) 31 rfl rfl (by kernel_rfl) (by kernel_rfl) (by kernel_rfl) (fun _ _ _ h => h) (Or.inl ⟨by rfl, ?_⟩) hS ?_
      rotate_left 1
      · intro w' hSw
        try dsimp only at hSw
        obtain ⟨q1, q2⟩ := hSw
        go_simp
        all_goals with_reducible rfl
      try simp only [Act.put, List.setIfInBounds_toArray, List.set_cons_zero, List.set_cons_succ]
      refine held_take (i := 17) (v := ?_) 32 rfl rfl (by kernel_rfl) (by kernel_rfl) (by kernel_rfl) (fun _ _ _ h => h) (Or.inl ⟨by rfl, ?_⟩) hS ?_
      rotate_left 1
      · intro w' hSw
        try dsimp only at hSw
        obtain ⟨q1, q2⟩ := hSw
        go_simp
        all_goals with_reducible rfl
      try simp only [Act.put, List.setIfInBounds_toArray, List.set_cons_zero, List.set_cons_succ]
      refine held_take (i := 18) (v := ?_) 33 rfl rfl (by kernel_rfl) (by kernel_rfl) (by kernel_rfl) (fun _ _ _ h => h) (Or.inl ⟨by rfl, ?_⟩) hS ?_
      rotate_left 1
      · intro w' hSw
        try dsimp only at hSw
        obtain ⟨q1, q2⟩ := hSw
        go_simp
        all_goals with_reducible rfl
      try simp only [Act.put, List.setIfInBounds_toArray, List.set_cons_zero, List.set_cons_succ]
      refine held_take (i := 19) (v := ?_) 34 rfl rfl (by kernel_rfl) (by kernel_rfl) (by kernel_rfl) (fun _ _ _ h => h) (Or.inl ⟨by rfl, ?_⟩) hS ?_
      rotate_left 1
      · intro w' hSw
        try dsimp only at hSw
        obtain ⟨q1, q2⟩ := hSw
        go_simp
        all_goals with_reducible rfl
      try simp only [Act.put, List.setIfInBounds_toArray, List.set_cons_zero, List.set_cons_succ]
      refine held_take (i := 20) (v := ?_) 35 rfl rfl (by kernel_rfl) (by kernel_rfl) (by kernel_rfl) (fun _ _ _ h => h) (Or.inl ⟨by rfl, ?_⟩) hS ?_
      rotate_left 1
      · intro w' hSw
        try dsimp only at hSw
        obtain ⟨q1, q2⟩ := hSw
        go_simp
        all_goals with_reducible rfl
      try simp only [Act.put, List.setIfInBounds_toArray, List.set_cons_zero, List.set_cons_succ]
      refine held_take (i := 21) (v := ?_) 36 rfl rfl (by kernel_rfl) (by kernel_rfl) (by kernel_rfl) (fun _ _ _ h => h) (Or.inl ⟨by rfl, ?_⟩) hS ?_
      rotate_left 1
      · intro w' hSw
        try dsimp only at hSw
        obtain ⟨q1, q2⟩ := hSw
        go_simp
        all_goals with_reducible rfl
      try simp only [Act.put, List.setIfInBounds_toArray, List.set_cons_zero, List.set_cons_succ]
      refine held_take (i := 22) (v := ?_) 37 rfl rfl (by kernel_rfl) (by kernel_rfl) (by kernel_rfl) (fun _ _ _ h => h) (Or.inl ⟨by rfl, ?_⟩) hS ?_
      rotate_left 1
      · intro w' hSw
        try dsimp only at hSw
        obtain ⟨q1, q2⟩ := hSw
        go_simp
        all_goals with_reducible rfl
      try simp only [Act.put, List.setIfInBounds_toArray, List.set_cons_zero, List.set_cons_succ]
      refine held_one (i := 10) (by kernel_rfl) rfl rfl (fun K hK => ?_)
      go_simp
      refine (hP _).mono ?_
      rintro e w' ⟨rfl, rfl⟩
      refine hK _ _ hS ?_
      clear hK K hP
      try simp only [Act.put, List.setIfInBounds_toArray, List.set_cons_zero, List.set_cons_succ]
      refine held_one (i := 23) (by kernel_rfl) rfl rfl (fun K hK => ?_)
      go_simp
      refine (hR _).mono ?_
      rintro e w' ⟨rfl, rfl⟩
      refine hK _ _ hS ?_
      clear hK K hR
      try simp only [Act.put, List.setIfInBounds_toArray, List.set_cons_zero, List.set_cons_succ]
      refine held_take (i := 24) (v := ?_) 39 rfl rfl (by kernel_rfl) (by kernel_rfl) (by kernel_rfl) (fun _ _ _ h => h) (Or.inl ⟨by rfl, ?_⟩) hS ?_
      rotate_left 1
      · intro w' hSw
        try dsimp only at hSw
        obtain ⟨q1, q2⟩ := hSw
        go_simp
        all_goals with_reducible rfl
      try simp only [Act.put, List.setIfInBounds_toArray, List.set_cons_zero, List.set_cons_succ]
      clear t1
      have hX : wrap64 (x.lo + restS (pickS bits (fr + k)) (wrap64 (wrap64 (x.hi - x.lo) + 1))) = insB bits fr k x := rfl
      rw [hX]
      clear hX hw
      generalize insB bits fr k x = X at *
      have hbig1 : Hid (k + 1 ≤ maxLen) := by show k + 1 ≤ maxLen; unfold maxLen; omega
      have hbig2 : Hid ((k + 1) * 8 ≤ 140737488355328) := by show (k + 1) * 8 ≤ 140737488355328; omega
      obtain ⟨i0, hi0, hz0, hz1, hz2⟩ := info_parts Tryz.infoInt
      have hnews : ∀ (j : Nat) (u : Value), ([.int .i64 (X)] : List Value)[j]? = some u → (W.alloc (.cells #[.int .i64 (X)] 3)).cell? ((⟨W.heap.size, 0, none⟩ : Addr).add j) = some u :=
        World.news_of_block (cs := #[.int .i64 (X)]) (World.alloc_heap_new W _)
      have hownf := hown.alloc (.cells #[.int .i64 (X)] 3)
      have hbf := hb.alloc hb.size (.cells #[.int .i64 (X)] 3)
      refine held_one (i := 25) (by kernel_rfl) rfl rfl (fun K hK => ?_)
      go_simp
      refine hK _ _ ⟨(World.cell?_alloc_lt _ _ _ (World.block_lt_of_cell? _ _ hS.1)).trans hS.1, (World.cell?_alloc_lt _ _ _ (World.block_lt_of_cell? _ _ hS.2)).trans hS.2⟩ ?_
      clear hK K
      try simp only [Act.put, List.setIfInBounds_toArray, List.set_cons_zero, List.set_cons_succ]
      refine held_one (i := 26) (by kernel_rfl) rfl rfl (fun K hK => ?_)
      refine wp_append_lies _ _ _ 31 (by rfl) w.heap.size 3 i0 (.int .i64 0) 1 8 Tryz.underlying31 hi0 hz0 hz1 hz2 rfl (by omega) u7 k ((insTo l bits fr k).map (.int .i64 ·)) (by rfl) hownf ⟨W.heap.size, 0, none⟩ 1 1 [.int .i64 (X)] (by rfl) rfl hnews (by simp [Value.oneCell']) (by omega) hbig1.out hbig2.out (hbf.size) (W.heap.size + 1) (by simp) ?_
      intro g cap w7 hown7 hgrow hlies hlt7
      have hbg : Below w.heap.size _ w7 := ⟨hgrow.os, hgrow.tape, hgrow.output, hgrow.size, fun b hb2 => hgrow.block b (Nat.lt_of_lt_of_le hb2 hbf.size) (fun e => by have := (hownf.lt _ e.symm).1; omega)⟩
      have hbh := hbf.trans hbg
      replace hS : (fun w' : World => w'.cell? ⟨b, off + k * 2, none⟩ = some (.int .i64 x.lo) ∧ w'.cell? ⟨b, off + k * 2 + 1, none⟩ = some (.int .i64 x.hi)) w7 := ⟨(hbh.cell (p := ⟨b, off + k * 2, none⟩) (by dsimp only; omega)).trans d0.out, (hbh.cell (p := ⟨b, off + k * 2 + 1, none⟩) (by dsimp only; omega)).trans d1.out⟩
      refine hK _ _ hS ?_
      clear hK K
      try simp only [Act.put, List.setIfInBounds_toArray, List.set_cons_zero, List.set_cons_succ]
      refine held_take (i := 27) (v := ?_) 7 rfl rfl (by kernel_rfl) (by kernel_rfl) (by kernel_rfl) (fun _ _ _ h => h) (Or.inl ⟨by rfl, ?_⟩) hS ?_
      rotate_left 1
      · intro w' hSw
        try dsimp only at hSw
        obtain ⟨q1, q2⟩ := hSw
        go_simp
        all_goals with_reducible rfl
      try simp only [Act.put, List.setIfInBounds_toArray, List.set_cons_zero, List.set_cons_succ]
      refine wpAnyH_done (by kernel_rfl) (noPanic_normal ?_) _
      clear hS
      go_wp2
      go_roundw
      case rel =>
        refine ⟨k + 1, by go_num, by omega, ?_, hbh⟩
        rw [hnx.out]
        simpa using hown7
      case measure => simp [intOf]; omega
    · obtain rfl : k = n := by omega
      go_wp2
      go_ret
      have hlen : (insTo l bits fr k).length = k := by simp [insTo]
      obtain ⟨P, pc, e2, h2⟩ := SlAt.of_own (enc := ivs) hown (by omega) (insTo l bits fr k) (flatMap_ivs _).symm (fun _ => rfl) hlen
      have hst2 : insTo l bits fr k = insL l bits fr := by unfold insL; rw [hl.out]
      rw [hst2] at h2
      exact ⟨P, pc, by rw [e2]; rfl, h2, hb⟩
end Go.Proofs.YtjiaepphnddpoaaGreat
namespace Go.Proofs.YtjiaepphnddpoaaGreat
open Go.RowKit Go.Shelf
def inB (x : Int) (b : Bnd) : Prop := b.lo ≤ x ∧ x ≤ b.hi
def Lies (xs : List Int) (bs : List Bnd) : Prop := xs.length = bs.length ∧ ∀ (i : Nat) (x : Int) (b : Bnd), xs[i]? = some x → bs[i]? = some b → inB x b
def LeL (xs ys : List Int) : Prop := xs.length = ys.length ∧ ∀ (i : Nat) (x y : Int), xs[i]? = some x → ys[i]? = some y → x ≤ y
theorem stepL_length (s : Strm) (o d : List Int) : (stepL s o d).length = o.length := eachL_length _ _ _
theorem encL_length (s : Strm) (bs : List Bnd) (d : Bnd) : (encL s bs d).length = bs.length := eachL_length _ _ _
theorem stepL_at (s : Strm) (o d : List Int) {i : Nat} (h : i < o.length) : (stepL s o d)[i]? = some (eased s (s.sec i) (o.getD i s.head) (prev s.head o i) (d.getD i 0)) := eachL_get _ _ _ h
theorem encL_at (s : Strm) (bs : List Bnd) (d : Bnd) {i : Nat} (h : i < bs.length) : (encL s bs d)[i]? = some (encB s d i (bs.getD i (still s.head)) (prev (still s.head) bs i)) := eachL_get _ _ _ h
theorem lt_of_at {α : Type} {l : List α} {i : Nat} {x : α} (h : l[i]? = some x) : i < l.length := (List.getElem?_eq_some_iff.1 h).1
theorem getD_of {α : Type} {l : List α} {i : Nat} {x : α} (d : α) (h : l[i]? = some x) : l.getD i d = x := by rw [List.getD_eq_getElem?_getD, h]; rfl
theorem Lies.getD {xs : List Int} {bs : List Bnd} (h : Lies xs bs) {i : Nat} (hi : i < bs.length) (n : Int) (b : Bnd) : (bs.getD i b).lo ≤ xs.getD i n ∧ xs.getD i n ≤ (bs.getD i b).hi :=
  h.2 i _ _ (getD_get n (by have := h.1; omega)) (getD_get b hi)
theorem LeL.getD {xs ys : List Int} (h : LeL xs ys) {i : Nat} (n : Int) : xs.getD i n ≤ ys.getD i n := by
  by_cases hi : i < xs.length
  · exact h.2 i _ _ (getD_get n hi) (getD_get n (by have := h.1; omega))
  · rw [List.getD_eq_getElem?_getD, List.getD_eq_getElem?_getD, List.getElem?_eq_none (by omega), List.getElem?_eq_none (by have := h.1; omega)]; exact Int.le_refl _
theorem Lies.prev {xs : List Int} {bs : List Bnd} (h : Lies xs bs) {i : Nat} (hi : i < bs.length) (n : Int) : (prev (still n) bs i).lo ≤ prev n xs i ∧ prev n xs i ≤ (prev (still n) bs i).hi := by
  cases i with
  | zero => exact ⟨Int.le_refl _, Int.le_refl _⟩
  | succ k => exact h.getD (by omega) n (still n)
theorem LeL.prev {xs ys : List Int} (h : LeL xs ys) (n : Int) (i : Nat) : prev n xs i ≤ prev n ys i := by
  cases i with
  | zero => exact Int.le_refl _
  | succ k => exact h.getD n
theorem Lies.step {s : Strm} {o dr : List Int} {bs : List Bnd} {d : Bnd} (hs : okStrm s = true) (hl : bs.length = s.secs.length) (h : Lies o bs) (hd : ∀ i, i < bs.length → inB (dr.getD i 0) d) : Lies (stepL s o dr) (encL s bs d) := by
  refine ⟨by rw [stepL_length, encL_length]; exact h.1, fun i x b hx hb => ?_⟩
  have hi : i < bs.length := by have := lt_of_at hb; rwa [encL_length] at this
  rw [stepL_at s o dr (by have := h.1; omega)] at hx
  rw [encL_at s bs d hi] at hb
  cases hx
  cases hb
  have a := h.getD hi s.head (still s.head)
  have p := h.prev hi s.head
  have q := hd i hi
  exact ⟨eased_mono (ok_head hs) (ok_sec hs (by omega)) a.1 p.1 q.1, eased_mono (ok_head hs) (ok_sec hs (by omega)) a.2 p.2 q.2⟩
theorem LeL.step {s : Strm} {o p d e : List Int} (hs : okStrm s = true) (hl : o.length = s.secs.length) (h1 : LeL o p) (h2 : LeL d e) : LeL (stepL s o d) (stepL s p e) := by
  refine ⟨by rw [stepL_length, stepL_length]; exact h1.1, fun i x y hx hy => ?_⟩
  have hi : i < o.length := by have := lt_of_at hx; rwa [stepL_length] at this
  rw [stepL_at s o d hi] at hx
  rw [stepL_at s p e (by have := h1.1; omega)] at hy
  cases hx
  cases hy
  exact eased_mono (ok_head hs) (ok_sec hs (by omega)) (h1.getD _) (h1.prev _ _) (h2.getD _)
theorem bend_in {x p : Int} {own bef : Bnd} (h1 : inB x own) (h2 : inB p bef) : inB (magS (x - p)) (bendB own bef) := by
  unfold inB magS bendB at *; dsimp only; omega
theorem bendL_at (s : Strm) (bs : List Bnd) {i : Nat} (h : i < bs.length) : (bendL s bs)[i]? = some (bendB (bs.getD i (still s.head)) (prev (still s.head) bs i)) := eachL_get _ _ _ h
def bendAt (s : Strm) (o : List Int) (i : Nat) : Int := magS (o.getD i s.head - prev s.head o i)
theorem Lies.bend {s : Strm} {o : List Int} {bs : List Bnd} (h : Lies o bs) {i : Nat} (hi : i < bs.length) : inB (bendAt s o i) ((bendL s bs).getD i ⟨0, 0⟩) := by
  rw [getD_of _ (bendL_at s bs hi)]
  exact bend_in (h.getD hi _ _) (h.prev hi _)
theorem sq_mono {a b : Int} (h0 : 0 ≤ a) (h : a ≤ b) : a * a ≤ b * b := Int.mul_le_mul h h h0 (by omega)
theorem fstN_hit {p : Nat → Bool} {t : Nat} (hp : p t = true) : ∀ n, t < n → 0 ≤ fstN p n ∧ fstN p n ≤ t
  | 0, h => absurd h (Nat.not_lt_zero _)
  | n + 1, h => by
    rw [fstN_step]
    by_cases ht : t < n
    · have := fstN_hit hp n ht
      rw [if_pos this.1]; exact this
    · obtain rfl : t = n := by omega
      have := fstN_bd p t
      split
      · omega
      · omega
theorem fstN_none {p : Nat → Bool} : ∀ n, fstN p n = -1 ↔ ∀ t, t < n → p t = false
  | 0 => by simp [fstN]
  | n + 1 => by
    have ih := fstN_none (p := p) n
    constructor
    · intro h t ht
      cases hp : p t with
      | false => rfl
      | true => have := fstN_hit hp (n + 1) ht; omega
    · intro h
      have e := ih.2 fun t ht => h t (by omega)
      rw [fstN_step, e, if_neg (by omega), if_neg (by simp [h n (by omega)])]
def NarB (a b : Bnd) : Prop := b.lo ≤ a.lo ∧ a.hi ≤ b.hi
def NarL (xs ys : List Bnd) : Prop := xs.length = ys.length ∧ ∀ (i : Nat) (x y : Bnd), xs[i]? = some x → ys[i]? = some y → NarB x y
theorem NarB.refl (b : Bnd) : NarB b b := ⟨Int.le_refl _, Int.le_refl _⟩
theorem NarL.getD {xs ys : List Bnd} (h : NarL xs ys) {i : Nat} (n : Bnd) : NarB (xs.getD i n) (ys.getD i n) := by
  by_cases hi : i < xs.length
  · exact h.2 i _ _ (getD_get n hi) (getD_get n (by have := h.1; omega))
  · rw [List.getD_eq_getElem?_getD, List.getD_eq_getElem?_getD, List.getElem?_eq_none (by omega), List.getElem?_eq_none (by have := h.1; omega)]; exact NarB.refl _
theorem NarL.prev {xs ys : List Bnd} (h : NarL xs ys) (n : Bnd) (i : Nat) : NarB (prev n xs i) (prev n ys i) := by
  cases i with
  | zero => exact NarB.refl _
  | succ k => exact h.getD n
theorem NarL.enc {s : Strm} {bs cs : List Bnd} {d e : Bnd} (hs : okStrm s = true) (hl : bs.length = s.secs.length) (h : NarL bs cs) (hd : NarB d e) : NarL (encL s bs d) (encL s cs e) := by
  refine ⟨by rw [encL_length, encL_length]; exact h.1, fun i x y hx hy => ?_⟩
  have hi : i < bs.length := by have := lt_of_at hx; rwa [encL_length] at this
  rw [encL_at s bs d hi] at hx
  rw [encL_at s cs e (by have := h.1; omega)] at hy
  cases hx
  cases hy
  have a := h.getD (i := i) (still s.head)
  have p := h.prev (still s.head) i
  exact ⟨eased_mono (ok_head hs) (ok_sec hs (by omega)) a.1 p.1 hd.1, eased_mono (ok_head hs) (ok_sec hs (by omega)) a.2 p.2 hd.2⟩
def NarW (l m : List Wat) : Prop := ∀ i, NarB (l.getD i wat0).acr (m.getD i wat0).acr ∧ (m.getD i wat0).alo.lo ≤ (l.getD i wat0).alo.lo
theorem NarL.encAt {s : Strm} {bs cs : List Bnd} {l m : List Wat} (hs : okStrm s = true) (hl : bs.length = s.secs.length) (h : NarL bs cs) (hw : NarW l m) : ∀ k, NarL (encAt s bs l k) (encAt s cs m k)
  | 0 => h
  | k + 1 => NarL.enc hs (by rw [encAt_len rfl]; exact hl) (NarL.encAt hs hl h hw k) (hw k).1
theorem insB_in (bits : List Int) (fr : Int) (i : Nat) {b : Bnd} {m : Int} (hm : m ≤ 100000) (h : okBnd m b = true) : inB (insB bits fr i b) b ∧ insB bits fr i b = b.lo + restS (pickS bits (fr + i)) (b.hi - b.lo + 1) := by
  obtain ⟨h1, h2, h3⟩ := of_decide_eq_true h
  have e1 : wrap64 (wrap64 (b.hi - b.lo) + 1) = b.hi - b.lo + 1 := by unfold wrap64; omega
  have hr := restS_bd (pickS bits (fr + i)) (many := b.hi - b.lo + 1) (by omega)
  unfold insB inB
  rw [e1, show wrap64 (b.lo + restS (pickS bits (fr + i)) (b.hi - b.lo + 1)) = b.lo + restS (pickS bits (fr + i)) (b.hi - b.lo + 1) by unfold wrap64; omega]
  exact ⟨by omega, rfl⟩
theorem insTo_len (l : List Bnd) (bits : List Int) (fr : Int) (k : Nat) : (insTo l bits fr k).length = k := by simp [insTo]
theorem insL_len (l : List Bnd) (bits : List Int) (fr : Int) : (insL l bits fr).length = l.length := insTo_len _ _ _ _
theorem insL_at (l : List Bnd) (bits : List Int) (fr : Int) {i : Nat} {b : Bnd} (h : l[i]? = some b) : (insL l bits fr)[i]? = some (insB bits fr i b) := by
  unfold insL insTo
  rw [List.getElem?_map, List.getElem?_range (lt_of_at h), Option.map_some, getD_of _ h]
theorem insL_lies {l : List Bnd} (bits : List Int) (fr : Int) (h : l.all (okBnd 16384) = true) : Lies (insL l bits fr) l := by
  refine ⟨insL_len _ _ _, fun i x b hx hb => ?_⟩
  rw [insL_at l bits fr hb] at hx
  cases hx
  exact (insB_in bits fr i (by omega) (List.all_eq_true.1 h b (List.mem_of_getElem? hb))).1
theorem Lies.range {o : List Int} {l : List Bnd} (h : Lies o l) (hl : l.all (okBnd 16384) = true) : ∀ x ∈ o, -16384 ≤ x ∧ x ≤ 16384 := by
  intro x hx
  obtain ⟨i, hi⟩ := List.mem_iff_getElem?.1 hx
  have hlt := lt_of_at hi
  have hb := getD_get (⟨0, 0⟩ : Bnd) (l := l) (i := i) (by have := h.1; omega)
  have h1 := h.2 i x _ hi hb
  obtain ⟨a, b, c⟩ := of_decide_eq_true (List.all_eq_true.1 hl _ (List.mem_of_getElem? hb))
  unfold inB at h1
  omega
end Go.Proofs.YtjiaepphnddpoaaGreat
namespace Go.Proofs.YtjiaepphnddpoaaGreat
def sumL : List Int → Int
  | [] => 0
  | x :: l => x + sumL l
def earlierS : List Int → List Int → Bool
  | x :: l, y :: m => if x = y then earlierS l m else decide (x < y)
  | l, m => decide (l.length < m.length)
def speedsOf (ch plan : List Int) : List Int := plan.map fun x => ch.getD x.toNat 0
def isPlan (ch plan : List Int) : Bool := plan.all fun x => decide (0 ≤ x ∧ x ≤ ch.length - 1)
structure FastSaid (s : Strm) (bs : List Bnd) (l : List Wat) (ch : List Int) (r : List Int × Int × Int) : Prop where
  bw : errBW s bs l = 0
  lim : 1 ≤ l.length ∧ l.length ≤ 6 ∧ 1 ≤ ch.length ∧ ch.length ≤ 4
  spd : okSpeeds ch = true
  run : (r.2.2 = 0 ∧ r.1.length = l.length ∧ isPlan ch r.1 = true ∧ keepsS s bs l (speedsOf ch r.1) = true ∧ sumL (speedsOf ch r.1) = r.2.1) ∨ r = ([], 0, 4)
  best : ∀ plan, plan.length = l.length → isPlan ch plan = true → keepsS s bs l (speedsOf ch plan) = true →
    r.2.2 = 0 ∧ sumL (speedsOf ch plan) ≤ r.2.1 ∧ (sumL (speedsOf ch plan) < r.2.1 ∨ earlierS plan r.1 = false)
end Go.Proofs.YtjiaepphnddpoaaGreat
namespace Go.Proofs.YtjiaepphnddpoaaGreat
set_option linter.unusedSimpArgs false
set_option linter.unusedVariables false
end Go.Proofs.YtjiaepphnddpoaaGreat
namespace Go.Proofs.YtjiaepphnddpoaaGreat
def inR (p : Pnt) (r : Reg) : Prop := inB p.x r.x ∧ inB p.y r.y ∧ inB (p.x + p.y) r.s ∧ inB (p.x - p.y) r.d
theorem rowsTo_has {r : Reg} {q : RRow} : ∀ {n j : Nat}, j < n → q = rowB r (r.x.lo + j) → q.fr ≤ q.to → q ∈ rowsTo r n
  | 0, j, h, _, _ => absurd h (Nat.not_lt_zero _)
  | n + 1, j, h, e, hq => by
    rw [rowsTo, List.mem_append]
    by_cases hj : j < n
    · exact .inl (rowsTo_has hj e hq)
    · obtain rfl : j = n := by omega
      refine .inr ?_
      rw [← e, if_pos hq]; simp
theorem rowsL_iff {r : Reg} {q : RRow} : q ∈ rowsL r ↔ inB q.x r.x ∧ q = rowB r q.x ∧ q.fr ≤ q.to := by
  unfold rowsL
  constructor
  · intro h
    obtain ⟨j, hj, e, hq⟩ := rowsTo_mem h
    have ex : q.x = r.x.lo + j := by rw [e]; rfl
    unfold nX at hj
    exact ⟨⟨by omega, by omega⟩, by rw [ex]; exact e, hq⟩
  · rintro ⟨⟨h1, h2⟩, e, hq⟩
    refine rowsTo_has (j := (q.x - r.x.lo).toNat) (by unfold nX; omega) ?_ hq
    rw [show r.x.lo + ((q.x - r.x.lo).toNat : Int) = q.x by omega]; exact e
theorem ptsL_iff {r : Reg} {p : Pnt} : p ∈ ptsL r ↔ inR p r ∧ (p.y = (rowB r p.x).fr ∨ p.y = (rowB r p.x).to) := by
  unfold ptsL
  rw [List.mem_flatMap]
  constructor
  · rintro ⟨q, hq, hp⟩
    obtain ⟨⟨hx1, hx2⟩, e, hle⟩ := rowsL_iff.1 hq
    have hpx : p.x = q.x ∧ (p.y = q.fr ∨ p.y = q.to) := by
      unfold rowPts at hp
      split at hp
      · simp at hp; subst hp; exact ⟨rfl, .inl rfl⟩
      · simp at hp; rcases hp with rfl | rfl
        · exact ⟨rfl, .inl rfl⟩
        · exact ⟨rfl, .inr rfl⟩
    obtain ⟨px, py⟩ := hpx
    rw [e] at py hle
    rw [← px] at py hle hx1 hx2
    refine ⟨?_, py⟩
    unfold inR inB
    unfold rowB at py hle
    dsimp only at py hle
    omega
  · rintro ⟨⟨h1, h2, h3, h4⟩, hy⟩
    have hle : (rowB r p.x).fr ≤ p.y ∧ p.y ≤ (rowB r p.x).to := by
      unfold inB at *
      unfold rowB
      dsimp only
      omega
    refine ⟨rowB r p.x, rowsL_iff.2 ⟨h1, rfl, by omega⟩, ?_⟩
    have hx : (rowB r p.x).x = p.x := rfl
    obtain ⟨px, py⟩ := p
    unfold rowPts
    split
    · rename_i e
      simp only [List.mem_singleton, Pnt.mk.injEq]
      exact ⟨hx.symm, by dsimp only at hy e ⊢; omega⟩
    · simp only [List.mem_cons, Pnt.mk.injEq, List.not_mem_nil, or_false]
      rcases hy with hy | hy
      · exact .inl ⟨hx.symm, hy⟩
      · exact .inr ⟨hx.symm, hy⟩
structure Hull (l : List Pnt) (h : Reg) : Prop where
  has : ∀ p ∈ l, inR p h
  xlo : ∃ p ∈ l, p.x = h.x.lo
  xhi : ∃ p ∈ l, p.x = h.x.hi
  ylo : ∃ p ∈ l, p.y = h.y.lo
  yhi : ∃ p ∈ l, p.y = h.y.hi
  slo : ∃ p ∈ l, p.x + p.y = h.s.lo
  shi : ∃ p ∈ l, p.x + p.y = h.s.hi
  dlo : ∃ p ∈ l, p.x - p.y = h.d.lo
  dhi : ∃ p ∈ l, p.x - p.y = h.d.hi
theorem hull_one (p : Pnt) : Hull [p] (ofP p) := by
  have hh : ∀ q ∈ [p], inR q (ofP p) := by
    intro q hq
    simp at hq; subst hq
    exact ⟨⟨Int.le_refl _, Int.le_refl _⟩, ⟨Int.le_refl _, Int.le_refl _⟩, ⟨Int.le_refl _, Int.le_refl _⟩, ⟨Int.le_refl _, Int.le_refl _⟩⟩
  have hm : p ∈ [p] := List.mem_singleton.2 rfl
  exact ⟨hh, ⟨p, hm, rfl⟩, ⟨p, hm, rfl⟩, ⟨p, hm, rfl⟩, ⟨p, hm, rfl⟩, ⟨p, hm, rfl⟩, ⟨p, hm, rfl⟩, ⟨p, hm, rfl⟩, ⟨p, hm, rfl⟩⟩
theorem lo_add {l : List Pnt} {f : Pnt → Int} {a : Int} (p : Pnt) (h : ∃ q ∈ l, f q = a) : ∃ q ∈ l ++ [p], f q = min a (f p) := by
  obtain ⟨q, hq, e⟩ := h
  by_cases hlt : a ≤ f p
  · exact ⟨q, List.mem_append_left _ hq, by omega⟩
  · exact ⟨p, List.mem_append_right _ (List.mem_singleton.2 rfl), by omega⟩
theorem hi_add {l : List Pnt} {f : Pnt → Int} {a : Int} (p : Pnt) (h : ∃ q ∈ l, f q = a) : ∃ q ∈ l ++ [p], f q = max a (f p) := by
  obtain ⟨q, hq, e⟩ := h
  by_cases hlt : f p ≤ a
  · exact ⟨q, List.mem_append_left _ hq, by omega⟩
  · exact ⟨p, List.mem_append_right _ (List.mem_singleton.2 rfl), by omega⟩
theorem hull_add {l : List Pnt} {h : Reg} (p : Pnt) (H : Hull l h) : Hull (l ++ [p]) (zipR spanB h (ofP p)) := by
  have hh : ∀ q ∈ l ++ [p], inR q (zipR spanB h (ofP p)) := by
    intro q hq
    rcases List.mem_append.1 hq with hq | hq
    · have := H.has q hq
      unfold inR inB zipR spanB ofP still at *; dsimp only at *; omega
    · simp at hq; subst hq
      unfold inR inB zipR spanB ofP still; dsimp only; omega
  exact ⟨hh, lo_add (f := fun p => p.x) p H.xlo, hi_add (f := fun p => p.x) p H.xhi, lo_add (f := fun p => p.y) p H.ylo, hi_add (f := fun p => p.y) p H.yhi,
    lo_add (f := fun p => p.x + p.y) p H.slo, hi_add (f := fun p => p.x + p.y) p H.shi, lo_add (f := fun p => p.x - p.y) p H.dlo, hi_add (f := fun p => p.x - p.y) p H.dhi⟩
theorem hull_fold : ∀ (m l : List Pnt) (h : Reg), Hull l h → ∃ k, m.foldl addP (some h) = some k ∧ Hull (l ++ m) k
  | [], l, h, H => ⟨h, rfl, by rw [List.append_nil]; exact H⟩
  | p :: m, l, h, H => by
    obtain ⟨k, e, K⟩ := hull_fold m (l ++ [p]) _ (hull_add p H)
    exact ⟨k, e, by simpa using K⟩
theorem hull_of : ∀ (l : List Pnt), l ≠ [] → ∃ h, hullL l = some h ∧ Hull l h
  | [], h => absurd rfl h
  | p :: m, _ => by
    obtain ⟨k, e, K⟩ := hull_fold m [p] _ (hull_one p)
    refine ⟨k, ?_, K⟩
    unfold hullL
    rw [List.foldl_cons]
    show m.foldl addP (some (zipR spanB (ofP p) (ofP p))) = some k
    rw [zipR_self]; exact e
theorem tight_hull {r t : Reg} (h : tightO r = some t) : Hull (ptsL r) t := by
  have hne : ptsL r ≠ [] := by
    intro e
    rw [tightO, e] at h
    cases h
  obtain ⟨k, e, K⟩ := hull_of _ hne
  rw [tightO, e] at h
  cases h
  exact K
theorem tight_has {r : Reg} {p : Pnt} (h : inR p r) : ∃ t, tightO r = some t ∧ inR p t := by
  have hle : (rowB r p.x).fr ≤ p.y ∧ p.y ≤ (rowB r p.x).to := by
    unfold inR inB at h
    unfold rowB
    dsimp only
    omega
  have m1 : (⟨p.x, (rowB r p.x).fr⟩ : Pnt) ∈ ptsL r := ptsL_iff.2 ⟨by unfold inR inB at *; unfold rowB at *; dsimp only at *; omega, .inl rfl⟩
  have m2 : (⟨p.x, (rowB r p.x).to⟩ : Pnt) ∈ ptsL r := ptsL_iff.2 ⟨by unfold inR inB at *; unfold rowB at *; dsimp only at *; omega, .inr rfl⟩
  obtain ⟨t, e, T⟩ := hull_of _ (List.ne_nil_of_mem m1)
  refine ⟨t, e, ?_⟩
  have a := T.has _ m1
  have b := T.has _ m2
  unfold inR inB at *
  dsimp only at *
  omega
theorem tight_in {r t : Reg} (h : tightO r = some t) {p : Pnt} (hp : inR p r) : inR p t := by
  obtain ⟨t', e, ht⟩ := tight_has hp
  rw [h] at e
  cases e
  exact ht
theorem tight_of {r t : Reg} (h : tightO r = some t) {p : Pnt} (hp : inR p t) : inR p r := by
  have T := tight_hull h
  obtain ⟨p1, m1, e1⟩ := T.xlo
  obtain ⟨p2, m2, e2⟩ := T.xhi
  obtain ⟨p3, m3, e3⟩ := T.ylo
  obtain ⟨p4, m4, e4⟩ := T.yhi
  obtain ⟨p5, m5, e5⟩ := T.slo
  obtain ⟨p6, m6, e6⟩ := T.shi
  obtain ⟨p7, m7, e7⟩ := T.dlo
  obtain ⟨p8, m8, e8⟩ := T.dhi
  have a1 := (ptsL_iff.1 m1).1
  have a2 := (ptsL_iff.1 m2).1
  have a3 := (ptsL_iff.1 m3).1
  have a4 := (ptsL_iff.1 m4).1
  have a5 := (ptsL_iff.1 m5).1
  have a6 := (ptsL_iff.1 m6).1
  have a7 := (ptsL_iff.1 m7).1
  have a8 := (ptsL_iff.1 m8).1
  unfold inR inB at *
  omega
theorem tight_ok {r t : Reg} (hr : okReg r = true) (h : tightO r = some t) : okReg t = true := by
  have T := tight_hull h
  have hp : ∀ p ∈ ptsL r, -32768 ≤ p.x ∧ p.x ≤ 32768 ∧ -32768 ≤ p.y ∧ p.y ≤ 32768 := fun p hp => ptsL_mid hr hp
  obtain ⟨p1, m1, e1⟩ := T.xlo
  obtain ⟨p2, m2, e2⟩ := T.xhi
  obtain ⟨p3, m3, e3⟩ := T.ylo
  obtain ⟨p4, m4, e4⟩ := T.yhi
  obtain ⟨p5, m5, e5⟩ := T.slo
  obtain ⟨p6, m6, e6⟩ := T.shi
  obtain ⟨p7, m7, e7⟩ := T.dlo
  obtain ⟨p8, m8, e8⟩ := T.dhi
  have a1 := hp _ m1
  have a2 := hp _ m2
  have a3 := hp _ m3
  have a4 := hp _ m4
  have a5 := hp _ m5
  have a6 := hp _ m6
  have a7 := hp _ m7
  have a8 := hp _ m8
  have b := T.has _ m1
  unfold okReg okBnd
  unfold inR inB at b
  simp only [Bool.and_eq_true, decide_eq_true_eq]
  omega
end Go.Proofs.YtjiaepphnddpoaaGreat
namespace Go.Proofs.YtjiaepphnddpoaaGreat
open Go.RowKit Go.Shelf
set_option linter.unusedSimpArgs false
set_option linter.unusedVariables false
def drTo (b : Bnd) (bits : List Int) (fr : Int) (k : Nat) : List Int := (List.range k).map fun i => insB bits fr i b
theorem drTo_succ (b : Bnd) (bits : List Int) (fr : Int) (k : Nat) : drTo b bits fr (k + 1) = drTo b bits fr k ++ [insB bits fr k b] := by
  unfold drTo; rw [List.range_succ, List.map_append, List.map_singleton]
theorem drTo_len (b : Bnd) (bits : List Int) (fr : Int) (k : Nat) : (drTo b bits fr k).length = k := by simp [drTo]
theorem drTo_at (b : Bnd) (bits : List Int) (fr : Int) {i k : Nat} (h : i < k) : (drTo b bits fr k)[i]? = some (insB bits fr i b) := by
  unfold drTo; rw [List.getElem?_map, List.getElem?_range h]; rfl
theorem drTo_in {b : Bnd} (bits : List Int) (fr : Int) (k : Nat) {m : Int} (hm : m ≤ 100000) (h : okBnd m b = true) {i : Nat} (hi : i < k) : inB ((drTo b bits fr k).getD i 0) b := by
  rw [getD_of _ (drTo_at b bits fr hi)]
  exact (insB_in bits fr i hm h).1
theorem drTo_ok {s : Strm} {b : Bnd} (bits : List Int) (fr : Int) (h : okBnd 100 b = true) : okNums s (drTo b bits fr s.secs.length) 100 = true := by
  unfold okNums
  rw [Bool.and_eq_true]
  refine ⟨decide_eq_true (drTo_len _ _ _ _), List.all_eq_true.2 fun x hx => ?_⟩
  obtain ⟨i, hi⟩ := List.mem_iff_getElem?.1 hx
  have hl := lt_of_at hi
  rw [drTo_len] at hl
  rw [drTo_at b bits fr hl] at hi
  cases hi
  obtain ⟨h1, h2, h3⟩ := of_decide_eq_true h
  have := (insB_in bits fr i (by omega) h).1
  unfold inB at this
  exact decide_eq_true (by omega)
set_option maxRecDepth 100000 in
set_option maxHeartbeats 1000000 in
theorem drifts_any (x : Bnd) (n : Nat) (bits : List Int) (fr : Int) (O : Option Addr) (no co B2 : Nat) (w : World) (hn : n ≤ 17592186044416) (hf1 : -1000000 ≤ fr) (hf2 : fr ≤ 1000000) (ho : SlAt w B2 1 ivs O no co bits) :
    Calls Tryz.prog 39 #[.agg #[.int .i64 x.lo, .int .i64 x.hi], .int .i64 (n : Int), .slice O no co, .int .i64 fr] w fun e w' => ∃ P pc, e = .returned (.slice P n pc) ∧ SlAt w' w.heap.size 1 ivs P n pc (drTo x bits fr n) ∧ Below w.heap.size w w' := by
  obtain ⟨w1, hw1⟩ : ∃ w1, w1 = w.alloc (.cells #[.int .i64 x.lo, .int .i64 x.hi] 24) := ⟨_, rfl⟩
  have k4 : Blk w1 w.heap.size 24 #[.int .i64 x.lo, .int .i64 x.hi] := by rw [hw1]; exact Blk.new _ _ _
  have hb1 : Below w.heap.size w w1 := by rw [hw1]; exact (Below.refl _ _).alloc (Nat.le_refl _) _
  have hz1 : w.heap.size ≤ w1.heap.size := hb1.size
  replace ho : SlAt w1 B2 1 ivs O no co bits := by rw [hw1]; exact ho.alloc _
  go_enter Tryz.func39, Tryz.ntmps39
  go_wp2_with fail
  rw [← hw1]
  clear hw1
  go_loopw [9, 10] (fun v i wr => ∃ k : Nat, i = .int .i64 k ∧ k ≤ n ∧ wr.ownsRow w1.heap.size 3 1 v k ((drTo x bits fr k).map (.int .i64 ·)) ∧ Below w1.heap.size w1 wr) (fun v i wr => n - (intOf i).toNat)
  case atStart => exact ⟨0, rfl, Nat.zero_le _, ⟨rfl, .inl ⟨rfl, rfl⟩⟩, Below.refl _ _⟩
  case round =>
    obtain ⟨k, rfl, hk, hown, hb⟩ := hrel
    have k4w := k4.belowB hb k4.lt
    by_cases hlt : k < n
    · have hnx : Hid ((drTo x bits fr (k + 1)).map (.int .i64 ·) = (drTo x bits fr k).map (Value.int .i64 ·) ++ [.int .i64 (insB bits fr k x)]) := by show _ = _; rw [drTo_succ, List.map_append]; rfl
      have hP := fun q => Pick_any bits q O no co B2 wr.drew (ho.keep hb.size (fun _ _ h => hb.cell h)).drew
      have hR := fun a => Rest_any a (wrap64 (wrap64 (x.hi - x.lo) + 1)) wr.drew (wrap64_le _)
      have hk0 : (0 : Int) ≤ (k : Int) := by omega
      have hk1 : (k : Int) < (n : Int) := by omega
      have t1 := IntWalk.i64_in (fr + (k : Int)) (by omega)
      have hw := IntWalk.i64_left
      go_wp2_with fail
      refine wp_held_np (fun w' : World => w'.cell? ⟨w.heap.size, 0, none⟩ = some (.int .i64 x.lo) ∧ w'.cell? ⟨w.heap.size, 1, none⟩ = some (.int .i64 x.hi)) (by kernel_rfl) ?_
      replace hb := hb.drew
      replace hown : wr.drew.ownsRow _ _ _ _ _ _ := hown
      replace k4w := k4w.drew
      have hS : (fun w' : World => w'.cell? ⟨w.heap.size, 0, none⟩ = some (.int .i64 x.lo) ∧ w'.cell? ⟨w.heap.size, 1, none⟩ = some (.int .i64 x.hi)) wr.drew := ⟨k4w.cell 0, k4w.cell 1⟩
      generalize wr.drew = W at *
      refine held_take (i := 0) (v := ?_) 16 rfl rfl (by kernel_rfl) (by kernel_rfl) (by kernel_rfl) (fun _ _ _ h => h) (Or.inl ⟨by rfl, ?_⟩) hS ?_
      rotate_left 1
      · intro w' hSw
        try dsimp only at hSw
        obtain ⟨q1, q2⟩ := hSw
        go_simp
        all_goals with_reducible rfl
      try simp only [Act.put, List.setIfInBounds_toArray, List.set_cons_zero, List.set_cons_succ]
      refine held_take (i := 1) (v := ?_) 17 rfl rfl (by kernel_rfl) (by kernel_rfl) (by kernel_rfl) (fun _ _ _ h => h) (Or.inl ⟨by rfl, ?_⟩) hS ?_
      rotate_left 1
      · intro w' hSw
        try dsimp only at hSw
        obtain ⟨q1, q2⟩ := hSw
        go_simp
        all_goals with_reducible rfl
      try simp only [Act.put, List.setIfInBounds_toArray, List.set_cons_zero, List.set_cons_succ]
      refine held_take (i := 2) (v := ?_) 18 rfl rfl (by kernel_rfl) (by kernel_rfl) (by kernel_rfl) (fun _ _ _ h => h) (Or.inl ⟨by rfl, ?_⟩) hS ?_
      rotate_left 1
      · intro w' hSw
        try dsimp only at hSw
        obtain ⟨q1, q2⟩ := hSw
        go_simp
        all_goals with_reducible rfl
      try simp only [Act.put, List.setIfInBounds_toArray, List.set_cons_zero, List.set_cons_succ]
      refine held_take (i := 3) (v := ?_) 19 rfl rfl (by kernel_rfl) (by kernel_rfl) (by kernel_rfl) (fun _ _ _ h => h) (Or.inl ⟨by rfl, ?_⟩) hS ?_
      rotate_left 1
      · intro w' hSw
        try dsimp only at hSw
        obtain ⟨q1, q2⟩ := hSw
        go_simp
        all_goals with_reducible rfl
      try simp only [Act.put, List.setIfInBounds_toArray, List.set_cons_zero, List.set_cons_succ]
      refine held_take (i := 4) (v := ?_) 20 rfl rfl (by kernel_rfl) (by kernel_rfl) (by kernel_rfl) (fun _ _ _ h => h) (Or.inl ⟨by rfl, ?_⟩) hS ?_
      rotate_left 1
      · intro w' hSw
        try dsimp only at hSw
        obtain ⟨q1, q2⟩ := hSw
        go_simp
        all_goals with_reducible rfl
      try simp only [Act.put, List.setIfInBounds_toArray, List.set_cons_zero, List.set_cons_succ]
      refine held_take (i := 5) (v := ?_) 21 rfl rfl (by kernel_rfl) (by kernel_rfl) (by kernel_rfl) (fun _ _ _ h => h) (Or.inl ⟨by rfl, ?_⟩) hS ?_
      rotate_left 1
      · intro w' hSw
        try dsimp only at hSw
        obtain ⟨q1, q2⟩ := hSw
        go_simp
        all_goals with_reducible rfl
      try simp only [Act.put, List.setIfInBounds_toArray, List.set_cons_zero, List.set_cons_succ]
      refine held_take (i := 6) (v := ?_) 22 rfl rfl (by kernel_rfl) (by kernel_rfl) (by kernel_rfl) (fun _ _ _ h => h) (Or.inl ⟨by rfl, ?_⟩) hS ?_
      rotate_left 1
      · intro w' hSw
        try dsimp only at hSw
        obtain ⟨q1, q2⟩ := hSw
        go_simp
        all_goals with_reducible rfl
      try simp only [Act.put, List.setIfInBounds_toArray, List.set_cons_zero, List.set_cons_succ]
      refine held_take (i := 8) (v := ?_) 24 rfl rfl (by kernel_rfl) (by kernel_rfl) (by kernel_rfl) (fun _ _ _ h => h) (Or.inl ⟨by rfl, ?_⟩) hS ?_
      rotate_left 1
      · intro w' hSw
        try dsimp only at hSw
        obtain ⟨q1, q2⟩ := hSw
        go_simp
        all_goals with_reducible rfl
      try simp only [Act.put, List.setIfInBounds_toArray, List.set_cons_zero, List.set_cons_succ]
      refine held_take (i := 9) (v := ?_) 25 rfl rfl (by kernel_rfl) (by kernel_rfl) (by kernel_rfl) (fun _ _ _ h => h) (Or.inl ⟨by rfl, ?_⟩) hS ?_
      rotate_left 1
      · intro w' hSw
        try dsimp only at hSw
        obtain ⟨q1, q2⟩ := hSw
        go_simp
        all_goals with_reducible rfl
      try simp only [Act.put, List.setIfInBounds_toArray, List.set_cons_zero, List.set_cons_succ]
      refine held_take (i := 10) (v := ?_) 26 rfl rfl (by kernel_rfl) (by kernel_rfl) (by kernel_rfl) (fun _ _ _ h => h) (Or.inl ⟨by rfl, ?_⟩) hS ?_
      rotate_left 1
      · intro w' hSw
        try dsimp only at hSw
        obtain ⟨q1, q2⟩ := hSw
        go_simp
        all_goals with_reducible rfl
      try simp only [Act.put, List.setIfInBounds_toArray, List.set_cons_zero, List.set_cons_succ]
      refine held_take (i := 11) (v := ?_) 27 rfl rfl (by kernel_rfl) (by kernel_rfl) (by kernel_rfl) (fun _ _ _ h => h) (Or.inl ⟨by rfl, ?_⟩) hS ?_
      rotate_left 1
      · intro w' hSw
        try dsimp only at hSw
        obtain ⟨q1, q2⟩ := hSw
        go_simp
        all_goals with_reducible rfl
      try simp only [Act.put, List.setIfInBounds_toArray, List.set_cons_zero, List.set_cons_succ]
      refine held_take (i := 12) (v := ?_) 28 rfl rfl (by kernel_rfl) (by kernel_rfl) (by kernel_rfl) (fun _ _ _ h => h) (Or.inl ⟨by rfl, ?_⟩) hS ?_
      rotate_left 1
      · intro w' hSw
        try dsimp only at hSw
        obtain ⟨q1, q2⟩ := hSw
        go_simp
        all_goals with_reducible rfl
      try simp only [Act.put, List.setIfInBounds_toArray, List.set_cons_zero, List.set_cons_succ]
      refine held_take (i := 13) (v := ?_) 29 rfl rfl (by kernel_rfl) (by kernel_rfl) (by kernel_rfl) (fun _ _ _ h => h) (Or.inl ⟨by rfl, ?_⟩) hS ?_
      rotate_left 1
      · intro w' hSw
        try dsimp only at hSw
        obtain ⟨q1, q2⟩ := hSw
        go_simp
        all_goals with_reducible rfl
      try simp only [Act.put, List.setIfInBounds_toArray, List.set_cons_zero, List.set_cons_succ]
      refine held_one (i := 7) (by kernel_rfl) rfl rfl (fun K hK => ?_)
      go_simp
      refine (hP _).mono ?_
      rintro e w' ⟨rfl, rfl⟩
      refine hK _ _ hS ?_
      clear hK K hP
      try simp only [Act.put, List.setIfInBounds_toArray, List.set_cons_zero, List.set_cons_succ]
      refine held_one (i := 14) (by kernel_rfl) rfl rfl (fun K hK => ?_)
      go_simp
      refine (hR _).mono ?_
      rintro e w' ⟨rfl, rfl⟩
      refine hK _ _ hS ?_
      clear hK K hR
      try simp only [Act.put, List.setIfInBounds_toArray, List.set_cons_zero, List.set_cons_succ]
      refine held_take (i := 15) (v := ?_) 31 rfl rfl (by kernel_rfl) (by kernel_rfl) (by kernel_rfl) (fun _ _ _ h => h) (Or.inl ⟨by rfl, ?_⟩) hS ?_
      rotate_left 1
      · intro w' hSw
        try dsimp only at hSw
        obtain ⟨q1, q2⟩ := hSw
        go_simp
        all_goals with_reducible rfl
      try simp only [Act.put, List.setIfInBounds_toArray, List.set_cons_zero, List.set_cons_succ]
      clear t1
      have hX : wrap64 (x.lo + restS (pickS bits (fr + k)) (wrap64 (wrap64 (x.hi - x.lo) + 1))) = insB bits fr k x := rfl
      rw [hX]
      clear hX hw
      generalize insB bits fr k x = X at *
      have hbig1 : Hid (k + 1 ≤ maxLen) := by show k + 1 ≤ maxLen; unfold maxLen; omega
      have hbig2 : Hid ((k + 1) * 8 ≤ 140737488355328) := by show (k + 1) * 8 ≤ 140737488355328; omega
      obtain ⟨i0, hi0, hz0, hz1, hz2⟩ := info_parts Tryz.infoInt
      have hnews : ∀ (j : Nat) (u : Value), ([.int .i64 (X)] : List Value)[j]? = some u → (W.alloc (.cells #[.int .i64 (X)] 3)).cell? ((⟨W.heap.size, 0, none⟩ : Addr).add j) = some u :=
        World.news_of_block (cs := #[.int .i64 (X)]) (World.alloc_heap_new W _)
      have hownf := hown.alloc (.cells #[.int .i64 (X)] 3)
      have hbf := hb.alloc hb.size (.cells #[.int .i64 (X)] 3)
      refine held_one (i := 16) (by kernel_rfl) rfl rfl (fun K hK => ?_)
      go_simp
      refine hK _ _ ⟨(World.cell?_alloc_lt _ _ _ (World.block_lt_of_cell? _ _ hS.1)).trans hS.1, (World.cell?_alloc_lt _ _ _ (World.block_lt_of_cell? _ _ hS.2)).trans hS.2⟩ ?_
      clear hK K
      try simp only [Act.put, List.setIfInBounds_toArray, List.set_cons_zero, List.set_cons_succ]
      refine held_one (i := 17) (by kernel_rfl) rfl rfl (fun K hK => ?_)
      refine wp_append_lies _ _ _ 31 (by rfl) w1.heap.size 3 i0 (.int .i64 0) 1 8 Tryz.underlying31 hi0 hz0 hz1 hz2 rfl (by omega) u9 k ((drTo x bits fr k).map (.int .i64 ·)) (by rfl) hownf ⟨W.heap.size, 0, none⟩ 1 1 [.int .i64 (X)] (by rfl) rfl hnews (by simp [Value.oneCell']) (by omega) hbig1.out hbig2.out (hbf.size) (W.heap.size + 1) (by simp) ?_
      intro g cap w7 hown7 hgrow hlies hlt7
      have hbg : Below w1.heap.size _ w7 := ⟨hgrow.os, hgrow.tape, hgrow.output, hgrow.size, fun b hb2 => hgrow.block b (Nat.lt_of_lt_of_le hb2 hbf.size) (fun e => by have := (hownf.lt _ e.symm).1; omega)⟩
      have hbh := hbf.trans hbg
      have k4v := k4.belowB hbh k4.lt
      replace hS : (fun w' : World => w'.cell? ⟨w.heap.size, 0, none⟩ = some (.int .i64 x.lo) ∧ w'.cell? ⟨w.heap.size, 1, none⟩ = some (.int .i64 x.hi)) w7 := ⟨k4v.cell 0, k4v.cell 1⟩
      refine hK _ _ hS ?_
      clear hK K
      try simp only [Act.put, List.setIfInBounds_toArray, List.set_cons_zero, List.set_cons_succ]
      refine held_take (i := 18) (v := ?_) 9 rfl rfl (by kernel_rfl) (by kernel_rfl) (by kernel_rfl) (fun _ _ _ h => h) (Or.inl ⟨by rfl, ?_⟩) hS ?_
      rotate_left 1
      · intro w' hSw
        try dsimp only at hSw
        obtain ⟨q1, q2⟩ := hSw
        go_simp
        all_goals with_reducible rfl
      try simp only [Act.put, List.setIfInBounds_toArray, List.set_cons_zero, List.set_cons_succ]
      refine wpAnyH_done (by kernel_rfl) (noPanic_normal ?_) _
      clear hS
      go_wp2
      go_roundw
      case rel =>
        refine ⟨k + 1, by go_num, by omega, ?_, hbh⟩
        rw [hnx.out]
        simpa using hown7
      case measure => simp [intOf]; omega
    · obtain rfl : k = n := by omega
      go_wp2
      go_ret
      obtain ⟨P, pc, e2, h2⟩ := SlAt.of_own (enc := ivs) hown (by omega) (drTo x bits fr k) (flatMap_ivs _).symm (fun _ => rfl) (drTo_len _ _ _ _)
      exact ⟨P, pc, by rw [e2]; rfl, h2.mono hz1, hb1.trans (hb.mono hz1)⟩
end Go.Proofs.YtjiaepphnddpoaaGreat
namespace Go.Proofs.YtjiaepphnddpoaaGreat
open Go.RowKit Go.Shelf
set_option linter.unusedSimpArgs false
set_option linter.unusedVariables false
theorem okNums_of_lies {s : Strm} {o : List Int} {l : List Bnd} (hn : l.length = s.secs.length) (h : Lies o l) (hl : l.all (okBnd 16384) = true) : okNums s o 16384 = true := by
  unfold okNums
  rw [Bool.and_eq_true]
  refine ⟨decide_eq_true (by have := h.1; omega), List.all_eq_true.2 fun x hx => ?_⟩
  have := h.range hl x hx
  exact decide_eq_true (by omega)
theorem stepR_ok {s : Strm} {o d : List Int} (h1 : okStrm s = true) (h2 : okNums s o 16384 = true) (h3 : okNums s d 100 = true) : stepR s o d = (stepL s o d, 0) := by
  rw [stepR, if_pos h1, if_pos h2, if_pos h3]
end Go.Proofs.YtjiaepphnddpoaaGreat
namespace Go.Proofs.YtjiaepphnddpoaaGreat
open Go.RowKit Go.Shelf
set_option linter.unusedSimpArgs false
set_option linter.unusedVariables false
theorem rootS_up {n : Int} (h : 0 ≤ n) : n < (rootS n + 1) * (rootS n + 1) := by
  obtain ⟨m, rfl⟩ : ∃ m : Nat, n = m := ⟨n.toNat, by omega⟩
  unfold rootS
  rw [Int.toNat_natCast]
  exact_mod_cast (isq_spec m).2
theorem lt_of_sq {a b : Int} (ha : 0 ≤ b) (h : a * a < b * b) : a < b := by
  rcases Int.lt_or_le a b with h1 | h1
  · exact h1
  · have := Int.mul_le_mul h1 h1 ha (by omega); omega
theorem rootS_mono {a b : Int} (h0 : 0 ≤ a) (h : a ≤ b) : rootS a ≤ rootS b := by
  have h1 := (rootS_bd h0).2
  have h2 := rootS_up (show 0 ≤ b by omega)
  have h3 := (rootS_bd (show 0 ≤ b by omega)).1
  have := lt_of_sq (a := rootS a) (b := rootS b + 1) (by omega) (by omega)
  omega
def backS (up : Bool) (n m : Int) : Int :=
  if up = true ∧ rootS (n * n - m * m) * rootS (n * n - m * m) < n * n - m * m then rootS (n * n - m * m) + 1 else rootS (n * n - m * m)
theorem backS_bd {up : Bool} {n m h : Int} (h1 : 0 ≤ m) (h2 : m ≤ n) (h3 : m ≤ h) : shortS n h ≤ backS up n m ∧ backS up n m ≤ n ∧ 0 ≤ backS up n m := by
  have q1 : 0 ≤ n * n - m * m := by have := sq_mono h1 h2; omega
  have q2 : 0 ≤ m * m := Int.mul_nonneg h1 h1
  obtain ⟨r1, r2⟩ := rootS_bd q1
  have q3 : min h n * min h n ≤ n * n := sq_mono (by omega) (by omega)
  have q4 : m * m ≤ min h n * min h n := sq_mono h1 (by omega)
  have q5 : shortS n h ≤ rootS (n * n - m * m) := rootS_mono (by omega) (by omega)
  unfold backS
  generalize rootS (n * n - m * m) = r at *
  split
  · rename_i hu
    have := lt_of_sq (a := r) (b := n) (by omega) (by omega)
    omega
  · have := lt_of_sq (a := r) (b := n + 1) (by omega) (by
      have : (n + 1) * (n + 1) = n * n + 2 * n + 1 := by simp only [Int.add_mul, Int.mul_add]; omega
      omega)
    omega
def laidX (s : Strm) (o : List Int) (up : Bool) : Nat → Int
  | 0 => 0
  | k + 1 => laidX s o up k - backS up (s.sec k).len (bendAt s o k)
def laidTo (s : Strm) (o : List Int) (up : Bool) (k : Nat) : List Pnt := (List.range k).map fun i => ⟨laidX s o up (i + 1), o.getD i s.head⟩
def laidL (s : Strm) (o : List Int) (up : Bool) : List Pnt := laidTo s o up o.length
def laidB (s : Strm) (o : List Int) : Bool := (List.range o.length).all fun i => decide (bendAt s o i ≤ (s.sec i).len)
theorem laidTo_succ (s : Strm) (o : List Int) (up : Bool) (k : Nat) : laidTo s o up (k + 1) = laidTo s o up k ++ [⟨laidX s o up (k + 1), o.getD k s.head⟩] := by
  unfold laidTo; rw [List.range_succ, List.map_append]; rfl
theorem laidTo_len (s : Strm) (o : List Int) (up : Bool) (k : Nat) : (laidTo s o up k).length = k := by simp [laidTo]
theorem laidL_at (s : Strm) (o : List Int) (up : Bool) {i : Nat} (h : i < o.length) : (laidL s o up)[i]? = some ⟨laidX s o up (i + 1), o.getD i s.head⟩ := by
  unfold laidL laidTo; rw [List.getElem?_map, List.getElem?_range h]; rfl
theorem laidB_at {s : Strm} {o : List Int} (h : laidB s o = true) {i : Nat} (hi : i < o.length) : bendAt s o i ≤ (s.sec i).len :=
  of_decide_eq_true (List.all_eq_true.1 h i (List.mem_range.2 hi))
theorem laidB_no {s : Strm} {o : List Int} {i : Nat} (hi : i < o.length) (h : (s.sec i).len < bendAt s o i) : laidB s o = false := by
  cases hb : laidB s o with
  | false => rfl
  | true => have := laidB_at hb hi; omega
theorem laidB_yes {s : Strm} {o : List Int} (h : ∀ i, i < o.length → bendAt s o i ≤ (s.sec i).len) : laidB s o = true :=
  List.all_eq_true.2 fun i hi => decide_eq_true (h i (List.mem_range.1 hi))
theorem bend_nonneg (s : Strm) (o : List Int) (i : Nat) : 0 ≤ bendAt s o i := by unfold bendAt magS; omega
theorem laidX_bd {s : Strm} {o : List Int} {bs : List Bnd} (up : Bool) (hs : okStrm s = true) (hL : Lies o bs) (hb : laidB s o = true) : ∀ k, k ≤ o.length → nearS s bs k ≤ -laidX s o up k ∧ -laidX s o up k ≤ farS s k
  | 0, _ => by simp [nearS, laidX, farS]
  | k + 1, h => by
    have ih := laidX_bd up hs hL hb k (by omega)
    have h1 := (hL.bend (s := s) (i := k) (by have := hL.1; omega)).2
    have := backS_bd (up := up) (h := ((bendL s bs).getD k ⟨0, 0⟩).hi) (bend_nonneg s o k) (laidB_at hb (by omega)) h1
    show nearS s bs k + shortS _ _ ≤ -(laidX s o up k - backS up _ _) ∧ -(laidX s o up k - backS up _ _) ≤ farS s k + _
    omega
theorem laidX_neg {s : Strm} {o : List Int} (up : Bool) (hs : okStrm s = true) (hn : o.length = s.secs.length) (hb : laidB s o = true) : ∀ k, k ≤ o.length → 0 ≤ -laidX s o up k ∧ -laidX s o up k ≤ 1000 * k
  | 0, _ => by simp [laidX]
  | k + 1, h => by
    have ih := laidX_neg up hs hn hb k (by omega)
    have hl := sec_len hs k
    have := backS_bd (up := up) (h := bendAt s o k) (bend_nonneg s o k) (laidB_at hb (by omega)) (Int.le_refl _)
    show 0 ≤ -(laidX s o up k - backS up _ _) ∧ -(laidX s o up k - backS up _ _) ≤ 1000 * ((k + 1 : Nat) : Int)
    omega
theorem okReg_all {f n : Int} {b : Bnd} (h1 : 0 ≤ n) (h2 : n ≤ f) (h3 : f ≤ 8000) (h4 : okBnd 16384 b = true) : okReg { allReg with x := ⟨-f, -n⟩, y := b } = true := by
  obtain ⟨b1, b2, b3⟩ := of_decide_eq_true h4
  rw [okReg_iff]
  simp only [allReg]
  omega
theorem laid_node {s : Strm} {o : List Int} {bs : List Bnd} (up : Bool) (hs : okStrm s = true) (hb : okOffs s bs = true) (hL : Lies o bs) (hd : laidB s o = true) {i : Nat} (hi : i < o.length) :
    okReg (nodeR s bs i) = true ∧ okPnt ⟨laidX s o up (i + 1), o.getD i s.head⟩ = true ∧ inR ⟨laidX s o up (i + 1), o.getD i s.head⟩ (nodeR s bs i) := by
  have hlen : bs.length = s.secs.length := okOffs_len hb
  have hn8 : s.secs.length ≤ 8 := by have := ok_head hs; unfold headOk at this; omega
  have hx := laidX_bd up hs hL hd (i + 1) (by omega)
  have hfar := farS_bd hs (i + 1)
  have hnear := nearS_bd hs (okOffs_all hb) (i + 1)
  have hy := hL.getD (i := i) (by have := hL.1; omega) s.head ⟨0, 0⟩
  have hyb := of_decide_eq_true (List.all_eq_true.1 (okOffs_all hb) _ (List.mem_of_getElem? (getD_get (⟨0, 0⟩ : Bnd) (l := bs) (i := i) (by have := hL.1; omega))))
  have hi8 : i < 8 := by have := hL.1; omega
  have hok : okReg { allReg with x := ⟨-farS s (i + 1), -nearS s bs (i + 1)⟩, y := bs.getD i ⟨0, 0⟩ } = true := okReg_all (by omega) (by omega) (by omega) (decide_eq_true hyb)
  unfold nodeR
  generalize laidX s o up (i + 1) = X at *
  generalize o.getD i s.head = Y at *
  have hin : inR ⟨X, Y⟩ { allReg with x := ⟨-farS s (i + 1), -nearS s bs (i + 1)⟩, y := bs.getD i ⟨0, 0⟩ } := by
    unfold inR inB allReg
    dsimp only
    omega
  obtain ⟨t, e, ht⟩ := tight_has hin
  rw [tightR, if_pos hok, e]
  exact ⟨tight_ok hok e, decide_eq_true (by dsimp only; omega), ht⟩
theorem nodesL_at (s : Strm) (bs : List Bnd) {i : Nat} (h : i < bs.length) : (nodesL s bs)[i]? = some (nodeR s bs i) := by
  unfold nodesL; rw [List.getElem?_map, List.getElem?_range h]; rfl
structure TightR (r : Reg) : Prop where
  xlo : ∃ p, inR p r ∧ p.x = r.x.lo
  xhi : ∃ p, inR p r ∧ p.x = r.x.hi
  ylo : ∃ p, inR p r ∧ p.y = r.y.lo
  yhi : ∃ p, inR p r ∧ p.y = r.y.hi
  slo : ∃ p, inR p r ∧ p.x + p.y = r.s.lo
  shi : ∃ p, inR p r ∧ p.x + p.y = r.s.hi
  dlo : ∃ p, inR p r ∧ p.x - p.y = r.d.lo
  dhi : ∃ p, inR p r ∧ p.x - p.y = r.d.hi
theorem tight_tight {r t : Reg} (h : tightO r = some t) : TightR t := by
  have T := tight_hull h
  have f : ∀ {p : Pnt}, p ∈ ptsL r → inR p t := fun hp => tight_in h (ptsL_iff.1 hp).1
  obtain ⟨p1, m1, e1⟩ := T.xlo
  obtain ⟨p2, m2, e2⟩ := T.xhi
  obtain ⟨p3, m3, e3⟩ := T.ylo
  obtain ⟨p4, m4, e4⟩ := T.yhi
  obtain ⟨p5, m5, e5⟩ := T.slo
  obtain ⟨p6, m6, e6⟩ := T.shi
  obtain ⟨p7, m7, e7⟩ := T.dlo
  obtain ⟨p8, m8, e8⟩ := T.dhi
  exact ⟨⟨_, f m1, e1⟩, ⟨_, f m2, e2⟩, ⟨_, f m3, e3⟩, ⟨_, f m4, e4⟩, ⟨_, f m5, e5⟩, ⟨_, f m6, e6⟩, ⟨_, f m7, e7⟩, ⟨_, f m8, e8⟩⟩
theorem tight_self {t : Reg} (h : TightR t) : tightO t = some t := by
  obtain ⟨p1, i1, e1⟩ := h.xlo
  obtain ⟨p2, i2, e2⟩ := h.xhi
  obtain ⟨p3, i3, e3⟩ := h.ylo
  obtain ⟨p4, i4, e4⟩ := h.yhi
  obtain ⟨p5, i5, e5⟩ := h.slo
  obtain ⟨p6, i6, e6⟩ := h.shi
  obtain ⟨p7, i7, e7⟩ := h.dlo
  obtain ⟨p8, i8, e8⟩ := h.dhi
  obtain ⟨u, hu, -⟩ := tight_has i1
  have U := tight_tight hu
  have b1 := tight_in hu i1
  have b2 := tight_in hu i2
  have b3 := tight_in hu i3
  have b4 := tight_in hu i4
  have b5 := tight_in hu i5
  have b6 := tight_in hu i6
  have b7 := tight_in hu i7
  have b8 := tight_in hu i8
  obtain ⟨q1, j1, f1⟩ := U.xlo
  obtain ⟨q2, j2, f2⟩ := U.xhi
  obtain ⟨q3, j3, f3⟩ := U.ylo
  obtain ⟨q4, j4, f4⟩ := U.yhi
  obtain ⟨q5, j5, f5⟩ := U.slo
  obtain ⟨q6, j6, f6⟩ := U.shi
  obtain ⟨q7, j7, f7⟩ := U.dlo
  obtain ⟨q8, j8, f8⟩ := U.dhi
  replace j1 := tight_of hu j1
  replace j2 := tight_of hu j2
  replace j3 := tight_of hu j3
  replace j4 := tight_of hu j4
  replace j5 := tight_of hu j5
  replace j6 := tight_of hu j6
  replace j7 := tight_of hu j7
  replace j8 := tight_of hu j8
  rw [hu]
  have e : u = t := by
    obtain ⟨⟨ux1, ux2⟩, ⟨uy1, uy2⟩, ⟨us1, us2⟩, ⟨ud1, ud2⟩⟩ := u
    obtain ⟨⟨tx1, tx2⟩, ⟨ty1, ty2⟩, ⟨ts1, ts2⟩, ⟨td1, td2⟩⟩ := t
    unfold inR inB at *
    simp only [Reg.mk.injEq, Bnd.mk.injEq]
    dsimp only at *
    have k1 : ux1 = tx1 := by omega
    have k2 : ux2 = tx2 := by omega
    have k3 : uy1 = ty1 := by omega
    have k4 : uy2 = ty2 := by omega
    have k5 : us1 = ts1 := by omega
    have k6 : us2 = ts2 := by omega
    have k7 : ud1 = td1 := by omega
    have k8 : ud2 = td2 := by omega
    exact ⟨⟨k1, k2⟩, ⟨k3, k4⟩, ⟨k5, k6⟩, ⟨k7, k8⟩⟩
  rw [e]
structure ExtS (r : Reg) (p q : Int) (b : Bnd) : Prop where
  lo : ∃ v, inR v r ∧ p * v.x + q * v.y = b.lo
  hi : ∃ v, inR v r ∧ p * v.x + q * v.y = b.hi
  has : ∀ v, inR v r → inB (p * v.x + q * v.y) b
def negB (b : Bnd) : Bnd := ⟨-b.hi, -b.lo⟩
def negR (r : Reg) : Reg := ⟨negB r.x, negB r.y, negB r.s, negB r.d⟩
theorem node_tight {s : Strm} {bs : List Bnd} (hs : okStrm s = true) (hb : okOffs s bs = true) {i : Nat} (hi : i < bs.length) : TightR (nodeR s bs i) ∧ okReg (nodeR s bs i) = true ∧ (-8000 ≤ (nodeR s bs i).x.lo ∧ (nodeR s bs i).x.hi ≤ 0 ∧ -16384 ≤ (nodeR s bs i).y.lo ∧ (nodeR s bs i).y.hi ≤ 16384) := by
  have hlen : bs.length = s.secs.length := okOffs_len hb
  have hn8 : s.secs.length ≤ 8 := by have := ok_head hs; unfold headOk at this; omega
  have hfar := farS_bd hs (i + 1)
  have hnear := nearS_bd hs (okOffs_all hb) (i + 1)
  have hnf : nearS s bs (i + 1) ≤ farS s (i + 1) := by
    have : ∀ k, nearS s bs k ≤ farS s k := fun k => by
      induction k with
      | zero => exact Int.le_refl _
      | succ k ih =>
        have hl := sec_len hs k
        have hm := bend_hi (s := s) (ok_head hs) (okOffs_all hb) k
        have h1 : min (((bendL s bs).getD k ⟨0, 0⟩).hi) (s.sec k).len * min (((bendL s bs).getD k ⟨0, 0⟩).hi) (s.sec k).len ≤ (s.sec k).len * (s.sec k).len := sq_mono (by omega) (by omega)
        have h0 : 0 ≤ min (((bendL s bs).getD k ⟨0, 0⟩).hi) (s.sec k).len * min (((bendL s bs).getD k ⟨0, 0⟩).hi) (s.sec k).len := Int.mul_nonneg (by omega) (by omega)
        have hr := rootS_bd (show 0 ≤ (s.sec k).len * (s.sec k).len - min (((bendL s bs).getD k ⟨0, 0⟩).hi) (s.sec k).len * min (((bendL s bs).getD k ⟨0, 0⟩).hi) (s.sec k).len by omega)
        have := lt_of_sq (a := shortS (s.sec k).len ((bendL s bs).getD k ⟨0, 0⟩).hi) (b := (s.sec k).len + 1) (by omega) (by
          have : ((s.sec k).len + 1) * ((s.sec k).len + 1) = (s.sec k).len * (s.sec k).len + 2 * (s.sec k).len + 1 := by simp only [Int.add_mul, Int.mul_add]; omega
          unfold shortS
          omega)
        show nearS s bs k + shortS _ _ ≤ farS s k + _
        omega
    exact this _
  have hbb := List.all_eq_true.1 (okOffs_all hb) _ (List.mem_of_getElem? (getD_get (⟨0, 0⟩ : Bnd) (l := bs) (i := i) hi))
  have hok : okReg { allReg with x := ⟨-farS s (i + 1), -nearS s bs (i + 1)⟩, y := bs.getD i ⟨0, 0⟩ } = true := okReg_all (by omega) hnf (by omega) hbb
  obtain ⟨b1, b2, b3⟩ := of_decide_eq_true hbb
  have hin : inR ⟨-farS s (i + 1), (bs.getD i ⟨0, 0⟩).lo⟩ { allReg with x := ⟨-farS s (i + 1), -nearS s bs (i + 1)⟩, y := bs.getD i ⟨0, 0⟩ } := by
    unfold inR inB allReg
    dsimp only
    omega
  obtain ⟨t, e, ht⟩ := tight_has hin
  unfold nodeR
  rw [tightR, if_pos hok, e]
  show TightR t ∧ okReg t = true ∧ _
  have T := tight_tight e
  refine ⟨T, tight_ok hok e, ?_⟩
  show -8000 ≤ t.x.lo ∧ t.x.hi ≤ 0 ∧ -16384 ≤ t.y.lo ∧ t.y.hi ≤ 16384
  obtain ⟨p1, i1, e1⟩ := T.xlo
  obtain ⟨p2, i2, e2⟩ := T.xhi
  obtain ⟨p3, i3, e3⟩ := T.ylo
  obtain ⟨p4, i4, e4⟩ := T.yhi
  replace i1 := tight_of e i1
  replace i2 := tight_of e i2
  replace i3 := tight_of e i3
  replace i4 := tight_of e i4
  unfold inR inB at i1 i2 i3 i4
  dsimp only at i1 i2 i3 i4
  omega
end Go.Proofs.YtjiaepphnddpoaaGreat
namespace Go.Proofs.YtjiaepphnddpoaaGreat
open Go.RowKit Go.Shelf
set_option linter.unusedSimpArgs false
set_option linter.unusedVariables false
def firstE : List Int → Int
  | [] => 0
  | e :: l => if e = 0 then firstE l else e
def allZ (l : List Int) (k : Nat) : Prop := ∀ i, i < k → l.getD i 0 = 0
theorem firstE_hit : ∀ {l : List Int} {k : Nat} {x : Int}, allZ l k → l[k]? = some x → x ≠ 0 → firstE l = x
  | [], k, x, _, h, _ => by simp at h
  | a :: l, 0, x, _, h, hx => by simp at h; subst h; rw [firstE, if_neg hx]
  | a :: l, k + 1, x, hz, h, hx => by
    have h0 : a = 0 := hz 0 (by omega)
    rw [firstE, if_pos h0]
    exact firstE_hit (l := l) (k := k) (fun i hi => hz (i + 1) (by omega)) (by simpa using h) hx
theorem firstE_none : ∀ {l : List Int}, allZ l l.length → firstE l = 0
  | [], _ => rfl
  | a :: l, hz => by
    have h0 : a = 0 := hz 0 (by simp)
    rw [firstE, if_pos h0]
    exact firstE_none fun i hi => hz (i + 1) (by simpa using hi)
set_option maxRecDepth 100000 in
set_option maxHeartbeats 1000000 in
theorem firstE_any (A : Option Addr) (n c B : Nat) (l : List Int) (w : World) (hs : SlAt w B 1 ivs A n c l) :
    Calls Tryz.prog 183 #[.slice A n c] w fun e w' => e = .returned (.int .i64 (firstE l)) ∧ w = w' := by
  have hl := Lib.hid hs.len
  have hn := hs.le
  go_enter Tryz.func183, Tryz.ntmps183
  go_wp2_with fail
  go_loopw [7] (fun j wr => ∃ k : Nat, j = .int .i64 k ∧ k ≤ n ∧ allZ l k ∧ wr = w) (fun j wr => n - (intOf j).toNat)
  case atStart => exact ⟨0, rfl, Nat.zero_le _, fun i hi => by omega, (by trivial)⟩
  case round =>
    obtain ⟨k, rfl, hk, hz, rfl⟩ := hrel
    by_cases hlt : k < n
    · obtain ⟨x, hx⟩ := some_of_lt hl.out hlt
      obtain ⟨b, off, rfl, -, hbl, e0⟩ := hs.int hx
      have hk0 : (0 : Int) ≤ (k : Int) := by omega
      have hk1 : (k : Int) < (n : Int) := by omega
      by_cases hx0 : x = 0
      · subst hx0
        have hz2 : allZ l (k + 1) := fun i hi => by
          by_cases h : i < k
          · exact hz i h
          · obtain rfl : i = k := by omega
            rw [List.getD_eq_getElem?_getD, hx]; rfl
        replace hx := Lib.hid hx
        replace hz := Lib.hid hz
        go_wp2_with fail
        go_roundw
        case rel => exact ⟨k + 1, by go_num, by omega, hz2, (by trivial)⟩
        case measure => simp [intOf]; omega
      · have hv := Lib.hid (firstE_hit hz hx hx0)
        have hx1 : (x != 0) = true := by rw [bne_iff_ne]; exact hx0
        replace hx := Lib.hid hx
        replace hz := Lib.hid hz
        go_wp2
        go_ret
        exact ⟨ret_int hv.out.symm, rfl⟩
    · obtain rfl : k = n := by omega
      have hv : Hid (firstE l = 0) := firstE_none (by rw [hl.out]; exact hz)
      replace hz := Lib.hid hz
      go_wp2
      go_ret
      exact ⟨ret_int hv.out.symm, rfl⟩
end Go.Proofs.YtjiaepphnddpoaaGreat
