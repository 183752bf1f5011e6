/-
  Own texts for one claim, joined: G16 M10.
-/
import Derived.ChangeKeysEq
import Derived.Deep.QuietTactic
import Derived.BigQuiet
import Derived.Deep.RegionHeld3
import Derived.StillTailTactics
import Derived.Shelf.Abstract
import Derived.Test.YtjiaepphnddpoaaGreatChecked
import Derived.Shelf.Abstract
import Derived.Deep.QuietTactic
import Derived.BigQuiet
import Derived.Deep.RegionHeld3
import Derived.StillTailTactics
import Derived.Deep.AppendLies
import Derived.WalkMore
import Derived.WalkKit
import Derived.WalkSpells
import Derived.WalkLawsBesides
import Derived.Lib.Hide
import Derived.OrdersHeld
import Derived.StillTail
import Derived.StillTailTactics
import Derived.RangeFuncNested
import Derived.RangeFuncBound
import Derived.RangeFuncCalls
import Derived.RangeFuncLeaves
import Derived.Shelf.Abstract
import Derived.Shelf.RegionOpen
import Derived.OwnWalkIn
import Derived.TacticsInMore
import Derived.LoopNIn
import Derived.LoopIn
import Derived.OrdersIn
import Derived.Deep.Quiet
import Derived.Deep.QuietTactic
import Derived.BigQuiet
import Derived.Deep.AppendLies
import Derived.WalkMore
import Derived.Maps.Own
import Derived.Maps.Views
import Derived.WideKeyPair
import Derived.Carry
import Derived.Deep.RegionHeld3
import Derived.Deep.RegionWith
import Derived.BigRegionIn
import Derived.Deep.AppendLies
import Derived.Deep.QuietTactic
import Derived.LoopN
import Derived.Deep.RegionWith
import Derived.BigQuiet
import Derived.Deep.AppendLies
import Derived.Laws.AppendOwnNone
import Derived.Deep.AppendLies
import Derived.Deep.AppendLies
import Derived.Test.YtjiaepphnddpoaaGreatV01
import Derived.Test.YtjiaepphnddpoaaGreatV02
import Derived.Test.YtjiaepphnddpoaaGreatV03
import Derived.Test.YtjiaepphnddpoaaGreatV04
import Derived.Test.YtjiaepphnddpoaaGreatV05
import Derived.Test.YtjiaepphnddpoaaGreatV06
import Derived.Test.YtjiaepphnddpoaaGreatV07
import Derived.Test.YtjiaepphnddpoaaGreatV08
import Derived.Test.YtjiaepphnddpoaaGreatV09
import Derived.Test.YtjiaepphnddpoaaGreatV10
import Derived.Test.YtjiaepphnddpoaaGreatV11
import Derived.Test.YtjiaepphnddpoaaGreatV12
namespace Go.Proofs.YtjiaepphnddpoaaGreat
open Go.RowKit Go.Shelf
set_option linter.unusedSimpArgs false
set_option linter.unusedVariables false
theorem Tryz.infoStr : (Tryz.prog.info? 26).map (fun i => (i.zero, i.size, i.bytes)) = some (some (.agg #[.int .i64 0, .slice none 0 0, .int .i64 0, .int .i64 0, .int .i64 0]), 5, 56) := by kernel_rfl
theorem Tryz.infoBs : (Tryz.prog.info? 27).map (fun i => (i.zero, i.size, i.bytes)) = some (some (.slice none 0 0), 1, 24) := by kernel_rfl
def TlL (w : World) (A : Option Addr) (n c : Nat) (ts : List TlD) : Prop := SlAt w 0 6 TlD.cells A n c ts ∧ ∀ t ∈ ts, StOk w t.t ∧ BdOk w t.b
set_option maxRecDepth 100000 in
set_option maxHeartbeats 2000000 in
theorem split_any (A : Option Addr) (n c : Nat) (ts : List TlD) (w : World) (hA : TlL w A n c ts) (hnb : n * 80 ≤ 140737488355328) :
    Calls Tryz.prog 32 #[.slice A n c] w fun e w' => ∃ P pc Q qc, e = .returned (.tuple #[.slice P n pc, .slice Q n qc]) ∧ SpL w' P n pc (ts.map (·.t)) ∧ BpL w' Q n qc (ts.map (·.b)) ∧ Below w.heap.size w w' := by
  have hlen := Lib.hid hA.1.len
  obtain ⟨is, ish, is0, is1, is2⟩ := info_parts Tryz.infoStr
  obtain ⟨ib, ibh, ib0, ib1, ib2⟩ := info_parts Tryz.infoBs
  replace hA := Lib.hid hA
  go_enter Tryz.func32, Tryz.ntmps32
  go_wp2_with fail
  go_loopw [4, 5, 6] (fun v u i wr => ∃ k : Nat, i = .int .i64 k ∧ k ≤ n ∧ wr.ownsRow w.heap.size 26 5 v k (((ts.take k).map (·.t)).flatMap StD.cells) ∧ wr.ownsRow w.heap.size 27 1 u k (((ts.take k).map (·.b)).flatMap BdD.cells) ∧ (∀ q, v.ownBlock = some q → u.ownBlock = some q → False) ∧ Below w.heap.size w wr) (fun v u i wr => n - (intOf i).toNat)
  case atStart => exact ⟨0, rfl, Nat.zero_le _, ⟨rfl, .inl ⟨rfl, rfl⟩⟩, ⟨rfl, .inl ⟨rfl, rfl⟩⟩, (fun q h => by cases h), Below.refl _ _⟩
  case round =>
    obtain ⟨k, rfl, hk, rv, ru, hvu, hb⟩ := hrel
    by_cases hlt : k < n
    · have hk0 : (0 : Int) ≤ (k : Int) := by omega
      have hk1 : (k : Int) < (n : Int) := by omega
      obtain ⟨x, hx⟩ := some_of_lt hlen.out hlt
      have hvx : ∀ q, u4.ownBlock = some q → w.heap.size ≤ q ∧ q < wr.heap.size := fun q e => rv.lt q e
      have hux : ∀ q, u5.ownBlock = some q → w.heap.size ≤ q ∧ q < wr.heap.size := fun q e => ru.lt q e
      obtain ⟨bL, oL, hA2, -, hbL, z0, z1, z2, z3, z4, z5⟩ := hA.out.1.tld hx
      subst hA2
      have htk : Hid (ts.take (k + 1) = ts.take k ++ [x]) := by show _ = _; rw [List.take_add_one, hx]; rfl
      replace hx := Lib.hid hx
      have hbig1 : Hid (k + 1 ≤ maxLen) := by show k + 1 ≤ maxLen; unfold maxLen; omega
      have hbig2 : Hid ((k + 1) * 56 ≤ 140737488355328) := by show (k + 1) * 56 ≤ 140737488355328; omega
      have hbig3 : Hid ((k + 1) * 24 ≤ 140737488355328) := by show (k + 1) * 24 ≤ 140737488355328; omega
      go_wp2_with fail
      refine wp_held_np (fun w' : World => w'.cell? ⟨bL, oL + k * 6, none⟩ = some (.int .i64 x.t.s.head) ∧ w'.cell? ⟨bL, oL + k * 6 + 1, none⟩ = some (.slice x.t.A x.t.n x.t.c) ∧ w'.cell? ⟨bL, oL + k * 6 + 2, none⟩ = some (.int .i64 x.t.s.lane.lo) ∧ w'.cell? ⟨bL, oL + k * 6 + 3, none⟩ = some (.int .i64 x.t.s.lane.hi) ∧ w'.cell? ⟨bL, oL + k * 6 + 4, none⟩ = some (.int .i64 x.t.s.bend) ∧ w'.cell? ⟨bL, oL + k * 6 + 5, none⟩ = some (.slice x.b.O x.b.n x.b.c)) (by kernel_rfl) ?_
      have hSb : Hid (∀ W', Below w.heap.size wr W' → (fun w' : World => w'.cell? ⟨bL, oL + k * 6, none⟩ = some (.int .i64 x.t.s.head) ∧ w'.cell? ⟨bL, oL + k * 6 + 1, none⟩ = some (.slice x.t.A x.t.n x.t.c) ∧ w'.cell? ⟨bL, oL + k * 6 + 2, none⟩ = some (.int .i64 x.t.s.lane.lo) ∧ w'.cell? ⟨bL, oL + k * 6 + 3, none⟩ = some (.int .i64 x.t.s.lane.hi) ∧ w'.cell? ⟨bL, oL + k * 6 + 4, none⟩ = some (.int .i64 x.t.s.bend) ∧ w'.cell? ⟨bL, oL + k * 6 + 5, none⟩ = some (.slice x.b.O x.b.n x.b.c)) W') := by
        show ∀ _, _
        intro W' hb2
        have hb3 := hb.trans hb2
        have h := hA.out.1.tld hx.out
        exact ⟨(hb3.cell (p := ⟨bL, oL + k * 6, none⟩) hbL).trans z0, (hb3.cell (p := ⟨bL, oL + k * 6 + 1, none⟩) hbL).trans z1, (hb3.cell (p := ⟨bL, oL + k * 6 + 2, none⟩) hbL).trans z2, (hb3.cell (p := ⟨bL, oL + k * 6 + 3, none⟩) hbL).trans z3, (hb3.cell (p := ⟨bL, oL + k * 6 + 4, none⟩) hbL).trans z4, (hb3.cell (p := ⟨bL, oL + k * 6 + 5, none⟩) hbL).trans z5⟩
      clear z0 z1 z2 z3 z4 z5
      have hb9 : Below w.heap.size wr wr.drew := (Below.refl _ _).drew
      have hS := hSb.out _ hb9
      have sbwd : wr.heap.size ≤ wr.drew.heap.size := Nat.le_refl _
      replace rv : wr.drew.ownsRow _ _ _ _ _ _ := rv
      replace ru : wr.drew.ownsRow _ _ _ _ _ _ := ru
      generalize wr.drew = wd at *
      refine held_take (i := 0) (v := ?_) 13 rfl rfl (by kernel_rfl) (by kernel_rfl) (by kernel_rfl) (fun _ _ _ h => h) (Or.inl ⟨by rfl, ?_⟩) hS ?_
      rotate_left 1
      · intro w' hSw
        try dsimp only at hSw
        obtain ⟨z0, z1, z2, z3, z4, z5⟩ := hSw
        go_simp
        all_goals with_reducible rfl
      try simp only [Act.put, List.setIfInBounds_toArray, List.set_cons_zero, List.set_cons_succ]
      refine held_take (i := 1) (v := ?_) 14 rfl rfl (by kernel_rfl) (by kernel_rfl) (by kernel_rfl) (fun _ _ _ h => h) (Or.inl ⟨by rfl, ?_⟩) hS ?_
      rotate_left 1
      · intro w' hSw
        try dsimp only at hSw
        obtain ⟨z0, z1, z2, z3, z4, z5⟩ := hSw
        go_simp
        all_goals with_reducible rfl
      try simp only [Act.put, List.setIfInBounds_toArray, List.set_cons_zero, List.set_cons_succ]
      refine held_take (i := 2) (v := ?_) 15 rfl rfl (by kernel_rfl) (by kernel_rfl) (by kernel_rfl) (fun _ _ _ h => h) (Or.inl ⟨by rfl, ?_⟩) hS ?_
      rotate_left 1
      · intro w' hSw
        try dsimp only at hSw
        obtain ⟨z0, z1, z2, z3, z4, z5⟩ := hSw
        go_simp
        all_goals with_reducible rfl
      try simp only [Act.put, List.setIfInBounds_toArray, List.set_cons_zero, List.set_cons_succ]
      refine held_take (i := 3) (v := ?_) 16 rfl rfl (by kernel_rfl) (by kernel_rfl) (by kernel_rfl) (fun _ _ _ h => h) (Or.inl ⟨by rfl, ?_⟩) hS ?_
      rotate_left 1
      · intro w' hSw
        try dsimp only at hSw
        obtain ⟨z0, z1, z2, z3, z4, z5⟩ := hSw
        go_simp
        all_goals with_reducible rfl
      try simp only [Act.put, List.setIfInBounds_toArray, List.set_cons_zero, List.set_cons_succ]
      refine held_take (i := 4) (v := ?_) 17 rfl rfl (by kernel_rfl) (by kernel_rfl) (by kernel_rfl) (fun _ _ _ h => h) (Or.inl ⟨by rfl, ?_⟩) hS ?_
      rotate_left 1
      · intro w' hSw
        try dsimp only at hSw
        obtain ⟨z0, z1, z2, z3, z4, z5⟩ := hSw
        go_simp
        all_goals with_reducible rfl
      try simp only [Act.put, List.setIfInBounds_toArray, List.set_cons_zero, List.set_cons_succ]
      refine held_take (i := 5) (v := ?_) 18 rfl rfl (by kernel_rfl) (by kernel_rfl) (by kernel_rfl) (fun _ _ _ h => h) (Or.inl ⟨by rfl, ?_⟩) hS ?_
      rotate_left 1
      · intro w' hSw
        try dsimp only at hSw
        obtain ⟨z0, z1, z2, z3, z4, z5⟩ := hSw
        go_simp
        all_goals with_reducible rfl
      try simp only [Act.put, List.setIfInBounds_toArray, List.set_cons_zero, List.set_cons_succ]
      refine held_take (i := 8) (v := ?_) 21 rfl rfl (by kernel_rfl) (by kernel_rfl) (by kernel_rfl) (fun _ _ _ h => h) (Or.inl ⟨by rfl, ?_⟩) hS ?_
      rotate_left 1
      · intro w' hSw
        try dsimp only at hSw
        obtain ⟨z0, z1, z2, z3, z4, z5⟩ := hSw
        go_simp
        all_goals with_reducible rfl
      try simp only [Act.put, List.setIfInBounds_toArray, List.set_cons_zero, List.set_cons_succ]
      refine held_take (i := 9) (v := ?_) 22 rfl rfl (by kernel_rfl) (by kernel_rfl) (by kernel_rfl) (fun _ _ _ h => h) (Or.inl ⟨by rfl, ?_⟩) hS ?_
      rotate_left 1
      · intro w' hSw
        try dsimp only at hSw
        obtain ⟨z0, z1, z2, z3, z4, z5⟩ := hSw
        go_simp
        all_goals with_reducible rfl
      try simp only [Act.put, List.setIfInBounds_toArray, List.set_cons_zero, List.set_cons_succ]
      refine held_take (i := 10) (v := ?_) 23 rfl rfl (by kernel_rfl) (by kernel_rfl) (by kernel_rfl) (fun _ _ _ h => h) (Or.inl ⟨by rfl, ?_⟩) hS ?_
      rotate_left 1
      · intro w' hSw
        try dsimp only at hSw
        obtain ⟨z0, z1, z2, z3, z4, z5⟩ := hSw
        go_simp
        all_goals with_reducible rfl
      try simp only [Act.put, List.setIfInBounds_toArray, List.set_cons_zero, List.set_cons_succ]
      refine held_take (i := 11) (v := ?_) 24 rfl rfl (by kernel_rfl) (by kernel_rfl) (by kernel_rfl) (fun _ _ _ h => h) (Or.inl ⟨by rfl, ?_⟩) hS ?_
      rotate_left 1
      · intro w' hSw
        try dsimp only at hSw
        obtain ⟨z0, z1, z2, z3, z4, z5⟩ := hSw
        go_simp
        all_goals with_reducible rfl
      try simp only [Act.put, List.setIfInBounds_toArray, List.set_cons_zero, List.set_cons_succ]
      refine held_take (i := 12) (v := ?_) 25 rfl rfl (by kernel_rfl) (by kernel_rfl) (by kernel_rfl) (fun _ _ _ h => h) (Or.inl ⟨by rfl, ?_⟩) hS ?_
      rotate_left 1
      · intro w' hSw
        try dsimp only at hSw
        obtain ⟨z0, z1, z2, z3, z4, z5⟩ := hSw
        go_simp
        all_goals with_reducible rfl
      try simp only [Act.put, List.setIfInBounds_toArray, List.set_cons_zero, List.set_cons_succ]
      refine held_take (i := 13) (v := ?_) 26 rfl rfl (by kernel_rfl) (by kernel_rfl) (by kernel_rfl) (fun _ _ _ h => h) (Or.inl ⟨by rfl, ?_⟩) hS ?_
      rotate_left 1
      · intro w' hSw
        try dsimp only at hSw
        obtain ⟨z0, z1, z2, z3, z4, z5⟩ := hSw
        go_simp
        all_goals with_reducible rfl
      try simp only [Act.put, List.setIfInBounds_toArray, List.set_cons_zero, List.set_cons_succ]
      clear hS
      refine wpAnyH_fin (f := fun a (q : Value × Value × Value × Value) => (((((a.put (some 19) q.1).put (some 20) q.2.1).put (some 27) q.2.2.1).put (some 28) q.2.2.2).put (some 4) q.2.1).put (some 5) q.2.2.2) (B := fun q W' => W'.ownsRow w.heap.size 26 5 q.2.1 (k + 1) (((ts.take k).map (·.t)).flatMap StD.cells ++ x.t.cells) ∧ W'.ownsRow w.heap.size 27 1 q.2.2.2 (k + 1) (((ts.take k).map (·.b)).flatMap BdD.cells ++ x.b.cells) ∧ (∀ p, q.2.1.ownBlock = some p → q.2.2.2.ownBlock = some p → False) ∧ Below w.heap.size wr W') ?_ (fun hrest => ?_)
      · rintro ⟨v19, v20, v27, v28⟩ W3 ⟨ha1, ha2, ha3, ha4⟩
        try simp only [Act.put, List.setIfInBounds_toArray, List.set_cons_zero, List.set_cons_succ]
        refine noPanic_normal ?_
        clear hSb hb9
        go_wp2_with fail
        go_roundw
        case rel =>
          refine ⟨k + 1, by go_num, by omega, ?_, ?_, ha3, hb.trans ha4⟩
          · rw [htk.out, List.map_append, List.flatMap_append]; simpa using ha1
          · rw [htk.out, List.map_append, List.flatMap_append]; simpa using ha2
        case measure => simp [intOf]; omega
      · try simp only [Act.put, List.setIfInBounds_toArray, List.set_cons_zero, List.set_cons_succ] at hrest
        refine held_two (i := 6) (j := 14) (by kernel_rfl) rfl rfl rfl rfl (fun K hK => ?_) (fun K hK => ?_)
        · skip
          go_simp
          have n6 := Blk.new wd 26 #[Value.int .i64 x.t.s.head, .slice x.t.A x.t.n x.t.c, .int .i64 x.t.s.lane.lo, .int .i64 x.t.s.lane.hi, .int .i64 x.t.s.bend]
          have hbel := (Below.refl wd.heap.size wd).alloc (Nat.le_refl _) (.cells #[Value.int .i64 x.t.s.head, .slice x.t.A x.t.n x.t.c, .int .i64 x.t.s.lane.lo, .int .i64 x.t.s.lane.hi, .int .i64 x.t.s.bend] 26)
          have szB : wd.heap.size < (wd.alloc (.cells #[Value.int .i64 x.t.s.head, .slice x.t.A x.t.n x.t.c, .int .i64 x.t.s.lane.lo, .int .i64 x.t.s.lane.hi, .int .i64 x.t.s.bend] 26)).heap.size := by rw [World.size_alloc]; omega
          generalize wd.alloc (.cells #[Value.int .i64 x.t.s.head, .slice x.t.A x.t.n x.t.c, .int .i64 x.t.s.lane.lo, .int .i64 x.t.s.lane.hi, .int .i64 x.t.s.bend] 26) = X1 at *
          have szX1 : wd.heap.size < X1.heap.size := szB
          clear szB
          try replace n6 := n6.below hbel
          try replace n14 := n14.below hbel
          try replace rv := ownsRow_below rv hbel
          try replace ru := ownsRow_below ru hbel
          try replace r7 := ownsRow_below r7 hbel
          replace hb9 := hb9.trans (hbel.mono (Nat.le_trans hb.size sbwd))
          clear hbel
          have sbX1 := Nat.le_trans sbwd (Nat.le_of_lt szX1)
          refine hK _ _ (hSb.out _ hb9) ?_
          clear hK K
          try simp only [Act.put, List.setIfInBounds_toArray, List.set_cons_zero, List.set_cons_succ]
          have hg6 : wr.heap.size ≤ wd.heap.size := sbwd
          generalize hge6 : wd.heap.size = g6 at n6 hg6
          refine held_two (i := 7) (j := 14) (by kernel_rfl) rfl rfl rfl rfl (fun K hK => ?_) (fun K hK => ?_)
          · skip
            refine wp_append_lies _ _ _ 70 (by rfl) w.heap.size 26 is (.agg #[.int .i64 0, .slice none 0 0, .int .i64 0, .int .i64 0, .int .i64 0]) 5 56 Tryz.underlying70 ish is0 is1 is2 rfl (by omega) u4 k (((ts.take k).map (·.t)).flatMap StD.cells) (by rfl) rv ⟨g6, 0, none⟩ 1 1 x.t.cells (by rfl) rfl (World.news_of_block (cs := #[Value.int .i64 x.t.s.head, .slice x.t.A x.t.n x.t.c, .int .i64 x.t.s.lane.lo, .int .i64 x.t.s.lane.hi, .int .i64 x.t.s.bend]) n6) (by simp [Value.oneCell', StD.cells, BdD.cells]) (by omega) hbig1.out hbig2.out (Nat.le_trans hb.size sbX1) X1.heap.size rfl ?_
            intro b7 c7 X2 r7 hgrow hlies7 hlt7
            have hbx : Below w.heap.size X1 X2 := ⟨hgrow.os, hgrow.tape, hgrow.output, hgrow.size, fun b hb2 => hgrow.block b (Nat.lt_of_lt_of_le hb2 (Nat.le_trans hb.size sbX1)) (fun e => by have := hvx _ e.symm; omega)⟩
            have sbX2 := Nat.le_trans sbX1 hgrow.size
            replace ru := ru.kept hgrow (by
              by_cases h0 : u5.ownBlock = none
              · exact .inl h0
              · obtain ⟨q, hq⟩ := Option.ne_none_iff_exists'.1 h0
                exact .inr (fun e => hvu q (by rw [← e]; exact hq) hq))
            try replace n14 := n14.grown hgrow (fun e => by have := hvx _ e.symm; omega)
            have hd7 : u5.ownBlock ≠ some b7 := fun e => by
              rcases hlies7 with h | h
              · exact hvu _ h e
              · have := hux _ e; omega
            replace hb9 := hb9.trans hbx
            clear hbx hgrow
            refine hK _ _ (hSb.out _ hb9) ?_
            clear hK K
            try simp only [Act.put, List.setIfInBounds_toArray, List.set_cons_zero, List.set_cons_succ]
            refine held_one (i := 14) (by kernel_rfl) rfl rfl (fun K hK => ?_)
            go_simp
            have n14 := Blk.new X2 27 #[Value.slice x.b.O x.b.n x.b.c]
            have hbel := (Below.refl X2.heap.size X2).alloc (Nat.le_refl _) (.cells #[Value.slice x.b.O x.b.n x.b.c] 27)
            have szB : X2.heap.size < (X2.alloc (.cells #[Value.slice x.b.O x.b.n x.b.c] 27)).heap.size := by rw [World.size_alloc]; omega
            generalize X2.alloc (.cells #[Value.slice x.b.O x.b.n x.b.c] 27) = X3 at *
            have szX3 : X2.heap.size < X3.heap.size := szB
            clear szB
            try replace n6 := n6.below hbel
            try replace n14 := n14.below hbel
            try replace rv := ownsRow_below rv hbel
            try replace ru := ownsRow_below ru hbel
            try replace r7 := ownsRow_below r7 hbel
            replace hb9 := hb9.trans (hbel.mono (Nat.le_trans hb.size sbX2))
            clear hbel
            have sbX3 := Nat.le_trans sbX2 (Nat.le_of_lt szX3)
            refine hK _ _ (hSb.out _ hb9) ?_
            clear hK K
            try simp only [Act.put, List.setIfInBounds_toArray, List.set_cons_zero, List.set_cons_succ]
            have hg14 : wr.heap.size ≤ X2.heap.size := sbX2
            generalize hge14 : X2.heap.size = g14 at n14 hg14
            refine held_one (i := 15) (by kernel_rfl) rfl rfl (fun K hK => ?_)
            refine wp_append_lies _ _ _ 71 (by rfl) w.heap.size 27 ib (.slice none 0 0) 1 24 Tryz.underlying71 ibh ib0 ib1 ib2 rfl (by omega) u5 k (((ts.take k).map (·.b)).flatMap BdD.cells) (by rfl) ru ⟨g14, 0, none⟩ 1 1 x.b.cells (by rfl) rfl (World.news_of_block (cs := #[Value.slice x.b.O x.b.n x.b.c]) n14) (by simp [Value.oneCell', StD.cells, BdD.cells]) (by omega) hbig1.out hbig3.out (Nat.le_trans hb.size sbX3) X3.heap.size rfl ?_
            intro b15 c15 X4 r15 hgrow hlies15 hlt15
            have hbx : Below w.heap.size X3 X4 := ⟨hgrow.os, hgrow.tape, hgrow.output, hgrow.size, fun b hb2 => hgrow.block b (Nat.lt_of_lt_of_le hb2 (Nat.le_trans hb.size sbX3)) (fun e => by have := hux _ e.symm; omega)⟩
            have sbX4 := Nat.le_trans sbX3 hgrow.size
            have hlt7b := r7.lt b7 rfl
            have hd15 : b7 ≠ b15 := fun e => by
              rcases hlies15 with h | h
              · exact hd7 (by rw [e]; exact h)
              · omega
            replace r7 := r7.kept hgrow (.inr (fun e => hd7 (by rw [← e]; rfl)))
            replace hb9 := hb9.trans hbx
            clear hbx hgrow
            refine hK _ _ (hSb.out _ hb9) ?_
            clear hK K
            try simp only [Act.put, List.setIfInBounds_toArray, List.set_cons_zero, List.set_cons_succ]
            have hS := hSb.out _ hb9
            refine held_take (i := 16) (v := ?_) 4 rfl rfl (by kernel_rfl) (by kernel_rfl) (by kernel_rfl) (fun _ _ _ h => h) (Or.inl ⟨by rfl, ?_⟩) hS ?_
            rotate_left 1
            · intro w' hSw
              try dsimp only at hSw
              obtain ⟨z0, z1, z2, z3, z4, z5⟩ := hSw
              go_simp
              all_goals with_reducible rfl
            try simp only [Act.put, List.setIfInBounds_toArray, List.set_cons_zero, List.set_cons_succ]
            refine held_take (i := 17) (v := ?_) 5 rfl rfl (by kernel_rfl) (by kernel_rfl) (by kernel_rfl) (fun _ _ _ h => h) (Or.inl ⟨by rfl, ?_⟩) hS ?_
            rotate_left 1
            · intro w' hSw
              try dsimp only at hSw
              obtain ⟨z0, z1, z2, z3, z4, z5⟩ := hSw
              go_simp
              all_goals with_reducible rfl
            try simp only [Act.put, List.setIfInBounds_toArray, List.set_cons_zero, List.set_cons_succ]
            refine wpAnyH_done (by kernel_rfl) (hrest (_, _, _, _) _ ⟨r7, r15, (by intro q h1 h2; simp only [Value.ownBlock, Option.some.injEq] at h1 h2; omega), hb9⟩) _
          · skip
            go_simp
            have n14 := Blk.new X1 27 #[Value.slice x.b.O x.b.n x.b.c]
            have hbel := (Below.refl X1.heap.size X1).alloc (Nat.le_refl _) (.cells #[Value.slice x.b.O x.b.n x.b.c] 27)
            have szB : X1.heap.size < (X1.alloc (.cells #[Value.slice x.b.O x.b.n x.b.c] 27)).heap.size := by rw [World.size_alloc]; omega
            generalize X1.alloc (.cells #[Value.slice x.b.O x.b.n x.b.c] 27) = X5 at *
            have szX5 : X1.heap.size < X5.heap.size := szB
            clear szB
            try replace n6 := n6.below hbel
            try replace n14 := n14.below hbel
            try replace rv := ownsRow_below rv hbel
            try replace ru := ownsRow_below ru hbel
            try replace r7 := ownsRow_below r7 hbel
            replace hb9 := hb9.trans (hbel.mono (Nat.le_trans hb.size sbX1))
            clear hbel
            have sbX5 := Nat.le_trans sbX1 (Nat.le_of_lt szX5)
            refine hK _ _ (hSb.out _ hb9) ?_
            clear hK K
            try simp only [Act.put, List.setIfInBounds_toArray, List.set_cons_zero, List.set_cons_succ]
            have hg14 : wr.heap.size ≤ X1.heap.size := sbX1
            generalize hge14 : X1.heap.size = g14 at n14 hg14
            refine held_one (i := 7) (by kernel_rfl) rfl rfl (fun K hK => ?_)
            refine wp_append_lies _ _ _ 70 (by rfl) w.heap.size 26 is (.agg #[.int .i64 0, .slice none 0 0, .int .i64 0, .int .i64 0, .int .i64 0]) 5 56 Tryz.underlying70 ish is0 is1 is2 rfl (by omega) u4 k (((ts.take k).map (·.t)).flatMap StD.cells) (by rfl) rv ⟨g6, 0, none⟩ 1 1 x.t.cells (by rfl) rfl (World.news_of_block (cs := #[Value.int .i64 x.t.s.head, .slice x.t.A x.t.n x.t.c, .int .i64 x.t.s.lane.lo, .int .i64 x.t.s.lane.hi, .int .i64 x.t.s.bend]) n6) (by simp [Value.oneCell', StD.cells, BdD.cells]) (by omega) hbig1.out hbig2.out (Nat.le_trans hb.size sbX5) X5.heap.size rfl ?_
            intro b7 c7 X6 r7 hgrow hlies7 hlt7
            have hbx : Below w.heap.size X5 X6 := ⟨hgrow.os, hgrow.tape, hgrow.output, hgrow.size, fun b hb2 => hgrow.block b (Nat.lt_of_lt_of_le hb2 (Nat.le_trans hb.size sbX5)) (fun e => by have := hvx _ e.symm; omega)⟩
            have sbX6 := Nat.le_trans sbX5 hgrow.size
            replace ru := ru.kept hgrow (by
              by_cases h0 : u5.ownBlock = none
              · exact .inl h0
              · obtain ⟨q, hq⟩ := Option.ne_none_iff_exists'.1 h0
                exact .inr (fun e => hvu q (by rw [← e]; exact hq) hq))
            try replace n14 := n14.grown hgrow (fun e => by have := hvx _ e.symm; omega)
            have hd7 : u5.ownBlock ≠ some b7 := fun e => by
              rcases hlies7 with h | h
              · exact hvu _ h e
              · have := hux _ e; omega
            replace hb9 := hb9.trans hbx
            clear hbx hgrow
            refine hK _ _ (hSb.out _ hb9) ?_
            clear hK K
            try simp only [Act.put, List.setIfInBounds_toArray, List.set_cons_zero, List.set_cons_succ]
            refine held_one (i := 15) (by kernel_rfl) rfl rfl (fun K hK => ?_)
            refine wp_append_lies _ _ _ 71 (by rfl) w.heap.size 27 ib (.slice none 0 0) 1 24 Tryz.underlying71 ibh ib0 ib1 ib2 rfl (by omega) u5 k (((ts.take k).map (·.b)).flatMap BdD.cells) (by rfl) ru ⟨g14, 0, none⟩ 1 1 x.b.cells (by rfl) rfl (World.news_of_block (cs := #[Value.slice x.b.O x.b.n x.b.c]) n14) (by simp [Value.oneCell', StD.cells, BdD.cells]) (by omega) hbig1.out hbig3.out (Nat.le_trans hb.size sbX6) X6.heap.size rfl ?_
            intro b15 c15 X7 r15 hgrow hlies15 hlt15
            have hbx : Below w.heap.size X6 X7 := ⟨hgrow.os, hgrow.tape, hgrow.output, hgrow.size, fun b hb2 => hgrow.block b (Nat.lt_of_lt_of_le hb2 (Nat.le_trans hb.size sbX6)) (fun e => by have := hux _ e.symm; omega)⟩
            have sbX7 := Nat.le_trans sbX6 hgrow.size
            have hlt7b := r7.lt b7 rfl
            have hd15 : b7 ≠ b15 := fun e => by
              rcases hlies15 with h | h
              · exact hd7 (by rw [e]; exact h)
              · omega
            replace r7 := r7.kept hgrow (.inr (fun e => hd7 (by rw [← e]; rfl)))
            replace hb9 := hb9.trans hbx
            clear hbx hgrow
            refine hK _ _ (hSb.out _ hb9) ?_
            clear hK K
            try simp only [Act.put, List.setIfInBounds_toArray, List.set_cons_zero, List.set_cons_succ]
            have hS := hSb.out _ hb9
            refine held_take (i := 16) (v := ?_) 4 rfl rfl (by kernel_rfl) (by kernel_rfl) (by kernel_rfl) (fun _ _ _ h => h) (Or.inl ⟨by rfl, ?_⟩) hS ?_
            rotate_left 1
            · intro w' hSw
              try dsimp only at hSw
              obtain ⟨z0, z1, z2, z3, z4, z5⟩ := hSw
              go_simp
              all_goals with_reducible rfl
            try simp only [Act.put, List.setIfInBounds_toArray, List.set_cons_zero, List.set_cons_succ]
            refine held_take (i := 17) (v := ?_) 5 rfl rfl (by kernel_rfl) (by kernel_rfl) (by kernel_rfl) (fun _ _ _ h => h) (Or.inl ⟨by rfl, ?_⟩) hS ?_
            rotate_left 1
            · intro w' hSw
              try dsimp only at hSw
              obtain ⟨z0, z1, z2, z3, z4, z5⟩ := hSw
              go_simp
              all_goals with_reducible rfl
            try simp only [Act.put, List.setIfInBounds_toArray, List.set_cons_zero, List.set_cons_succ]
            refine wpAnyH_done (by kernel_rfl) (hrest (_, _, _, _) _ ⟨r7, r15, (by intro q h1 h2; simp only [Value.ownBlock, Option.some.injEq] at h1 h2; omega), hb9⟩) _
        · skip
          go_simp
          have n14 := Blk.new wd 27 #[Value.slice x.b.O x.b.n x.b.c]
          have hbel := (Below.refl wd.heap.size wd).alloc (Nat.le_refl _) (.cells #[Value.slice x.b.O x.b.n x.b.c] 27)
          have szB : wd.heap.size < (wd.alloc (.cells #[Value.slice x.b.O x.b.n x.b.c] 27)).heap.size := by rw [World.size_alloc]; omega
          generalize wd.alloc (.cells #[Value.slice x.b.O x.b.n x.b.c] 27) = X8 at *
          have szX8 : wd.heap.size < X8.heap.size := szB
          clear szB
          try replace n6 := n6.below hbel
          try replace n14 := n14.below hbel
          try replace rv := ownsRow_below rv hbel
          try replace ru := ownsRow_below ru hbel
          try replace r7 := ownsRow_below r7 hbel
          replace hb9 := hb9.trans (hbel.mono (Nat.le_trans hb.size sbwd))
          clear hbel
          have sbX8 := Nat.le_trans sbwd (Nat.le_of_lt szX8)
          refine hK _ _ (hSb.out _ hb9) ?_
          clear hK K
          try simp only [Act.put, List.setIfInBounds_toArray, List.set_cons_zero, List.set_cons_succ]
          have hg14 : wr.heap.size ≤ wd.heap.size := sbwd
          generalize hge14 : wd.heap.size = g14 at n14 hg14
          refine held_one (i := 6) (by kernel_rfl) rfl rfl (fun K hK => ?_)
          go_simp
          have n6 := Blk.new X8 26 #[Value.int .i64 x.t.s.head, .slice x.t.A x.t.n x.t.c, .int .i64 x.t.s.lane.lo, .int .i64 x.t.s.lane.hi, .int .i64 x.t.s.bend]
          have hbel := (Below.refl X8.heap.size X8).alloc (Nat.le_refl _) (.cells #[Value.int .i64 x.t.s.head, .slice x.t.A x.t.n x.t.c, .int .i64 x.t.s.lane.lo, .int .i64 x.t.s.lane.hi, .int .i64 x.t.s.bend] 26)
          have szB : X8.heap.size < (X8.alloc (.cells #[Value.int .i64 x.t.s.head, .slice x.t.A x.t.n x.t.c, .int .i64 x.t.s.lane.lo, .int .i64 x.t.s.lane.hi, .int .i64 x.t.s.bend] 26)).heap.size := by rw [World.size_alloc]; omega
          generalize X8.alloc (.cells #[Value.int .i64 x.t.s.head, .slice x.t.A x.t.n x.t.c, .int .i64 x.t.s.lane.lo, .int .i64 x.t.s.lane.hi, .int .i64 x.t.s.bend] 26) = X9 at *
          have szX9 : X8.heap.size < X9.heap.size := szB
          clear szB
          try replace n6 := n6.below hbel
          try replace n14 := n14.below hbel
          try replace rv := ownsRow_below rv hbel
          try replace ru := ownsRow_below ru hbel
          try replace r7 := ownsRow_below r7 hbel
          replace hb9 := hb9.trans (hbel.mono (Nat.le_trans hb.size sbX8))
          clear hbel
          have sbX9 := Nat.le_trans sbX8 (Nat.le_of_lt szX9)
          refine hK _ _ (hSb.out _ hb9) ?_
          clear hK K
          try simp only [Act.put, List.setIfInBounds_toArray, List.set_cons_zero, List.set_cons_succ]
          have hg6 : wr.heap.size ≤ X8.heap.size := sbX8
          generalize hge6 : X8.heap.size = g6 at n6 hg6
          refine held_one (i := 7) (by kernel_rfl) rfl rfl (fun K hK => ?_)
          refine wp_append_lies _ _ _ 70 (by rfl) w.heap.size 26 is (.agg #[.int .i64 0, .slice none 0 0, .int .i64 0, .int .i64 0, .int .i64 0]) 5 56 Tryz.underlying70 ish is0 is1 is2 rfl (by omega) u4 k (((ts.take k).map (·.t)).flatMap StD.cells) (by rfl) rv ⟨g6, 0, none⟩ 1 1 x.t.cells (by rfl) rfl (World.news_of_block (cs := #[Value.int .i64 x.t.s.head, .slice x.t.A x.t.n x.t.c, .int .i64 x.t.s.lane.lo, .int .i64 x.t.s.lane.hi, .int .i64 x.t.s.bend]) n6) (by simp [Value.oneCell', StD.cells, BdD.cells]) (by omega) hbig1.out hbig2.out (Nat.le_trans hb.size sbX9) X9.heap.size rfl ?_
          intro b7 c7 X10 r7 hgrow hlies7 hlt7
          have hbx : Below w.heap.size X9 X10 := ⟨hgrow.os, hgrow.tape, hgrow.output, hgrow.size, fun b hb2 => hgrow.block b (Nat.lt_of_lt_of_le hb2 (Nat.le_trans hb.size sbX9)) (fun e => by have := hvx _ e.symm; omega)⟩
          have sbX10 := Nat.le_trans sbX9 hgrow.size
          replace ru := ru.kept hgrow (by
            by_cases h0 : u5.ownBlock = none
            · exact .inl h0
            · obtain ⟨q, hq⟩ := Option.ne_none_iff_exists'.1 h0
              exact .inr (fun e => hvu q (by rw [← e]; exact hq) hq))
          try replace n14 := n14.grown hgrow (fun e => by have := hvx _ e.symm; omega)
          have hd7 : u5.ownBlock ≠ some b7 := fun e => by
            rcases hlies7 with h | h
            · exact hvu _ h e
            · have := hux _ e; omega
          replace hb9 := hb9.trans hbx
          clear hbx hgrow
          refine hK _ _ (hSb.out _ hb9) ?_
          clear hK K
          try simp only [Act.put, List.setIfInBounds_toArray, List.set_cons_zero, List.set_cons_succ]
          refine held_one (i := 15) (by kernel_rfl) rfl rfl (fun K hK => ?_)
          refine wp_append_lies _ _ _ 71 (by rfl) w.heap.size 27 ib (.slice none 0 0) 1 24 Tryz.underlying71 ibh ib0 ib1 ib2 rfl (by omega) u5 k (((ts.take k).map (·.b)).flatMap BdD.cells) (by rfl) ru ⟨g14, 0, none⟩ 1 1 x.b.cells (by rfl) rfl (World.news_of_block (cs := #[Value.slice x.b.O x.b.n x.b.c]) n14) (by simp [Value.oneCell', StD.cells, BdD.cells]) (by omega) hbig1.out hbig3.out (Nat.le_trans hb.size sbX10) X10.heap.size rfl ?_
          intro b15 c15 X11 r15 hgrow hlies15 hlt15
          have hbx : Below w.heap.size X10 X11 := ⟨hgrow.os, hgrow.tape, hgrow.output, hgrow.size, fun b hb2 => hgrow.block b (Nat.lt_of_lt_of_le hb2 (Nat.le_trans hb.size sbX10)) (fun e => by have := hux _ e.symm; omega)⟩
          have sbX11 := Nat.le_trans sbX10 hgrow.size
          have hlt7b := r7.lt b7 rfl
          have hd15 : b7 ≠ b15 := fun e => by
            rcases hlies15 with h | h
            · exact hd7 (by rw [e]; exact h)
            · omega
          replace r7 := r7.kept hgrow (.inr (fun e => hd7 (by rw [← e]; rfl)))
          replace hb9 := hb9.trans hbx
          clear hbx hgrow
          refine hK _ _ (hSb.out _ hb9) ?_
          clear hK K
          try simp only [Act.put, List.setIfInBounds_toArray, List.set_cons_zero, List.set_cons_succ]
          have hS := hSb.out _ hb9
          refine held_take (i := 16) (v := ?_) 4 rfl rfl (by kernel_rfl) (by kernel_rfl) (by kernel_rfl) (fun _ _ _ h => h) (Or.inl ⟨by rfl, ?_⟩) hS ?_
          rotate_left 1
          · intro w' hSw
            try dsimp only at hSw
            obtain ⟨z0, z1, z2, z3, z4, z5⟩ := hSw
            go_simp
            all_goals with_reducible rfl
          try simp only [Act.put, List.setIfInBounds_toArray, List.set_cons_zero, List.set_cons_succ]
          refine held_take (i := 17) (v := ?_) 5 rfl rfl (by kernel_rfl) (by kernel_rfl) (by kernel_rfl) (fun _ _ _ h => h) (Or.inl ⟨by rfl, ?_⟩) hS ?_
          rotate_left 1
          · intro w' hSw
            try dsimp only at hSw
            obtain ⟨z0, z1, z2, z3, z4, z5⟩ := hSw
            go_simp
            all_goals with_reducible rfl
          try simp only [Act.put, List.setIfInBounds_toArray, List.set_cons_zero, List.set_cons_succ]
          refine wpAnyH_done (by kernel_rfl) (hrest (_, _, _, _) _ ⟨r7, r15, (by intro q h1 h2; simp only [Value.ownBlock, Option.some.injEq] at h1 h2; omega), hb9⟩) _
    · obtain rfl : n = k := by omega
      rw [List.take_of_length_le (by rw [hlen.out]; exact Nat.le_refl _)] at rv ru
      obtain ⟨P, pc, rfl, hP⟩ := SlAt.of_own (enc := StD.cells) rv (by omega) (ts.map (·.t)) rfl (fun _ => rfl) (by rw [List.length_map, hlen.out])
      obtain ⟨Q, qc, rfl, hQ⟩ := SlAt.of_own (enc := BdD.cells) ru (by omega) (ts.map (·.b)) rfl (fun _ => rfl) (by rw [List.length_map, hlen.out])
      clear rv ru hvu
      go_wp2
      go_ret2
      refine ⟨P, pc, Q, qc, rfl, ⟨hP.mono (Nat.zero_le _), ?_⟩, ⟨hQ.mono (Nat.zero_le _), ?_⟩, hb⟩
      · intro d hd
        obtain ⟨t, ht, rfl⟩ := List.mem_map.1 hd
        exact SlAt.below (hA.out.2 t ht).1 hb
      · intro d hd
        obtain ⟨t, ht, rfl⟩ := List.mem_map.1 hd
        exact SlAt.below (hA.out.2 t ht).2 hb
end Go.Proofs.YtjiaepphnddpoaaGreat
namespace Go.Proofs.YtjiaepphnddpoaaGreat
open Go.RowKit Go.Shelf
set_option linter.unusedSimpArgs false
set_option linter.unusedVariables false
def nAt (ds : List StD) (bss : List (List Bnd)) (k : Nat) : List Reg := match ds[k]?, bss[k]? with | some d, some b => nodesL d.s b | _, _ => []
def pairH (ds : List StD) (bss : List (List Bnd)) (v : Int) (i k : Nat) : Bool := decide ((appS (nAt ds bss i) (nAt ds bss k)).lo < v * v)
def hitJ (ds : List StD) (v : Int) (bss : List (List Bnd)) : Bool := (List.range ds.length).any fun a => (List.range a).any fun k => pairH ds bss v a k
def stepB (ds : List StD) (bss : List (List Bnd)) (x : Bnd) : List (List Bnd) := List.zipWith (fun d b => encL d.s b x) ds bss
def stAt (ds : List StD) (bss : List (List Bnd)) (ws : List Wat) (j : Nat) : List (List Bnd) := (ws.take j).foldl (fun b x => stepB ds b x.acr) bss
def tanS (ds : List StD) (bss : List (List Bnd)) (ws : List Wat) (v : Int) : Int := fstN (fun j => hitJ ds v (stAt ds bss ws j)) (ws.length + 1)
def tangR (ds : List StD) (es : List BdD) (ws : List Wat) (v : Int) : Int × Int :=
  if sprOk ds es = true then (if chkWats ws = 0 then (if 0 ≤ v ∧ v ≤ 32768 then (tanS ds (es.map (·.bs)) ws v, 0) else (0, 7)) else (0, chkWats ws)) else (0, 36)
theorem stAt_succ (ds : List StD) (bss : List (List Bnd)) {ws : List Wat} {j : Nat} {x : Wat} (h : ws[j]? = some x) : stAt ds bss ws (j + 1) = stepB ds (stAt ds bss ws j) x.acr := by
  unfold stAt
  rw [List.take_add_one, h, List.foldl_append]; rfl
theorem hit_true {ds : List StD} {bss : List (List Bnd)} {v : Int} {a k : Nat} (ha : a < ds.length) (hk : k < a) (h : pairH ds bss v a k = true) : hitJ ds v bss = true :=
  List.any_eq_true.2 ⟨a, List.mem_range.2 ha, List.any_eq_true.2 ⟨k, List.mem_range.2 hk, h⟩⟩
theorem hit_false {ds : List StD} {bss : List (List Bnd)} {v : Int} (h : ∀ a, a < ds.length → ∀ k, k < a → pairH ds bss v a k = false) : hitJ ds v bss = false := by
  unfold hitJ
  rw [List.any_eq_false]
  intro a ha
  rw [Bool.not_eq_true, List.any_eq_false]
  intro k hk
  rw [h a (List.mem_range.1 ha) k (List.mem_range.1 hk)]; simp
def okT (ds : List StD) (bss : List (List Bnd)) : Prop := bss.length = ds.length ∧ ∀ (i : Nat) (d : StD) (b : List Bnd), ds[i]? = some d → bss[i]? = some b → okStrm d.s = true ∧ okOffs d.s b = true
theorem okT_step {ds : List StD} {bss : List (List Bnd)} {x : Bnd} (h : okT ds bss) (hx : okBnd 100 x = true) : okT ds (stepB ds bss x) := by
  refine ⟨by unfold stepB; rw [List.length_zipWith, h.1]; omega, fun i d b hd hb => ?_⟩
  unfold stepB at hb
  rw [List.getElem?_zipWith, hd] at hb
  cases hb0 : bss[i]? with
  | none => rw [hb0] at hb; cases hb
  | some b0 =>
    rw [hb0] at hb
    simp only [Option.some.injEq] at hb
    subst hb
    obtain ⟨h1, h2⟩ := h.2 i d b0 hd hb0
    exact ⟨h1, encL_ok h1 h2 hx⟩
theorem okT_at {ds : List StD} {bss : List (List Bnd)} {ws : List Wat} (h : okT ds bss) (hw : okWats ws = true) : ∀ j, okT ds (stAt ds bss ws j) := by
  have hw2 : ∀ x ∈ ws, okBnd 100 x.acr = true := fun x hx => by
    unfold okWats at hw
    simp only [Bool.and_eq_true] at hw
    have := List.all_eq_true.1 hw.2 x hx
    unfold okWat at this
    simp only [Bool.and_eq_true] at this
    exact this.1
  intro j
  unfold stAt
  have : ∀ (L : List Wat) (b : List (List Bnd)), (∀ x ∈ L, okBnd 100 x.acr = true) → okT ds b → okT ds (L.foldl (fun b x => stepB ds b x.acr) b) := by
    intro L
    induction L with
    | nil => intro b _ hb; exact hb
    | cons x L ih => intro b h1 h2; exact ih _ (fun y hy => h1 y (List.mem_cons_of_mem _ hy)) (okT_step h2 (h1 x List.mem_cons_self))
  exact this _ _ (fun x hx => hw2 x (List.mem_of_mem_take hx)) h
theorem okT_start {ds : List StD} {es : List BdD} (h : sprOk ds es = true) : okT ds (es.map (·.bs)) := by
  unfold sprOk at h
  simp only [Bool.and_eq_true, decide_eq_true_eq] at h
  refine ⟨by rw [List.length_map]; exact h.1.2.2, fun i d b hd hb => ?_⟩
  rw [List.getElem?_map] at hb
  cases he : es[i]? with
  | none => rw [he] at hb; cases hb
  | some e =>
    rw [he] at hb
    simp only [Option.map_some, Option.some.injEq] at hb
    subst hb
    exact errB_zero (sprTo_at h.2 (List.getElem?_eq_some_iff.1 hd).1 hd he)
theorem nAt_eq {ds : List StD} {bss : List (List Bnd)} {es : List BdD} {k : Nat} {d : StD} {e : BdD} (h : es.map (·.bs) = bss) (hd : ds[k]? = some d) (he : es[k]? = some e) : nAt ds bss k = nodesL d.s e.bs := by
  unfold nAt
  rw [hd, ← h, List.getElem?_map, he]; rfl
theorem okT_ok {ds : List StD} {bss : List (List Bnd)} {es : List BdD} {k : Nat} {d : StD} {e : BdD} (ho : okT ds bss) (h : es.map (·.bs) = bss) (hd : ds[k]? = some d) (he : es[k]? = some e) : okStrm d.s = true ∧ okOffs d.s e.bs = true :=
  ho.2 k d e.bs hd (by rw [← h, List.getElem?_map, he]; rfl)
theorem errB_ofP {s : Strm} {bs : List Bnd} (h : okStrm s = true ∧ okOffs s bs = true) : errB s bs = 0 := by
  unfold errB; simp [h.1, h.2]
def ltO : Option Bnd → Int → Prop
  | none, _ => False
  | some b, v => b.lo < v
theorem ex_cons {α : Type} {p : α → Prop} {a : α} {l : List α} : (∃ x ∈ a :: l, p x) ↔ p a ∨ ∃ x ∈ l, p x := by simp
theorem ltO_minO (o : Option Bnd) (g : Bnd) (v : Int) : ltO (minO o g) v ↔ ltO o v ∨ g.lo < v := by
  cases o with
  | none => simp [minO, ltO]
  | some b => simp only [minO, ltO]; omega
theorem ltO_in (x : Reg) (ys : List Reg) (v : Int) (o : Option Bnd) : ltO (apIn o x ys ys.length) v ↔ ltO o v ∨ ∃ y ∈ ys, (gapS x y).lo < v := by
  unfold apIn
  rw [List.take_of_length_le (Nat.le_refl _)]
  induction ys generalizing o with
  | nil => simp
  | cons y ys ih =>
    simp only [List.map_cons, List.foldl_cons]
    rw [ih, ltO_minO, ex_cons, or_assoc]
theorem ltO_app (xs ys : List Reg) (v : Int) : ltO (appO xs ys) v ↔ ∃ x ∈ xs, ∃ y ∈ ys, (gapS x y).lo < v := by
  unfold appO apTo
  rw [List.take_of_length_le (Nat.le_refl _)]
  have : ∀ (L : List Reg) (o : Option Bnd), ltO (L.foldl (fun o x => apIn o x ys ys.length) o) v ↔ ltO o v ∨ ∃ x ∈ L, ∃ y ∈ ys, (gapS x y).lo < v := by
    intro L
    induction L with
    | nil => intro o; simp
    | cons x L ih =>
      intro o
      simp only [List.foldl_cons]
      rw [ih, ltO_in, ex_cons, or_assoc]
  rw [this]
  simp [ltO]
theorem appO_nil {xs ys : List Reg} (h : ¬ (0 < xs.length ∧ 0 < ys.length)) : appO xs ys = none := by
  unfold appO apTo
  rw [List.take_of_length_le (Nat.le_refl _)]
  cases xs with
  | nil => rfl
  | cons x xs =>
    cases ys with
    | cons y ys => exact absurd ⟨by simp, by simp⟩ h
    | nil =>
      have : ∀ (L : List Reg) (o : Option Bnd), L.foldl (fun o x => apIn o x [] 0) o = o := by
        intro L
        induction L with
        | nil => intro o; rfl
        | cons x L ih => intro o; exact ih o
      exact this _ none
theorem rowsTo_hasM {r : Reg} : ∀ {n j : Nat}, j < n → (rowB r (r.x.lo + j)).fr ≤ (rowB r (r.x.lo + j)).to → rowB r (r.x.lo + j) ∈ rowsTo r n
  | n + 1, j, hj, h => by
    rw [rowsTo, List.mem_append]
    by_cases e : j = n
    · subst e
      rw [if_pos h]
      exact .inr (List.mem_singleton.2 rfl)
    · exact .inl (rowsTo_hasM (by omega) h)
theorem rowsL_iffM {r : Reg} {q : RRow} : q ∈ rowsL r ↔ ∃ x, r.x.lo ≤ x ∧ x ≤ r.x.hi ∧ q = rowB r x ∧ q.fr ≤ q.to := by
  unfold rowsL
  constructor
  · intro h
    obtain ⟨j, hj, e, hle⟩ := rowsTo_mem h
    exact ⟨r.x.lo + j, by omega, by unfold nX at hj; omega, e, hle⟩
  · rintro ⟨x, h1, h2, e, hle⟩
    obtain ⟨j, rfl⟩ : ∃ j : Nat, x = r.x.lo + j := ⟨(x - r.x.lo).toNat, by omega⟩
    subst e
    exact rowsTo_hasM (by unfold nX; omega) hle
def negQ (q : RRow) : RRow := ⟨-q.x, -q.to, -q.fr⟩
theorem minus_ng (a b : Reg) : zipR minusB b a = negR (zipR minusB a b) := by
  unfold zipR negR negB minusB
  simp only [Reg.mk.injEq, Bnd.mk.injEq]
  omega
theorem rowB_neg (r : Reg) (x : Int) : rowB (negR r) (-x) = negQ (rowB r x) := by
  unfold rowB negR negQ negB
  simp only [RRow.mk.injEq, true_and]
  constructor <;> omega
theorem rows_neg {r : Reg} {q : RRow} (h : q ∈ rowsL r) : negQ q ∈ rowsL (negR r) := by
  obtain ⟨x, h1, h2, e, hle⟩ := rowsL_iffM.1 h
  refine rowsL_iffM.2 ⟨-x, ?_, ?_, ?_, ?_⟩
  · unfold negR negB; dsimp only; omega
  · unfold negR negB; dsimp only; omega
  · rw [rowB_neg, e]
  · unfold negQ; dsimp only; omega
theorem neg_neg_r (r : Reg) : negR (negR r) = r := by
  unfold negR negB
  simp only [Int.neg_neg]
theorem sqB_neg {q : RRow} (h : q.fr ≤ q.to) : sqB (negQ q) = sqB q := by
  unfold sqB negQ
  dsimp only
  have e : max (-q.to) (min 0 (-q.fr)) = -(max q.fr (min 0 q.to)) := by omega
  rw [e]
  simp only [Int.neg_mul_neg]
  rw [Int.max_comm (q.to * q.to)]
theorem pickO_fold (v : Int) : ∀ (L : List Bnd) (o : Option Bnd), ltO (L.foldl (pickO ltLo) o) v ↔ ltO o v ∨ ∃ b ∈ L, b.lo < v
  | [], o => by simp
  | b :: L, o => by
    rw [List.foldl_cons, pickO_fold v L, ex_cons, ← or_assoc]
    refine or_congr ?_ Iff.rfl
    cases o with
    | none => simp [pickO, ltO]
    | some c =>
      unfold pickO ltLo
      dsimp only
      split
      · rename_i h; have := of_decide_eq_true h; simp only [ltO]; omega
      · rename_i h; have := of_decide_eq_false (Bool.not_eq_true _ ▸ h); simp only [ltO]; omega
theorem pick_none : ∀ (L : List Bnd) (o : Option Bnd), L.foldl (pickO ltLo) o = none ↔ L = [] ∧ o = none
  | [], o => by simp
  | b :: L, o => by
    rw [List.foldl_cons, pick_none L]
    have := pickO_some ltLo o b
    constructor
    · rintro ⟨-, h⟩; rw [h] at this; cases this
    · rintro ⟨h, -⟩; cases h
theorem opt_lt (o : Option Bnd) (v : Int) : (optB o).lo < v ↔ ltO o v ∨ (o = none ∧ 0 < v) := by
  cases o with
  | none => simp [ltO, optB]
  | some b => simp [ltO, optB]
theorem sqs_lt (r : Reg) (v : Int) : (sqsS r).lo < v ↔ (∃ q ∈ rowsL r, (sqB q).lo < v) ∨ (rowsL r = [] ∧ 0 < v) := by
  have e : (sqsS r).lo = (optB (pckAll ltLo r)).lo := rfl
  rw [e, opt_lt]
  unfold pckAll sqL
  rw [pickO_fold, pick_none]
  refine or_congr ?_ (by simp)
  simp only [ltO, false_or, List.mem_map]
  constructor
  · rintro ⟨b, ⟨q, hq, rfl⟩, hb⟩; exact ⟨q, hq, hb⟩
  · rintro ⟨q, hq, hb⟩; exact ⟨_, ⟨q, hq, rfl⟩, hb⟩
theorem sqs_neg (r : Reg) (v : Int) : (sqsS (negR r)).lo < v ↔ (sqsS r).lo < v := by
  have h1 : ∀ r, (sqsS r).lo < v → (sqsS (negR r)).lo < v := by
    intro r h
    rw [sqs_lt] at *
    rcases h with ⟨q, hq, hl⟩ | ⟨h1, h2⟩
    · refine .inl ⟨negQ q, rows_neg hq, ?_⟩
      obtain ⟨x, -, -, -, hle⟩ := rowsL_iffM.1 hq
      rw [sqB_neg hle]; exact hl
    · refine .inr ⟨?_, h2⟩
      cases hr : rowsL (negR r) with
      | nil => rfl
      | cons q L =>
        have := rows_neg (r := negR r) (q := q) (by rw [hr]; exact List.mem_cons_self)
        rw [neg_neg_r, h1] at this
        cases this
  constructor
  · intro h
    have := h1 _ h
    rwa [neg_neg_r] at this
  · exact h1 r
theorem gap_comm (a b : Reg) (v : Int) : (gapS a b).lo < v ↔ (gapS b a).lo < v := by
  unfold gapS
  rw [minus_ng a b, sqs_neg]
theorem app_comm (xs ys : List Reg) (v : Int) : (appS xs ys).lo < v ↔ (appS ys xs).lo < v := by
  unfold appS
  rw [opt_lt, opt_lt, ltO_app, ltO_app]
  by_cases h : 0 < xs.length ∧ 0 < ys.length
  · rw [appO_some h.1 h.2, appO_some h.2 h.1]
    constructor
    · rintro (⟨x, hx, y, hy, hl⟩ | ⟨h, -⟩)
      · exact .inl ⟨y, hy, x, hx, (gap_comm _ _ _).1 hl⟩
      · cases h
    · rintro (⟨x, hx, y, hy, hl⟩ | ⟨h, -⟩)
      · exact .inl ⟨y, hy, x, hx, (gap_comm _ _ _).1 hl⟩
      · cases h
  · rw [appO_nil h, appO_nil (fun e => h ⟨e.2, e.1⟩)]
    constructor
    · rintro (⟨x, hx, y, hy, hl⟩ | h)
      · exact .inl ⟨y, hy, x, hx, (gap_comm _ _ _).1 hl⟩
      · exact .inr h
    · rintro (⟨x, hx, y, hy, hl⟩ | h)
      · exact .inl ⟨y, hy, x, hx, (gap_comm _ _ _).1 hl⟩
      · exact .inr h
theorem pair_comm (ds : List StD) (bss : List (List Bnd)) (v : Int) (i k : Nat) : pairH ds bss v i k = pairH ds bss v k i := by
  unfold pairH
  rw [decide_eq_decide]
  exact app_comm _ _ _
theorem Tryz.run_fieldB (a b : Int) (w : World) : (Sem.run Tryz.prog (Instr.field 24 (Value.agg #[Value.int IntKind.i64 a, Value.int IntKind.i64 b]) 0) w) = Result.ok (Value.int .i64 a) w := by
  kernel_rfl
end Go.Proofs.YtjiaepphnddpoaaGreat
namespace Go.Proofs.YtjiaepphnddpoaaGreat
open Go.RowKit Go.Shelf
set_option linter.unusedSimpArgs false
set_option linter.unusedVariables false
def gtOH : Option Bnd → Int → Prop
  | none, _ => False
  | some b, v => v < b.hi
theorem pickH_fold (v : Int) : ∀ (L : List Bnd) (o : Option Bnd), gtOH (L.foldl (pickO gtHi) o) v ↔ gtOH o v ∨ ∃ b ∈ L, v < b.hi
  | [], o => by simp
  | b :: L, o => by
    rw [List.foldl_cons, pickH_fold v L, ex_cons, ← or_assoc]
    refine or_congr ?_ Iff.rfl
    cases o with
    | none => simp [pickO, gtOH]
    | some c =>
      unfold pickO gtHi
      dsimp only
      split
      · rename_i h; have := of_decide_eq_true h; simp only [gtOH]; omega
      · rename_i h; have := of_decide_eq_false (Bool.not_eq_true _ ▸ h); simp only [gtOH]; omega
theorem pickH_none : ∀ (L : List Bnd) (o : Option Bnd), L.foldl (pickO gtHi) o = none ↔ L = [] ∧ o = none
  | [], o => by simp
  | b :: L, o => by
    rw [List.foldl_cons, pickH_none L]
    have := pickO_some gtHi o b
    constructor
    · rintro ⟨-, h⟩; rw [h] at this; cases this
    · rintro ⟨h, -⟩; cases h
theorem opt_gt (o : Option Bnd) (v : Int) : v < (optB o).hi ↔ gtOH o v ∨ (o = none ∧ v < 0) := by
  cases o with
  | none => simp [gtOH, optB]
  | some b => simp [gtOH, optB]
theorem sqs_gt (r : Reg) (v : Int) : v < (sqsS r).hi ↔ (∃ q ∈ rowsL r, v < (sqB q).hi) ∨ (rowsL r = [] ∧ v < 0) := by
  have e : (sqsS r).hi = (optB (pckAll gtHi r)).hi := rfl
  rw [e, opt_gt]
  unfold pckAll sqL
  rw [pickH_fold, pickH_none]
  refine or_congr ?_ (by simp)
  simp only [gtOH, false_or, List.mem_map]
  constructor
  · rintro ⟨b, ⟨q, hq, rfl⟩, hb⟩; exact ⟨q, hq, hb⟩
  · rintro ⟨q, hq, hb⟩; exact ⟨_, ⟨q, hq, rfl⟩, hb⟩
def dist2 (p q : Pnt) : Int := (p.x - q.x) * (p.x - q.x) + (p.y - q.y) * (p.y - q.y)
theorem gap_holds {a b : Reg} {p q : Pnt} (hp : inR p a) (hq : inR q b) : (gapS a b).lo ≤ dist2 p q ∧ dist2 p q ≤ (gapS a b).hi := by
  have hz : inR ⟨p.x - q.x, p.y - q.y⟩ (zipR minusB a b) := by
    unfold inR inB zipR minusB at *
    dsimp only at *
    omega
  have hfr : (rowB (zipR minusB a b) (p.x - q.x)).fr ≤ p.y - q.y ∧ p.y - q.y ≤ (rowB (zipR minusB a b) (p.x - q.x)).to := by
    unfold inR inB at hz
    unfold rowB
    dsimp only at *
    omega
  have hrow : rowB (zipR minusB a b) (p.x - q.x) ∈ rowsL (zipR minusB a b) := rowsL_iffM.2 ⟨p.x - q.x, hz.1.1, hz.1.2, rfl, by omega⟩
  have h1 := (sqs_lt (zipR minusB a b) ((sqB (rowB (zipR minusB a b) (p.x - q.x))).lo + 1)).2 (.inl ⟨_, hrow, by omega⟩)
  have h2 := (sqs_gt (zipR minusB a b) ((sqB (rowB (zipR minusB a b) (p.x - q.x))).hi - 1)).2 (.inl ⟨_, hrow, by omega⟩)
  have hx : (rowB (zipR minusB a b) (p.x - q.x)).x = p.x - q.x := rfl
  generalize rowB (zipR minusB a b) (p.x - q.x) = R at *
  have hg : gapS a b = sqsS (zipR minusB a b) := rfl
  rw [hg]
  generalize sqsS (zipR minusB a b) = V at *
  unfold dist2
  unfold sqB at h1 h2
  rw [hx] at h1 h2
  dsimp only at h1 h2
  generalize p.y - q.y = y at *
  generalize (p.x - q.x) * (p.x - q.x) = X at *
  have sq_le : ∀ s t : Int, 0 ≤ s → s ≤ t → s * s ≤ t * t := fun s t h h' => Int.mul_le_mul h' h' h (by omega)
  have sq_neg : ∀ s : Int, (-s) * (-s) = s * s := fun s => Int.neg_mul_neg s s
  have hn : max R.fr (min 0 R.to) * max R.fr (min 0 R.to) ≤ y * y := by
    rcases Int.lt_or_le 0 R.fr with h | h
    · rw [show max R.fr (min 0 R.to) = R.fr by omega]; exact sq_le _ _ (by omega) hfr.1
    · rcases Int.lt_or_le R.to 0 with h' | h'
      · rw [show max R.fr (min 0 R.to) = R.to by omega, ← sq_neg R.to, ← sq_neg y]; exact sq_le _ _ (by omega) (by omega)
      · rw [show max R.fr (min 0 R.to) = 0 by omega]
        have := sq_bd (a := y) (A := max y (-y)) (by omega) (by omega)
        omega
  have hf : y * y ≤ max (R.fr * R.fr) (R.to * R.to) := by
    rcases Int.lt_or_le y 0 with h | h
    · have := sq_le (-y) (-R.fr) (by omega) (by omega)
      rw [sq_neg, sq_neg] at this
      omega
    · have := sq_le y R.to h hfr.2
      omega
  omega
theorem app_lo {xs ys : List Reg} {x y : Reg} (hx : x ∈ xs) (hy : y ∈ ys) : (appS xs ys).lo ≤ (gapS x y).lo := by
  have h := (ltO_app xs ys ((gapS x y).lo + 1)).2 ⟨x, hx, y, hy, by omega⟩
  have := (opt_lt (appO xs ys) ((gapS x y).lo + 1)).2 (.inl h)
  unfold appS; omega
end Go.Proofs.YtjiaepphnddpoaaGreat
