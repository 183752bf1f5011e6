/-
  The law TowNarrower.
-/
import Derived.Test.YtjiaepphnddpoaaE1
import Derived.Test.YtjiaepphnddpoaaM5
import Derived.Test.YtjiaepphnddpoaaL6
import Derived.Deep.DeepCutAuto
namespace Go.Proofs.Ytjiaepphnddpoaa
open Go.RowKit Go.Shelf
set_option linter.unusedSimpArgs false
set_option linter.unusedVariables false

theorem SlAt.take {α : Type} {w : World} {B s : Nat} {enc : α → List Value} {A : Option Addr} {n c : Nat} {xs : List α} (h : SlAt w B s enc A n c xs) {N : Nat} (hN : N ≤ n) : SlAt w B s enc A N c (xs.take N) := by
  refine ⟨by rw [List.length_take, h.1]; omega, Nat.le_trans hN h.2.1, Nat.le_trans hN h.2.2.1, fun h0 => ?_⟩
  obtain ⟨b, off, hA, hB, hb, hc⟩ := h.2.2.2 (by omega)
  refine ⟨b, off, hA, hB, hb, fun k x hk => hc k x ?_⟩
  have hl := (List.getElem?_eq_some_iff.1 hk).1
  rw [List.length_take] at hl
  rwa [List.getElem?_take_of_lt (by omega)] at hk
theorem Try.infoWat : (Try.prog.info? 49).map (fun i => (i.zero, i.size, i.bytes)) = some (some (.agg #[.int .i64 0, .int .i64 0, .int .i64 0, .int .i64 0]), 4, 32) := by kernel_rfl
set_option maxRecDepth 100000 in
set_option maxHeartbeats 8000000 in
theorem TowNarrower_any (s : Strm) (A O D V Q : Option Addr) (n c no co nd cd nv cv nQ cQ : Nat) (bs : List Bnd) (l : List Wat) (v bits : List Int) (w : World) (hs : SlAt w 0 5 Sec.cells A n c s.secs) (hl : SlAt w 0 2 Bnd.cells O no co bs) (hd : SlAt w 0 4 Wat.cells D nd cd l) (hv : SlAt w 0 1 ivs V nv cv v) (hq : SlAt w 0 1 ivs Q nQ cQ bits) :
    Calls Try.prog 10 #[.agg #[.int .i64 s.head, .slice A n c, .int .i64 s.lane.lo, .int .i64 s.lane.hi, .int .i64 s.bend, .slice O no co], .agg #[.slice D nd cd, .slice V nv cv], .slice Q nQ cQ] w fun e w' => e = .returned (.bool true) ∧ Below w.heap.size w w' := by
  obtain ⟨w0, hw0⟩ : ∃ w0, w0 = w.alloc (.cells #[.int .i64 s.head, .slice A n c, .int .i64 s.lane.lo, .int .i64 s.lane.hi, .int .i64 s.bend, .slice O no co] 37) := ⟨_, rfl⟩
  have z0 : w0.heap.size = w.heap.size + 1 := by rw [hw0, World.size_alloc]
  obtain ⟨w1, hw1⟩ : ∃ w1, w1 = w0.alloc (.cells #[.slice D nd cd, .slice V nv cv] 64) := ⟨_, rfl⟩
  have k3 : Blk w1 w.heap.size 37 #[.int .i64 s.head, .slice A n c, .int .i64 s.lane.lo, .int .i64 s.lane.hi, .int .i64 s.bend, .slice O no co] := by rw [hw1, hw0]; exact (Blk.new _ _ _).alloc _
  have k4 : Blk w1 (w.heap.size + 1) 64 #[.slice D nd cd, .slice V nv cv] := by have := Blk.new w0 64 #[.slice D nd cd, .slice V nv cv]; rw [z0, ← hw1] at this; exact this
  have b : Below w.heap.size w w1 := by rw [hw1, hw0]; exact ((Below.refl _ _).alloc (Nat.le_refl _) _).alloc (by simp) _
  replace hs : SlAt w1 0 5 Sec.cells A n c s.secs := by rw [hw1, hw0]; exact (hs.alloc _).alloc _
  replace hl : SlAt w1 0 2 Bnd.cells O no co bs := by rw [hw1, hw0]; exact (hl.alloc _).alloc _
  replace hd : SlAt w1 0 4 Wat.cells D nd cd l := by rw [hw1, hw0]; exact (hd.alloc _).alloc _
  replace hv : SlAt w1 0 1 ivs V nv cv v := by rw [hw1, hw0]; exact (hv.alloc _).alloc _
  replace hq : SlAt w1 0 1 ivs Q nQ cQ bits := by rw [hw1, hw0]; exact (hq.alloc _).alloc _
  rw [hw0] at hw1
  clear hw0 z0
  have hKp := fun W h1 h2 h3 h4 => Keeps_any s A O D V n c no co nd cd nv cv bs l v W h1 h2 h3 h4
  by_cases he : errW s bs l v = 0
  · have e2 : keepsR s bs l v = (keepsS s bs l v, 0) := by rw [keepsR, if_pos he]
    simp only [e2] at hKp
    clear e2
    obtain ⟨ho, hb0, hwl, hvs, hvl, -⟩ := errW_zero he
    have h48 := errW_48 he
    obtain ⟨ks2, hn1, hn2⟩ := keepsR_narrow bits he
    have hno : n = no := by have := okOffs_len hb0; have := hl.len; have := hs.len; omega
    subst hno
    have hn8 : n ≤ 8 := by have := ok_head ho; unfold headOk at this; have := hs.len; omega
    have hll := Lib.hid hl.len
    have hdl := Lib.hid hd.len
    have hnd : nd ≤ 48 := by have := hdl.out; omega
    have hnv : nv = nd := by have := hv.len; have := hdl.out; omega
    subst hnv
    have htk := fun N => keepsR_take (s := s) (bs := bs) (l := l) (v := v) N he
    replace htk := Lib.hid htk
    generalize keepsS s bs l v = ks at *
    replace hn1 := Lib.hid hn1
    replace hn2 := Lib.hid hn2
    replace he := Lib.hid he
    replace ho := Lib.hid ho
    replace hb0 := Lib.hid hb0
    replace hwl := Lib.hid hwl
    replace hvs := Lib.hid hvs
    replace hvl := Lib.hid hvl
    clear h48
    go_enter Try.func10, Try.ntmps10
    go_wp2_with fail
    rw [← hw1]
    clear hw1
    refine (hKp _ hs hl hd hv).mono ?_
    clear hKp
    rintro e W ⟨rfl, hbel⟩
    replace k3 := k3.below hbel
    replace k4 := k4.below hbel
    replace b := b.trans (hbel.mono b.size)
    replace hs := hs.below hbel
    replace hl := hl.below hbel
    replace hd := hd.below hbel
    replace hv := hv.below hbel
    replace hq := hq.below hbel
    clear hbel
    obtain ⟨c3, f3, l3⟩ := k3.rules
    go_wp2_with fail
    refine (inside_any bs bits 0 O Q n co nQ cQ 0 0 _ (by omega) (by omega) hl hq).mono ?_
    rintro e W ⟨P1, m1, rfl, hr1, hbel⟩
    clear c3 f3 l3
    replace k3 := k3.below hbel
    replace k4 := k4.below hbel
    replace b := b.trans (hbel.mono b.size)
    replace hs := hs.below hbel
    replace hl := hl.below hbel
    replace hd := hd.below hbel
    replace hv := hv.below hbel
    replace hq := hq.below hbel
    clear hbel
    replace hr1 := hr1.mono (Nat.zero_le _)
    go_wp2_with fail
    go_loopw [9, 11] (fun v i wr => ∃ k : Nat, i = .int .i64 k ∧ k ≤ n ∧ wr.ownsRow W.heap.size 24 2 v k ((nbTo bs bits k).flatMap Bnd.cells) ∧ Below W.heap.size W wr) (fun v i wr => n - (intOf i).toNat)
    case atStart => exact ⟨0, rfl, Nat.zero_le _, ⟨rfl, .inl ⟨rfl, rfl⟩⟩, Below.refl _ _⟩
    case round =>
      obtain ⟨k, rfl, hk, hown, hb⟩ := hrel
      have k3w := k3.below hb
      by_cases hlt : k < n
      · obtain ⟨x, hx⟩ := some_of_lt hll.out hlt
        have hins := insL_at bs bits 0 hx
        have hnx : Hid ((nbTo bs bits (k + 1)).flatMap Bnd.cells = (nbTo bs bits k).flatMap Bnd.cells ++ [.int .i64 (insB bits 0 k x), .int .i64 x.hi]) := by show _ = _; rw [nbTo_succ hx, List.flatMap_append]; simp [Bnd.cells, nbAt]
        obtain ⟨bb, ob, hO, -, hbb, d0, d1⟩ := (hl.below hb).bnd hx
        obtain ⟨bt, ot, hP, -, hbt, e0⟩ := (hr1.below hb).int hins
        generalize insB bits 0 k x = y at *
        replace hx := Lib.hid hx
        replace hins := Lib.hid hins
        have hk0 : (0 : Int) ≤ (k : Int) := by omega
        have hk1 : (k : Int) < (n : Int) := by omega
        have hlo_ : Hid ((insL bs bits 0).length = n) := by show _ = _; rw [insL_len]; exact hll.out
        subst hO
        subst hP
        obtain ⟨c3, f3, l3⟩ := k3w.rules
        go_wp2_with fail
        clear c3 f3 l3
        refine wp_held_np (fun w' : World => (∀ j, w'.cell? ⟨w.heap.size, j, none⟩ = #[Value.int .i64 s.head, .slice A n c, .int .i64 s.lane.lo, .int .i64 s.lane.hi, .int .i64 s.bend, .slice (some ⟨bb, ob, none⟩) n co][j]?) ∧ w'.cell? ⟨bt, ot + k, none⟩ = some (.int .i64 y) ∧ w'.cell? ⟨bb, ob + k * 2 + 1, none⟩ = some (.int .i64 x.hi)) (by kernel_rfl) ?_
        replace hb := hb.drew
        replace k3w := k3w.drew
        replace hown : wr.drew.ownsRow _ _ _ _ _ _ := hown
        have hS : (fun w' : World => (∀ j, w'.cell? ⟨w.heap.size, j, none⟩ = #[Value.int .i64 s.head, .slice A n c, .int .i64 s.lane.lo, .int .i64 s.lane.hi, .int .i64 s.bend, .slice (some ⟨bb, ob, none⟩) n co][j]?) ∧ w'.cell? ⟨bt, ot + k, none⟩ = some (.int .i64 y) ∧ w'.cell? ⟨bb, ob + k * 2 + 1, none⟩ = some (.int .i64 x.hi)) wr.drew := ⟨k3w.cell, e0, d1⟩
        generalize wr.drew = W9 at *
        refine held_take (i := 0) (v := ?_) 53 rfl rfl (by kernel_rfl) (by kernel_rfl) (by kernel_rfl) (fun _ _ _ h => h) (Or.inl ⟨by rfl, ?_⟩) hS ?_
        rotate_left 1
        · intro w' hSw
          try dsimp only at hSw
          obtain ⟨q1, q2, q3⟩ := hSw
          go_simp
          all_goals with_reducible rfl
        try simp only [Act.put, List.setIfInBounds_toArray, List.set_cons_zero, List.set_cons_succ]
        refine held_take (i := 1) (v := ?_) 54 rfl rfl (by kernel_rfl) (by kernel_rfl) (by kernel_rfl) (fun _ _ _ h => h) (Or.inl ⟨by rfl, ?_⟩) hS ?_
        rotate_left 1
        · intro w' hSw
          try dsimp only at hSw
          obtain ⟨q1, q2, q3⟩ := hSw
          go_simp
          all_goals with_reducible rfl
        try simp only [Act.put, List.setIfInBounds_toArray, List.set_cons_zero, List.set_cons_succ]
        refine held_take (i := 2) (v := ?_) 55 rfl rfl (by kernel_rfl) (by kernel_rfl) (by kernel_rfl) (fun _ _ _ h => h) (Or.inl ⟨by rfl, ?_⟩) hS ?_
        rotate_left 1
        · intro w' hSw
          try dsimp only at hSw
          obtain ⟨q1, q2, q3⟩ := hSw
          go_simp
          all_goals with_reducible rfl
        try simp only [Act.put, List.setIfInBounds_toArray, List.set_cons_zero, List.set_cons_succ]
        refine held_take (i := 3) (v := ?_) 56 rfl rfl (by kernel_rfl) (by kernel_rfl) (by kernel_rfl) (fun _ _ _ h => h) (Or.inl ⟨by rfl, ?_⟩) hS ?_
        rotate_left 1
        · intro w' hSw
          try dsimp only at hSw
          obtain ⟨q1, q2, q3⟩ := hSw
          go_simp
          all_goals with_reducible rfl
        try simp only [Act.put, List.setIfInBounds_toArray, List.set_cons_zero, List.set_cons_succ]
        refine held_take (i := 4) (v := ?_) 57 rfl rfl (by kernel_rfl) (by kernel_rfl) (by kernel_rfl) (fun _ _ _ h => h) (Or.inl ⟨by rfl, ?_⟩) hS ?_
        rotate_left 1
        · intro w' hSw
          try dsimp only at hSw
          obtain ⟨q1, q2, q3⟩ := hSw
          go_simp
          all_goals with_reducible rfl
        try simp only [Act.put, List.setIfInBounds_toArray, List.set_cons_zero, List.set_cons_succ]
        refine held_take (i := 5) (v := ?_) 58 rfl rfl (by kernel_rfl) (by kernel_rfl) (by kernel_rfl) (fun _ _ _ h => h) (Or.inl ⟨by rfl, ?_⟩) hS ?_
        rotate_left 1
        · intro w' hSw
          try dsimp only at hSw
          obtain ⟨q1, q2, q3⟩ := hSw
          go_simp
          all_goals with_reducible rfl
        try simp only [Act.put, List.setIfInBounds_toArray, List.set_cons_zero, List.set_cons_succ]
        refine held_take (i := 6) (v := ?_) 59 rfl rfl (by kernel_rfl) (by kernel_rfl) (by kernel_rfl) (fun _ _ _ h => h) (Or.inl ⟨by rfl, ?_⟩) hS ?_
        rotate_left 1
        · intro w' hSw
          try dsimp only at hSw
          obtain ⟨q1, q2, q3⟩ := hSw
          go_simp
          all_goals with_reducible rfl
        try simp only [Act.put, List.setIfInBounds_toArray, List.set_cons_zero, List.set_cons_succ]
        refine held_take (i := 7) (v := ?_) 60 rfl rfl (by kernel_rfl) (by kernel_rfl) (by kernel_rfl) (fun _ _ _ h => h) (Or.inl ⟨by rfl, ?_⟩) hS ?_
        rotate_left 1
        · intro w' hSw
          try dsimp only at hSw
          obtain ⟨q1, q2, q3⟩ := hSw
          go_simp
          all_goals with_reducible rfl
        try simp only [Act.put, List.setIfInBounds_toArray, List.set_cons_zero, List.set_cons_succ]
        refine held_take (i := 8) (v := ?_) 61 rfl rfl (by kernel_rfl) (by kernel_rfl) (by kernel_rfl) (fun _ _ _ h => h) (Or.inl ⟨by rfl, ?_⟩) hS ?_
        rotate_left 1
        · intro w' hSw
          try dsimp only at hSw
          obtain ⟨q1, q2, q3⟩ := hSw
          go_simp
          all_goals with_reducible rfl
        try simp only [Act.put, List.setIfInBounds_toArray, List.set_cons_zero, List.set_cons_succ]
        refine held_take (i := 9) (v := ?_) 62 rfl rfl (by kernel_rfl) (by kernel_rfl) (by kernel_rfl) (fun _ _ _ h => h) (Or.inl ⟨by rfl, ?_⟩) hS ?_
        rotate_left 1
        · intro w' hSw
          try dsimp only at hSw
          obtain ⟨q1, q2, q3⟩ := hSw
          go_simp
          all_goals with_reducible rfl
        try simp only [Act.put, List.setIfInBounds_toArray, List.set_cons_zero, List.set_cons_succ]
        refine held_take (i := 10) (v := ?_) 63 rfl rfl (by kernel_rfl) (by kernel_rfl) (by kernel_rfl) (fun _ _ _ h => h) (Or.inl ⟨by rfl, ?_⟩) hS ?_
        rotate_left 1
        · intro w' hSw
          try dsimp only at hSw
          obtain ⟨q1, q2, q3⟩ := hSw
          go_simp
          all_goals with_reducible rfl
        try simp only [Act.put, List.setIfInBounds_toArray, List.set_cons_zero, List.set_cons_succ]
        refine held_take (i := 11) (v := ?_) 64 rfl rfl (by kernel_rfl) (by kernel_rfl) (by kernel_rfl) (fun _ _ _ h => h) (Or.inl ⟨by rfl, ?_⟩) hS ?_
        rotate_left 1
        · intro w' hSw
          try dsimp only at hSw
          obtain ⟨q1, q2, q3⟩ := hSw
          go_simp
          all_goals with_reducible rfl
        try simp only [Act.put, List.setIfInBounds_toArray, List.set_cons_zero, List.set_cons_succ]
        have hbig1 : k + 1 ≤ maxLen := by unfold maxLen; omega
        have hbig2 : (k + 1) * 16 ≤ 140737488355328 := by omega
        obtain ⟨i0, hi0, hz0, hz1, hz2⟩ := info_parts Try.infoBnd
        have hnews : ∀ (j : Nat) (u : Value), ([.int .i64 (y), .int .i64 (x.hi)] : List Value)[j]? = some u → (W9.alloc (.cells #[.int .i64 (y), .int .i64 (x.hi)] 24)).cell? ((⟨W9.heap.size, 0, none⟩ : Addr).add j) = some u :=
          World.news_of_block (cs := #[.int .i64 (y), .int .i64 (x.hi)]) (World.alloc_heap_new W9 _)
        have hownf := hown.alloc (.cells #[.int .i64 (y), .int .i64 (x.hi)] 24)
        have hbf := hb.alloc hb.size (.cells #[.int .i64 (y), .int .i64 (x.hi)] 24)
        refine held_one (i := 12) (by kernel_rfl) rfl rfl (fun K hK => ?_)
        go_simp
        refine hK _ _ (⟨(k3w.alloc _).cell, keepA hS.2.1, keepA hS.2.2⟩) ?_
        clear hK K
        try simp only [Act.put, List.setIfInBounds_toArray, List.set_cons_zero, List.set_cons_succ]
        refine held_one (i := 13) (by kernel_rfl) rfl rfl (fun K hK => ?_)
        refine wp_append_lies _ _ _ 35 (by rfl) W.heap.size 24 i0 (.agg #[.int .i64 0, .int .i64 0]) 2 16 Try.underlying35 hi0 hz0 hz1 hz2 rfl (by omega) u9 k ((nbTo bs bits k).flatMap Bnd.cells) (by rfl) hownf ⟨W9.heap.size, 0, none⟩ 1 1 [.int .i64 (y), .int .i64 (x.hi)] (by rfl) rfl hnews (by simp [Value.oneCell']) (by omega) hbig1 hbig2 (hbf.size) (W9.heap.size + 1) (by simp) ?_
        intro g cap w7 hown7 hgrow hlies hlt7
        have hbg : Below W.heap.size _ w7 := ⟨hgrow.os, hgrow.tape, hgrow.output, hgrow.size, fun b hb2 => hgrow.block b (Nat.lt_of_lt_of_le hb2 hbf.size) (fun e => by have := (hownf.lt _ e.symm).1; omega)⟩
        have hbh := hbf.trans hbg
        have hS7 : (fun w' : World => (∀ j, w'.cell? ⟨w.heap.size, j, none⟩ = #[Value.int .i64 s.head, .slice A n c, .int .i64 s.lane.lo, .int .i64 s.lane.hi, .int .i64 s.bend, .slice (some ⟨bb, ob, none⟩) n co][j]?) ∧ w'.cell? ⟨bt, ot + k, none⟩ = some (.int .i64 y) ∧ w'.cell? ⟨bb, ob + k * 2 + 1, none⟩ = some (.int .i64 x.hi)) w7 := ⟨(k3.below hbh).cell, by
          obtain ⟨_, _, h1, _, _, h2⟩ := (hr1.below hbh).int hins.out
          cases h1; exact h2, by
          obtain ⟨_, _, h1, _, _, _, h2⟩ := (hl.below hbh).bnd hx.out
          cases h1; exact h2⟩
        refine hK _ _ hS7 ?_
        clear hK K hS
        try simp only [Act.put, List.setIfInBounds_toArray, List.set_cons_zero, List.set_cons_succ]
        refine held_take (i := 14) (v := ?_) 9 rfl rfl (by kernel_rfl) (by kernel_rfl) (by kernel_rfl) (fun _ _ _ h => h) (Or.inl ⟨by rfl, ?_⟩) hS7 ?_
        rotate_left 1
        · intro w' hSw
          try dsimp only at hSw
          obtain ⟨q1, q2, q3⟩ := hSw
          go_simp
          all_goals with_reducible rfl
        try simp only [Act.put, List.setIfInBounds_toArray, List.set_cons_zero, List.set_cons_succ]
        refine wpAnyH_done (by kernel_rfl) (noPanic_normal ?_) _
        clear hS7
        go_wp2
        go_roundw
        case rel =>
          refine ⟨k + 1, by go_num, by omega, ?_, hbh⟩
          rw [hnx.out]
          simpa using hown7
        case measure => simp [intOf]; omega
      · obtain rfl : k = n := by omega
        obtain ⟨P2, m2, e2, hr2⟩ := SlAt.of_own (enc := Bnd.cells) hown (by omega) (nbTo bs bits k) rfl (fun _ => rfl) (nbTo_len _ _ _)
        subst e2
        replace hr2 := hr2.mono (Nat.zero_le _)
        have hbel := hb
        replace k3 := k3.below hbel
        replace k4 := k4.below hbel
        replace b := b.trans (hbel.mono b.size)
        replace hs := hs.below hbel
        replace hl := hl.below hbel
        replace hd := hd.below hbel
        replace hv := hv.below hbel
        replace hq := hq.below hbel
        clear hbel
        clear hown hb hr1 k3w
        generalize wr = W at *
        obtain ⟨c3, f3, l3⟩ := k3.rules
        go_wp2_with fail
        clear c3 f3 l3
        go_loopw [12, 13] (fun v i wr => ∃ q : Nat, i = .int .i64 q ∧ q ≤ nv ∧ wr.ownsRow W.heap.size 49 4 v q ((nwTo l bits q).flatMap Wat.cells) ∧ Below W.heap.size W wr) (fun v i wr => nv - (intOf i).toNat)
        case atStart => exact ⟨0, rfl, Nat.zero_le _, ⟨rfl, .inl ⟨rfl, rfl⟩⟩, Below.refl _ _⟩
        case round =>
          obtain ⟨q, rfl, hqn, hown, hb⟩ := hrel
          by_cases hlt2 : q < nv
          · obtain ⟨x, hx⟩ := some_of_lt hdl.out hlt2
            have hxo := okWat_get hwl.out q
            rw [getD_of _ hx] at hxo
            obtain ⟨xb1, xb2, xb3⟩ := of_decide_eq_true (p := -100 ≤ x.acr.lo ∧ x.acr.lo ≤ x.acr.hi ∧ x.acr.hi ≤ 100) hxo.1
            obtain ⟨xa1, xa2, xa3⟩ := of_decide_eq_true (p := -50 ≤ x.alo.lo ∧ x.alo.lo ≤ x.alo.hi ∧ x.alo.hi ≤ 50) hxo.2
            clear hxo
            have r1 := restS_bd (pickS bits q) (many := x.acr.hi - x.acr.lo + 1) (by omega)
            have r2 := restS_bd (pickS bits ((q : Int) + 2)) (many := x.alo.hi - x.alo.lo + 1) (by omega)
            have hR1 := fun W => flip_w (Rest_any (pickS bits q) (x.acr.hi - x.acr.lo + 1) W (by omega))
            have hR2 := fun W => flip_w (Rest_any (pickS bits ((q : Int) + 2)) (x.alo.hi - x.alo.lo + 1) W (by omega))
            have hP1 := fun W h => flip_w (Pick_any bits q Q nQ cQ 0 W h)
            have hP2 := fun W h => flip_w (Pick_any bits ((q : Int) + 2) Q nQ cQ 0 W h)
            have hnw : nwAt bits q x = ⟨⟨x.acr.lo, x.acr.hi - restS (pickS bits q) (x.acr.hi - x.acr.lo + 1)⟩, ⟨x.alo.lo + restS (pickS bits ((q : Int) + 2)) (x.alo.hi - x.alo.lo + 1), x.alo.hi⟩⟩ := rfl
            generalize restS (pickS bits q) (x.acr.hi - x.acr.lo + 1) = ra at *
            generalize restS (pickS bits ((q : Int) + 2)) (x.alo.hi - x.alo.lo + 1) = rb at *
            have hnx : Hid ((nwTo l bits (q + 1)).flatMap Wat.cells = (nwTo l bits q).flatMap Wat.cells ++ [.int .i64 x.acr.lo, .int .i64 (x.acr.hi - ra), .int .i64 (x.alo.lo + rb), .int .i64 x.alo.hi]) := by show _ = _; rw [nwTo_succ hx, List.flatMap_append, hnw]; simp [Wat.cells]
            clear hnw
            obtain ⟨r11, r12⟩ := r1
            obtain ⟨r21, r22⟩ := r2
            have u1 := IntWalk.i64_in (x.acr.hi - x.acr.lo) (by omega)
            have u2 := IntWalk.i64_in (x.acr.hi - x.acr.lo + 1) (by omega)
            have u3 := IntWalk.i64_in (x.acr.hi - ra) (by omega)
            have v1 := IntWalk.i64_in (x.alo.hi - x.alo.lo) (by omega)
            have v2 := IntWalk.i64_in (x.alo.hi - x.alo.lo + 1) (by omega)
            have v3 := IntWalk.i64_in (x.alo.lo + rb) (by omega)
            have v4 := IntWalk.i64_in ((q : Int) + 2) (by omega)
            obtain ⟨bw, ow, hA, -, hbw, z0, z1, z2, z3⟩ := (hd.below hb).wat hx
            replace hx := Lib.hid hx
            subst hA
            have hq0 : (0 : Int) ≤ (q : Int) := by omega
            have hq1 : (q : Int) < (nv : Int) := by omega
            have hqw := hq.below hb
            obtain ⟨c4, f4, l4⟩ := (k4.below hb).rules
            go_wp2_with fail
            clear c4 f4 l4 z0 z1 z2 z3
            have k9 := Blk.new wr 49 #[.int .i64 x.acr.lo, .int .i64 x.acr.hi, .int .i64 x.alo.lo, .int .i64 x.alo.hi]
            have hg := hb.size
            have hownb : u12.ownBlock ≠ some wr.heap.size := fun e => by have := (hown.lt _ e).2; omega
            replace hown := hown.alloc (.cells #[.int .i64 x.acr.lo, .int .i64 x.acr.hi, .int .i64 x.alo.lo, .int .i64 x.alo.hi] 49)
            replace hqw := hqw.alloc (.cells #[.int .i64 x.acr.lo, .int .i64 x.acr.hi, .int .i64 x.alo.lo, .int .i64 x.alo.hi] 49)
            replace hb := hb.alloc hb.size (.cells #[.int .i64 x.acr.lo, .int .i64 x.acr.hi, .int .i64 x.alo.lo, .int .i64 x.alo.hi] 49)
            generalize wr.alloc (.cells #[.int .i64 x.acr.lo, .int .i64 x.acr.hi, .int .i64 x.alo.lo, .int .i64 x.alo.hi] 49) = Wd at *
            obtain ⟨c9, f9, l9⟩ := k9.rules
            refine wp_region_still_tail 18 (by kernel_rfl) (by kernel_rfl) ?_
            simp only [List.take_succ_cons, List.take_zero, List.drop_succ_cons, List.drop_zero]
            iterate 5 still_step
            still_call (hP1 _ hqw.drew)
            iterate 8 still_step
            still_call (hR1 _)
            iterate 3 still_step
            refine wpStill_nil ?_
            change wpList _ _ _ _ _ Wd.drew
            clear c9 f9 l9 u1 u2 hP1 hR1
            replace k9 := k9.drew
            replace hown : Wd.drew.ownsRow _ _ _ _ _ _ := hown
            replace hqw := hqw.drew
            replace hb := hb.drew
            generalize Wd.drew = We at *
            obtain ⟨c9, f9, l9⟩ := k9.rules
            go_wp2_with fail
            clear c9 f9 l9 u3
            replace k9 : Blk _ wr.heap.size 49 #[.int .i64 x.acr.lo, .int .i64 (x.acr.hi - ra), .int .i64 x.alo.lo, .int .i64 x.alo.hi] := k9.set_ 1 (.int .i64 (x.acr.hi - ra))
            replace hown := ownsRow_setCell hown (p := ⟨wr.heap.size, 1, none⟩) hownb (.int .i64 (x.acr.hi - ra))
            replace hb := hb.setCell (p := ⟨wr.heap.size, 1, none⟩) hg (.int .i64 (x.acr.hi - ra))
            clear hqw
            have hqw := hq.below hb
            generalize We.setCell ⟨wr.heap.size, 1, none⟩ (.int .i64 (x.acr.hi - ra)) = Wf at *
            obtain ⟨c9, f9, l9⟩ := k9.rules
            refine wp_region_still_tail 19 (by kernel_rfl) (by kernel_rfl) ?_
            simp only [List.take_succ_cons, List.take_zero, List.drop_succ_cons, List.drop_zero]
            iterate 6 still_step
            still_call (hP2 _ hqw.drew)
            iterate 8 still_step
            still_call (hR2 _)
            iterate 3 still_step
            refine wpStill_nil ?_
            change wpList _ _ _ _ _ Wf.drew
            clear c9 f9 l9 v1 v2 v4 hP2 hR2
            replace k9 := k9.drew
            replace hown : Wf.drew.ownsRow _ _ _ _ _ _ := hown
            replace hb := hb.drew
            generalize Wf.drew = Wg at *
            obtain ⟨c9, f9, l9⟩ := k9.rules
            have hbig1 : Hid (q + 1 ≤ maxLen) := by show q + 1 ≤ maxLen; unfold maxLen; omega
            have hbig2 : Hid ((q + 1) * 32 ≤ 140737488355328) := by show (q + 1) * 32 ≤ 140737488355328; omega
            obtain ⟨i0, hi0, hz0, hz1, hz2⟩ := info_parts Try.infoWat
            go_upto_region 17 with fail
            clear c9 f9 l9 v3
            replace k9 : Blk _ wr.heap.size 49 #[.int .i64 x.acr.lo, .int .i64 (x.acr.hi - ra), .int .i64 (x.alo.lo + rb), .int .i64 x.alo.hi] := k9.set_ 2 (.int .i64 (x.alo.lo + rb))
            replace hown := ownsRow_setCell hown (p := ⟨wr.heap.size, 2, none⟩) hownb (.int .i64 (x.alo.lo + rb))
            replace hb := hb.setCell (p := ⟨wr.heap.size, 2, none⟩) hg (.int .i64 (x.alo.lo + rb))
            generalize Wg.setCell ⟨wr.heap.size, 2, none⟩ (.int .i64 (x.alo.lo + rb)) = Wg at *
            obtain ⟨c9, f9, l9⟩ := k9.rules
            have hnews : ∀ (j : Nat) (u : Value), ([.int .i64 x.acr.lo, .int .i64 (x.acr.hi - ra), .int .i64 (x.alo.lo + rb), .int .i64 x.alo.hi] : List Value)[j]? = some u → (Wg.alloc (.cells #[.int .i64 x.acr.lo, .int .i64 (x.acr.hi - ra), .int .i64 (x.alo.lo + rb), .int .i64 x.alo.hi] 49)).cell? ((⟨Wg.heap.size, 0, none⟩ : Addr).add j) = some u :=
              World.news_of_block (cs := #[.int .i64 x.acr.lo, .int .i64 (x.acr.hi - ra), .int .i64 (x.alo.lo + rb), .int .i64 x.alo.hi]) (World.alloc_heap_new Wg _)
            have hownf := hown.alloc (.cells #[.int .i64 x.acr.lo, .int .i64 (x.acr.hi - ra), .int .i64 (x.alo.lo + rb), .int .i64 x.alo.hi] 49)
            have hbf := hb.alloc hb.size (.cells #[.int .i64 x.acr.lo, .int .i64 (x.acr.hi - ra), .int .i64 (x.alo.lo + rb), .int .i64 x.alo.hi] 49)
            go_wp2_with (at_builtin; refine wpList_append_lies _ rfl (.tmp 116) (.tmp 118) 45 rfl W.heap.size 49 i0 (.agg #[.int .i64 0, .int .i64 0, .int .i64 0, .int .i64 0]) 4 32 Try.underlying45 hi0 hz0 hz1 hz2 rfl (by decide) u12 q ((nwTo l bits q).flatMap Wat.cells) rfl hownf ⟨Wg.heap.size, 0, none⟩ 1 1 [.int .i64 x.acr.lo, .int .i64 (x.acr.hi - ra), .int .i64 (x.alo.lo + rb), .int .i64 x.alo.hi] rfl rfl hnews (by simp [Value.oneCell']) (by decide) hbig1.out hbig2.out hbf.size (Wg.heap.size + 1) (by simp) ?_; intro g cap w7 hown7 hgrow hlies hlt7)
            have hbg : Below W.heap.size _ w7 := ⟨hgrow.os, hgrow.tape, hgrow.output, hgrow.size, fun b hb2 => hgrow.block b (Nat.lt_of_lt_of_le hb2 hbf.size) (fun e => by have := (hownf.lt _ e.symm).1; omega)⟩
            have hbh := hbf.trans hbg
            go_roundw
            case rel =>
              refine ⟨q + 1, by go_num, by omega, ?_, hbh⟩
              rw [hnx.out]
              simpa using hown7
            case measure => simp [intOf]; omega
          · obtain rfl : q = nv := by omega
            obtain ⟨P5, m5, e5, hr5⟩ := SlAt.of_own (enc := Wat.cells) hown (by omega) (nwTo l bits q) rfl (fun _ => rfl) (nwTo_len _ _ _)
            subst e5
            replace hr5 := hr5.mono (Nat.zero_le _)
            have hbel := hb
            replace hr2 := hr2.below hbel
            replace k3 := k3.below hbel
            replace k4 := k4.below hbel
            replace b := b.trans (hbel.mono b.size)
            replace hs := hs.below hbel
            replace hl := hl.below hbel
            replace hd := hd.below hbel
            replace hv := hv.below hbel
            replace hq := hq.below hbel
            clear hbel
            clear hown hb
            generalize wr = W at *
            have hKn := fun W h1 h2 h3 h4 => Keeps_any s A P2 P5 V k c k m2 q m5 q cv (nbTo bs bits k) (nwTo l bits q) v W h1 h2 h3 h4
            have hn1' := hn1.out
            rw [hll.out, hdl.out] at hn1'
            simp only [hn1'] at hKn
            clear hn1'
            obtain ⟨c3, f3, l3⟩ := k3.rules
            obtain ⟨c4, f4, l4⟩ := k4.rules
            go_wp2_with fail
            refine (hKn _ hs hr2 hr5 hv).mono ?_
            clear hKn
            rintro e W ⟨rfl, hbel⟩
            clear c3 f3 l3 c4 f4 l4 hr2 hr5
            replace k3 := k3.below hbel
            replace k4 := k4.below hbel
            replace b := b.trans (hbel.mono b.size)
            replace hs := hs.below hbel
            replace hl := hl.below hbel
            replace hd := hd.below hbel
            replace hv := hv.below hbel
            replace hq := hq.below hbel
            clear hbel
            cases ks with
            | false =>
              go_wp2_with fail
              obtain ⟨c4, f4, l4⟩ := k4.rules
              have hr := restS_bd (pickS bits 1) (many := (q : Int) + 1) (by omega)
              obtain ⟨N, hN⟩ : ∃ N : Nat, restS (pickS bits 1) ((q : Int) + 1) = N := ⟨(restS (pickS bits 1) ((q : Int) + 1)).toNat, by omega⟩
              have hR := fun W => flip_w (Rest_any (pickS bits 1) ((q : Int) + 1) W (by omega))
              simp only [hN] at hR
              rw [hN] at hr
              obtain ⟨rN1, rN2⟩ := hr
              replace hN := Lib.hid hN
              have hNq : N ≤ q := by omega
              have hNi : (N : Int) ≤ (q : Int) := by omega
              have hNc : N ≤ cd := Nat.le_trans hNq hd.lec
              have hNv : N ≤ cv := Nat.le_trans hNq hv.lec
              have u1 := IntWalk.i64_in ((q : Int) + 1) (by omega)
              go_wp2_with fail
              go_quiet ((first | (go_at_call 35; with_reducible exact Calls.quiet_of_same (flip_w (Pick_any bits 1 Q nQ cQ 0 _ (hq.drewN _)))) | (go_at_call 34; with_reducible exact Calls.quiet_of_same (hR _))))
              clear u1 hR c4 f4 l4
              have hbel : Below W.heap.size W (W.drewN nq) := below_drewN (Below.refl _ _) nq
              replace k3 := k3.below hbel
              replace k4 := k4.below hbel
              replace b := b.trans (hbel.mono b.size)
              replace hs := hs.below hbel
              replace hl := hl.below hbel
              replace hd := hd.below hbel
              replace hv := hv.below hbel
              replace hq := hq.below hbel
              clear hbel
              generalize W.drewN nq = W at *
              obtain ⟨k5, hk5, hk6⟩ := htk.out N
              have hKt := fun W h1 h2 h3 h4 => Keeps_any s A O D V k c k co N cd N cv bs (l.take N) (v.take N) W h1 h2 h3 h4
              simp only [hk5] at hKt
              replace hk5 := Lib.hid hk5
              replace hk6 := Lib.hid hk6
              obtain ⟨c4, f4, l4⟩ := k4.rules
              go_wp2_with fail
              clear c4 f4 l4
              refine wp_held_np (fun w' : World => (∀ j, w'.cell? ⟨w.heap.size, j, none⟩ = #[Value.int .i64 s.head, .slice A k c, .int .i64 s.lane.lo, .int .i64 s.lane.hi, .int .i64 s.bend, .slice O k co][j]?) ∧ (∀ j, w'.cell? ⟨w.heap.size + 1, j, none⟩ = #[Value.slice D q cd, .slice V q cv][j]?)) (by kernel_rfl) ?_
              have hbel : Below W.heap.size W W.drew := (Below.refl _ _).drew
              replace k3 := k3.below hbel
              replace k4 := k4.below hbel
              replace b := b.trans (hbel.mono b.size)
              replace hs := hs.below hbel
              replace hl := hl.below hbel
              replace hd := hd.below hbel
              replace hv := hv.below hbel
              replace hq := hq.below hbel
              clear hbel
              generalize W.drew = W at *
              have hS : (fun w' : World => (∀ j, w'.cell? ⟨w.heap.size, j, none⟩ = #[Value.int .i64 s.head, .slice A k c, .int .i64 s.lane.lo, .int .i64 s.lane.hi, .int .i64 s.bend, .slice O k co][j]?) ∧ (∀ j, w'.cell? ⟨w.heap.size + 1, j, none⟩ = #[Value.slice D q cd, .slice V q cv][j]?)) W := ⟨k3.cell, k4.cell⟩
              refine held_take (i := 0) (v := ?_) 152 rfl rfl (by kernel_rfl) (by kernel_rfl) (by kernel_rfl) (fun _ _ _ h => h) (Or.inl ⟨by rfl, ?_⟩) hS ?_
              rotate_left 1
              · intro w' hSw
                try dsimp only at hSw
                obtain ⟨q3, q4⟩ := hSw
                go_simp
                all_goals with_reducible rfl
              try simp only [Act.put, List.setIfInBounds_toArray, List.set_cons_zero, List.set_cons_succ]
              refine held_take (i := 1) (v := ?_) 153 rfl rfl (by kernel_rfl) (by kernel_rfl) (by kernel_rfl) (fun _ _ _ h => h) (Or.inl ⟨by rfl, ?_⟩) hS ?_
              rotate_left 1
              · intro w' hSw
                try dsimp only at hSw
                obtain ⟨q3, q4⟩ := hSw
                go_simp
                all_goals with_reducible rfl
              try simp only [Act.put, List.setIfInBounds_toArray, List.set_cons_zero, List.set_cons_succ]
              refine held_take (i := 2) (v := ?_) 154 rfl rfl (by kernel_rfl) (by kernel_rfl) (by kernel_rfl) (fun _ _ _ h => h) (Or.inl ⟨by rfl, ?_⟩) hS ?_
              rotate_left 1
              · intro w' hSw
                try dsimp only at hSw
                obtain ⟨q3, q4⟩ := hSw
                go_simp
                all_goals with_reducible rfl
              try simp only [Act.put, List.setIfInBounds_toArray, List.set_cons_zero, List.set_cons_succ]
              refine held_take (i := 3) (v := ?_) 155 rfl rfl (by kernel_rfl) (by kernel_rfl) (by kernel_rfl) (fun _ _ _ h => h) (Or.inl ⟨by rfl, ?_⟩) hS ?_
              rotate_left 1
              · intro w' hSw
                try dsimp only at hSw
                obtain ⟨q3, q4⟩ := hSw
                go_simp
                all_goals with_reducible rfl
              try simp only [Act.put, List.setIfInBounds_toArray, List.set_cons_zero, List.set_cons_succ]
              refine held_take (i := 4) (v := ?_) 156 rfl rfl (by kernel_rfl) (by kernel_rfl) (by kernel_rfl) (fun _ _ _ h => h) (Or.inl ⟨by rfl, ?_⟩) hS ?_
              rotate_left 1
              · intro w' hSw
                try dsimp only at hSw
                obtain ⟨q3, q4⟩ := hSw
                go_simp
                all_goals with_reducible rfl
              try simp only [Act.put, List.setIfInBounds_toArray, List.set_cons_zero, List.set_cons_succ]
              refine held_take (i := 5) (v := ?_) 157 rfl rfl (by kernel_rfl) (by kernel_rfl) (by kernel_rfl) (fun _ _ _ h => h) (Or.inl ⟨by rfl, ?_⟩) hS ?_
              rotate_left 1
              · intro w' hSw
                try dsimp only at hSw
                obtain ⟨q3, q4⟩ := hSw
                go_simp
                all_goals with_reducible rfl
              try simp only [Act.put, List.setIfInBounds_toArray, List.set_cons_zero, List.set_cons_succ]
              refine held_take (i := 6) (v := ?_) 158 rfl rfl (by kernel_rfl) (by kernel_rfl) (by kernel_rfl) (fun _ _ _ h => h) (Or.inl ⟨by rfl, ?_⟩) hS ?_
              rotate_left 1
              · intro w' hSw
                try dsimp only at hSw
                obtain ⟨q3, q4⟩ := hSw
                go_simp
                all_goals with_reducible rfl
              try simp only [Act.put, List.setIfInBounds_toArray, List.set_cons_zero, List.set_cons_succ]
              refine held_take (i := 7) (v := ?_) 159 rfl rfl (by kernel_rfl) (by kernel_rfl) (by kernel_rfl) (fun _ _ _ h => h) (Or.inl ⟨by rfl, ?_⟩) hS ?_
              rotate_left 1
              · intro w' hSw
                try dsimp only at hSw
                obtain ⟨q3, q4⟩ := hSw
                go_simp
                all_goals with_reducible rfl
              try simp only [Act.put, List.setIfInBounds_toArray, List.set_cons_zero, List.set_cons_succ]
              refine held_take (i := 8) (v := ?_) 160 rfl rfl (by kernel_rfl) (by kernel_rfl) (by kernel_rfl) (fun _ _ _ h => h) (Or.inl ⟨by rfl, ?_⟩) hS ?_
              rotate_left 1
              · intro w' hSw
                try dsimp only at hSw
                obtain ⟨q3, q4⟩ := hSw
                go_simp
                all_goals with_reducible rfl
              try simp only [Act.put, List.setIfInBounds_toArray, List.set_cons_zero, List.set_cons_succ]
              refine held_take (i := 9) (v := ?_) 161 rfl rfl (by kernel_rfl) (by kernel_rfl) (by kernel_rfl) (fun _ _ _ h => h) (Or.inl ⟨by rfl, ?_⟩) hS ?_
              rotate_left 1
              · intro w' hSw
                try dsimp only at hSw
                obtain ⟨q3, q4⟩ := hSw
                go_simp
                all_goals with_reducible rfl
              try simp only [Act.put, List.setIfInBounds_toArray, List.set_cons_zero, List.set_cons_succ]
              refine held_take (i := 10) (v := ?_) 162 rfl rfl (by kernel_rfl) (by kernel_rfl) (by kernel_rfl) (fun _ _ _ h => h) (Or.inl ⟨by rfl, ?_⟩) hS ?_
              rotate_left 1
              · intro w' hSw
                try dsimp only at hSw
                obtain ⟨q3, q4⟩ := hSw
                go_simp
                all_goals with_reducible rfl
              try simp only [Act.put, List.setIfInBounds_toArray, List.set_cons_zero, List.set_cons_succ]
              refine held_take (i := 11) (v := ?_) 163 rfl rfl (by kernel_rfl) (by kernel_rfl) (by kernel_rfl) (fun _ _ _ h => h) (Or.inl ⟨by rfl, ?_⟩) hS ?_
              rotate_left 1
              · intro w' hSw
                try dsimp only at hSw
                obtain ⟨q3, q4⟩ := hSw
                go_simp
                all_goals with_reducible rfl
              try simp only [Act.put, List.setIfInBounds_toArray, List.set_cons_zero, List.set_cons_succ]
              refine held_one (i := 12) (by kernel_rfl) rfl rfl (fun K hK => ?_)
              go_simp
              refine (hKt _ hs hl (hd.take hNq) (hv.take hNq)).mono ?_
              clear hKt hS
              rintro e W1 ⟨rfl, hbel⟩
              replace k3 := k3.below hbel
              replace k4 := k4.below hbel
              replace b := b.trans (hbel.mono b.size)
              replace hs := hs.below hbel
              replace hl := hl.below hbel
              replace hd := hd.below hbel
              replace hv := hv.below hbel
              replace hq := hq.below hbel
              clear hbel
              have hS : (fun w' : World => (∀ j, w'.cell? ⟨w.heap.size, j, none⟩ = #[Value.int .i64 s.head, .slice A k c, .int .i64 s.lane.lo, .int .i64 s.lane.hi, .int .i64 s.bend, .slice O k co][j]?) ∧ (∀ j, w'.cell? ⟨w.heap.size + 1, j, none⟩ = #[Value.slice D q cd, .slice V q cv][j]?)) W1 := ⟨k3.cell, k4.cell⟩
              refine hK _ _ hS ?_
              clear hK K
              try simp only [Act.put, List.setIfInBounds_toArray, List.set_cons_zero, List.set_cons_succ]
              refine held_take (i := 13) (v := ?_) 151 rfl rfl (by kernel_rfl) (by kernel_rfl) (by kernel_rfl) (fun _ _ _ h => h) (Or.inl ⟨by rfl, ?_⟩) hS ?_
              rotate_left 1
              · intro w' hSw
                try dsimp only at hSw
                obtain ⟨q3, q4⟩ := hSw
                go_simp
                all_goals with_reducible rfl
              try simp only [Act.put, List.setIfInBounds_toArray, List.set_cons_zero, List.set_cons_succ]
              refine held_take (i := 14) (v := ?_) 165 rfl rfl (by kernel_rfl) (by kernel_rfl) (by kernel_rfl) (fun _ _ _ h => h) (Or.inl ⟨by rfl, ?_⟩) hS ?_
              rotate_left 1
              · intro w' hSw
                try dsimp only at hSw
                obtain ⟨q3, q4⟩ := hSw
                go_simp
                all_goals with_reducible rfl
              try simp only [Act.put, List.setIfInBounds_toArray, List.set_cons_zero, List.set_cons_succ]
              refine held_take (i := 15) (v := ?_) 166 rfl rfl (by kernel_rfl) (by kernel_rfl) (by kernel_rfl) (fun _ _ _ h => h) (Or.inl ⟨by rfl, ?_⟩) hS ?_
              rotate_left 1
              · intro w' hSw
                try dsimp only at hSw
                obtain ⟨q3, q4⟩ := hSw
                go_simp
                all_goals with_reducible rfl
              try simp only [Act.put, List.setIfInBounds_toArray, List.set_cons_zero, List.set_cons_succ]
              refine held_take (i := 16) (v := ?_) 15 rfl rfl (by kernel_rfl) (by kernel_rfl) (by kernel_rfl) (fun _ _ _ h => h) (Or.inl ⟨by rfl, ?_⟩) hS ?_
              rotate_left 1
              · intro w' hSw
                try dsimp only at hSw
                obtain ⟨q3, q4⟩ := hSw
                go_simp
                all_goals with_reducible rfl
              try simp only [Act.put, List.setIfInBounds_toArray, List.set_cons_zero, List.set_cons_succ]
              refine held_take (i := 17) (v := ?_) 8 rfl rfl (by kernel_rfl) (by kernel_rfl) (by kernel_rfl) (fun _ _ _ h => h) (Or.inl ⟨by rfl, ?_⟩) hS ?_
              rotate_left 1
              · intro w' hSw
                try dsimp only at hSw
                obtain ⟨q3, q4⟩ := hSw
                go_simp
                all_goals with_reducible rfl
              try simp only [Act.put, List.setIfInBounds_toArray, List.set_cons_zero, List.set_cons_succ]
              refine wpAnyH_done (by kernel_rfl) (noPanic_normal ?_) _
              clear hS
              cases k5 with
              | false =>
                go_wp2_with fail
                refine (works_any _).mono ?_
                rintro e W ⟨rfl, hbel⟩
                go_wp2
                go_ret
                exact ⟨rfl, b.trans (hbel.mono b.size)⟩
              | true =>
                go_wp2_with fail
                refine (works_any _).mono ?_
                rintro e W ⟨rfl, hbel⟩
                go_wp2
                go_ret
                exact ⟨rfl, b.trans (hbel.mono b.size)⟩
            | true =>
              obtain rfl : ks2 = true := hn2.out rfl
              go_wp2_with fail
              obtain ⟨c4, f4, l4⟩ := k4.rules
              have hr := restS_bd (pickS bits 1) (many := (q : Int) + 1) (by omega)
              obtain ⟨N, hN⟩ : ∃ N : Nat, restS (pickS bits 1) ((q : Int) + 1) = N := ⟨(restS (pickS bits 1) ((q : Int) + 1)).toNat, by omega⟩
              have hR := fun W => flip_w (Rest_any (pickS bits 1) ((q : Int) + 1) W (by omega))
              simp only [hN] at hR
              rw [hN] at hr
              obtain ⟨rN1, rN2⟩ := hr
              replace hN := Lib.hid hN
              have hNq : N ≤ q := by omega
              have hNi : (N : Int) ≤ (q : Int) := by omega
              have hNc : N ≤ cd := Nat.le_trans hNq hd.lec
              have hNv : N ≤ cv := Nat.le_trans hNq hv.lec
              have u1 := IntWalk.i64_in ((q : Int) + 1) (by omega)
              go_wp2_with fail
              go_quiet ((first | (go_at_call 35; with_reducible exact Calls.quiet_of_same (flip_w (Pick_any bits 1 Q nQ cQ 0 _ (hq.drewN _)))) | (go_at_call 34; with_reducible exact Calls.quiet_of_same (hR _))))
              clear u1 hR c4 f4 l4
              have hbel : Below W.heap.size W (W.drewN nq) := below_drewN (Below.refl _ _) nq
              replace k3 := k3.below hbel
              replace k4 := k4.below hbel
              replace b := b.trans (hbel.mono b.size)
              replace hs := hs.below hbel
              replace hl := hl.below hbel
              replace hd := hd.below hbel
              replace hv := hv.below hbel
              replace hq := hq.below hbel
              clear hbel
              generalize W.drewN nq = W at *
              obtain ⟨k5, hk5, hk6⟩ := htk.out N
              have hKt := fun W h1 h2 h3 h4 => Keeps_any s A O D V k c k co N cd N cv bs (l.take N) (v.take N) W h1 h2 h3 h4
              simp only [hk5] at hKt
              replace hk5 := Lib.hid hk5
              replace hk6 := Lib.hid hk6
              obtain ⟨c4, f4, l4⟩ := k4.rules
              go_wp2_with fail
              clear c4 f4 l4
              refine wp_held_np (fun w' : World => (∀ j, w'.cell? ⟨w.heap.size, j, none⟩ = #[Value.int .i64 s.head, .slice A k c, .int .i64 s.lane.lo, .int .i64 s.lane.hi, .int .i64 s.bend, .slice O k co][j]?) ∧ (∀ j, w'.cell? ⟨w.heap.size + 1, j, none⟩ = #[Value.slice D q cd, .slice V q cv][j]?)) (by kernel_rfl) ?_
              have hbel : Below W.heap.size W W.drew := (Below.refl _ _).drew
              replace k3 := k3.below hbel
              replace k4 := k4.below hbel
              replace b := b.trans (hbel.mono b.size)
              replace hs := hs.below hbel
              replace hl := hl.below hbel
              replace hd := hd.below hbel
              replace hv := hv.below hbel
              replace hq := hq.below hbel
              clear hbel
              generalize W.drew = W at *
              have hS : (fun w' : World => (∀ j, w'.cell? ⟨w.heap.size, j, none⟩ = #[Value.int .i64 s.head, .slice A k c, .int .i64 s.lane.lo, .int .i64 s.lane.hi, .int .i64 s.bend, .slice O k co][j]?) ∧ (∀ j, w'.cell? ⟨w.heap.size + 1, j, none⟩ = #[Value.slice D q cd, .slice V q cv][j]?)) W := ⟨k3.cell, k4.cell⟩
              refine held_take (i := 0) (v := ?_) 152 rfl rfl (by kernel_rfl) (by kernel_rfl) (by kernel_rfl) (fun _ _ _ h => h) (Or.inl ⟨by rfl, ?_⟩) hS ?_
              rotate_left 1
              · intro w' hSw
                try dsimp only at hSw
                obtain ⟨q3, q4⟩ := hSw
                go_simp
                all_goals with_reducible rfl
              try simp only [Act.put, List.setIfInBounds_toArray, List.set_cons_zero, List.set_cons_succ]
              refine held_take (i := 1) (v := ?_) 153 rfl rfl (by kernel_rfl) (by kernel_rfl) (by kernel_rfl) (fun _ _ _ h => h) (Or.inl ⟨by rfl, ?_⟩) hS ?_
              rotate_left 1
              · intro w' hSw
                try dsimp only at hSw
                obtain ⟨q3, q4⟩ := hSw
                go_simp
                all_goals with_reducible rfl
              try simp only [Act.put, List.setIfInBounds_toArray, List.set_cons_zero, List.set_cons_succ]
              refine held_take (i := 2) (v := ?_) 154 rfl rfl (by kernel_rfl) (by kernel_rfl) (by kernel_rfl) (fun _ _ _ h => h) (Or.inl ⟨by rfl, ?_⟩) hS ?_
              rotate_left 1
              · intro w' hSw
                try dsimp only at hSw
                obtain ⟨q3, q4⟩ := hSw
                go_simp
                all_goals with_reducible rfl
              try simp only [Act.put, List.setIfInBounds_toArray, List.set_cons_zero, List.set_cons_succ]
              refine held_take (i := 3) (v := ?_) 155 rfl rfl (by kernel_rfl) (by kernel_rfl) (by kernel_rfl) (fun _ _ _ h => h) (Or.inl ⟨by rfl, ?_⟩) hS ?_
              rotate_left 1
              · intro w' hSw
                try dsimp only at hSw
                obtain ⟨q3, q4⟩ := hSw
                go_simp
                all_goals with_reducible rfl
              try simp only [Act.put, List.setIfInBounds_toArray, List.set_cons_zero, List.set_cons_succ]
              refine held_take (i := 4) (v := ?_) 156 rfl rfl (by kernel_rfl) (by kernel_rfl) (by kernel_rfl) (fun _ _ _ h => h) (Or.inl ⟨by rfl, ?_⟩) hS ?_
              rotate_left 1
              · intro w' hSw
                try dsimp only at hSw
                obtain ⟨q3, q4⟩ := hSw
                go_simp
                all_goals with_reducible rfl
              try simp only [Act.put, List.setIfInBounds_toArray, List.set_cons_zero, List.set_cons_succ]
              refine held_take (i := 5) (v := ?_) 157 rfl rfl (by kernel_rfl) (by kernel_rfl) (by kernel_rfl) (fun _ _ _ h => h) (Or.inl ⟨by rfl, ?_⟩) hS ?_
              rotate_left 1
              · intro w' hSw
                try dsimp only at hSw
                obtain ⟨q3, q4⟩ := hSw
                go_simp
                all_goals with_reducible rfl
              try simp only [Act.put, List.setIfInBounds_toArray, List.set_cons_zero, List.set_cons_succ]
              refine held_take (i := 6) (v := ?_) 158 rfl rfl (by kernel_rfl) (by kernel_rfl) (by kernel_rfl) (fun _ _ _ h => h) (Or.inl ⟨by rfl, ?_⟩) hS ?_
              rotate_left 1
              · intro w' hSw
                try dsimp only at hSw
                obtain ⟨q3, q4⟩ := hSw
                go_simp
                all_goals with_reducible rfl
              try simp only [Act.put, List.setIfInBounds_toArray, List.set_cons_zero, List.set_cons_succ]
              refine held_take (i := 7) (v := ?_) 159 rfl rfl (by kernel_rfl) (by kernel_rfl) (by kernel_rfl) (fun _ _ _ h => h) (Or.inl ⟨by rfl, ?_⟩) hS ?_
              rotate_left 1
              · intro w' hSw
                try dsimp only at hSw
                obtain ⟨q3, q4⟩ := hSw
                go_simp
                all_goals with_reducible rfl
              try simp only [Act.put, List.setIfInBounds_toArray, List.set_cons_zero, List.set_cons_succ]
              refine held_take (i := 8) (v := ?_) 160 rfl rfl (by kernel_rfl) (by kernel_rfl) (by kernel_rfl) (fun _ _ _ h => h) (Or.inl ⟨by rfl, ?_⟩) hS ?_
              rotate_left 1
              · intro w' hSw
                try dsimp only at hSw
                obtain ⟨q3, q4⟩ := hSw
                go_simp
                all_goals with_reducible rfl
              try simp only [Act.put, List.setIfInBounds_toArray, List.set_cons_zero, List.set_cons_succ]
              refine held_take (i := 9) (v := ?_) 161 rfl rfl (by kernel_rfl) (by kernel_rfl) (by kernel_rfl) (fun _ _ _ h => h) (Or.inl ⟨by rfl, ?_⟩) hS ?_
              rotate_left 1
              · intro w' hSw
                try dsimp only at hSw
                obtain ⟨q3, q4⟩ := hSw
                go_simp
                all_goals with_reducible rfl
              try simp only [Act.put, List.setIfInBounds_toArray, List.set_cons_zero, List.set_cons_succ]
              refine held_take (i := 10) (v := ?_) 162 rfl rfl (by kernel_rfl) (by kernel_rfl) (by kernel_rfl) (fun _ _ _ h => h) (Or.inl ⟨by rfl, ?_⟩) hS ?_
              rotate_left 1
              · intro w' hSw
                try dsimp only at hSw
                obtain ⟨q3, q4⟩ := hSw
                go_simp
                all_goals with_reducible rfl
              try simp only [Act.put, List.setIfInBounds_toArray, List.set_cons_zero, List.set_cons_succ]
              refine held_take (i := 11) (v := ?_) 163 rfl rfl (by kernel_rfl) (by kernel_rfl) (by kernel_rfl) (fun _ _ _ h => h) (Or.inl ⟨by rfl, ?_⟩) hS ?_
              rotate_left 1
              · intro w' hSw
                try dsimp only at hSw
                obtain ⟨q3, q4⟩ := hSw
                go_simp
                all_goals with_reducible rfl
              try simp only [Act.put, List.setIfInBounds_toArray, List.set_cons_zero, List.set_cons_succ]
              refine held_one (i := 12) (by kernel_rfl) rfl rfl (fun K hK => ?_)
              go_simp
              refine (hKt _ hs hl (hd.take hNq) (hv.take hNq)).mono ?_
              clear hKt hS
              rintro e W1 ⟨rfl, hbel⟩
              replace k3 := k3.below hbel
              replace k4 := k4.below hbel
              replace b := b.trans (hbel.mono b.size)
              replace hs := hs.below hbel
              replace hl := hl.below hbel
              replace hd := hd.below hbel
              replace hv := hv.below hbel
              replace hq := hq.below hbel
              clear hbel
              have hS : (fun w' : World => (∀ j, w'.cell? ⟨w.heap.size, j, none⟩ = #[Value.int .i64 s.head, .slice A k c, .int .i64 s.lane.lo, .int .i64 s.lane.hi, .int .i64 s.bend, .slice O k co][j]?) ∧ (∀ j, w'.cell? ⟨w.heap.size + 1, j, none⟩ = #[Value.slice D q cd, .slice V q cv][j]?)) W1 := ⟨k3.cell, k4.cell⟩
              refine hK _ _ hS ?_
              clear hK K
              try simp only [Act.put, List.setIfInBounds_toArray, List.set_cons_zero, List.set_cons_succ]
              refine held_take (i := 13) (v := ?_) 151 rfl rfl (by kernel_rfl) (by kernel_rfl) (by kernel_rfl) (fun _ _ _ h => h) (Or.inl ⟨by rfl, ?_⟩) hS ?_
              rotate_left 1
              · intro w' hSw
                try dsimp only at hSw
                obtain ⟨q3, q4⟩ := hSw
                go_simp
                all_goals with_reducible rfl
              try simp only [Act.put, List.setIfInBounds_toArray, List.set_cons_zero, List.set_cons_succ]
              refine held_take (i := 14) (v := ?_) 165 rfl rfl (by kernel_rfl) (by kernel_rfl) (by kernel_rfl) (fun _ _ _ h => h) (Or.inl ⟨by rfl, ?_⟩) hS ?_
              rotate_left 1
              · intro w' hSw
                try dsimp only at hSw
                obtain ⟨q3, q4⟩ := hSw
                go_simp
                all_goals with_reducible rfl
              try simp only [Act.put, List.setIfInBounds_toArray, List.set_cons_zero, List.set_cons_succ]
              refine held_take (i := 15) (v := ?_) 166 rfl rfl (by kernel_rfl) (by kernel_rfl) (by kernel_rfl) (fun _ _ _ h => h) (Or.inl ⟨by rfl, ?_⟩) hS ?_
              rotate_left 1
              · intro w' hSw
                try dsimp only at hSw
                obtain ⟨q3, q4⟩ := hSw
                go_simp
                all_goals with_reducible rfl
              try simp only [Act.put, List.setIfInBounds_toArray, List.set_cons_zero, List.set_cons_succ]
              refine held_take (i := 16) (v := ?_) 15 rfl rfl (by kernel_rfl) (by kernel_rfl) (by kernel_rfl) (fun _ _ _ h => h) (Or.inl ⟨by rfl, ?_⟩) hS ?_
              rotate_left 1
              · intro w' hSw
                try dsimp only at hSw
                obtain ⟨q3, q4⟩ := hSw
                go_simp
                all_goals with_reducible rfl
              try simp only [Act.put, List.setIfInBounds_toArray, List.set_cons_zero, List.set_cons_succ]
              refine held_take (i := 17) (v := ?_) 8 rfl rfl (by kernel_rfl) (by kernel_rfl) (by kernel_rfl) (fun _ _ _ h => h) (Or.inl ⟨by rfl, ?_⟩) hS ?_
              rotate_left 1
              · intro w' hSw
                try dsimp only at hSw
                obtain ⟨q3, q4⟩ := hSw
                go_simp
                all_goals with_reducible rfl
              try simp only [Act.put, List.setIfInBounds_toArray, List.set_cons_zero, List.set_cons_succ]
              refine wpAnyH_done (by kernel_rfl) (noPanic_normal ?_) _
              clear hS
              obtain rfl : k5 = true := hk6.out trivial
              go_wp2_with fail
              refine (works_any _).mono ?_
              rintro e W ⟨rfl, hbel⟩
              go_wp2
              go_ret
              exact ⟨rfl, b.trans (hbel.mono b.size)⟩
  · have e2 : keepsR s bs l v = (false, errW s bs l v) := by rw [keepsR, if_neg he]
    simp only [e2] at hKp
    clear e2
    generalize errW s bs l v = er at *
    have he1 : (er == 0) = false := by rw [beq_eq_false_iff_ne]; exact he
    have he2 : (er != 0) = true := by rw [bne_iff_ne]; exact he
    go_enter Try.func10, Try.ntmps10
    go_wp2_with fail
    rw [← hw1]
    clear hw1
    refine (hKp _ hs hl hd hv).mono ?_
    clear hKp
    rintro e W ⟨rfl, hbel⟩
    replace k3 := k3.below hbel
    replace k4 := k4.below hbel
    replace b := b.trans (hbel.mono b.size)
    replace hs := hs.below hbel
    replace hl := hl.below hbel
    replace hd := hd.below hbel
    replace hv := hv.below hbel
    replace hq := hq.below hbel
    clear hbel
    go_wp2_with fail
    refine (works_any _).mono ?_
    rintro e W ⟨rfl, hbel⟩
    go_wp2
    go_ret
    exact ⟨rfl, b.trans (hbel.mono b.size)⟩
end Go.Proofs.Ytjiaepphnddpoaa
