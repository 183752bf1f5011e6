/-
  The law TowFast.
-/
import Derived.Test.YtjiaepphnddpoaaE1
import Derived.Test.YtjiaepphnddpoaaH2
namespace Go.Proofs.Ytjiaepphnddpoaa
open Go.RowKit Go.Shelf
set_option linter.unusedSimpArgs false
set_option linter.unusedVariables false

theorem keepA {w : World} {o : Obj} {p : Addr} {v : Value} (h : w.cell? p = some v) : (w.alloc o).cell? p = some v := (World.cell?_alloc_lt _ _ _ (World.block_lt_of_cell? _ _ h)).trans h
theorem isPlan_take {ch l : List Int} {k : Nat} {x : Int} (h : l[k]? = some x) : isPlan ch (l.take (k + 1)) = (isPlan ch (l.take k) && decide (0 ≤ x ∧ x ≤ ch.length - 1)) := by
  unfold isPlan; rw [List.take_add_one, h]; simp
theorem speedsOf_take {ch l : List Int} {k : Nat} {x : Int} (h : l[k]? = some x) : speedsOf ch (l.take (k + 1)) = speedsOf ch (l.take k) ++ [ch.getD x.toNat 0] := by
  unfold speedsOf; rw [List.take_add_one, h]; simp
def RetSp (ch plan : List Int) (nd : Nat) (w : World) (e : Ending) (w' : World) : Prop :=
  ∃ P n pc, e = .returned (.tuple #[.slice P n pc, .bool (isPlan ch plan && decide (plan.length = nd))]) ∧ SlAt w' w.heap.size 1 ivs P n pc (if isPlan ch plan = true then speedsOf ch plan else []) ∧ Below w.heap.size w w'
set_option maxRecDepth 100000 in
set_option maxHeartbeats 2000000 in
theorem speedsF_any (ch plan : List Int) (A C D : Option Addr) (n c nc cc nd cd g1 g2 : Nat) (t1 t2 : TypeId) (w : World) (hs : SlAt w 0 1 ivs A n c plan) (hc : SlAt w 0 1 ivs C nc cc ch) (hn : n ≤ 17592186044416) (hnd : nd ≤ 17592186044416)
    (k1 : Blk w g1 t1 #[.slice C nc cc]) (k2 : Blk w g2 t2 #[.slice D nd cd]) :
    Calls Try.prog 40 #[.slice A n c, .pointer (some ⟨g1, 0, none⟩), .pointer (some ⟨g2, 0, none⟩)] w (RetSp ch plan nd w) := by
  have hl := Lib.hid hs.len
  have hcl := Lib.hid hc.len
  have hcn := hc.le
  go_enter Try.func40, Try.ntmps40
  go_wp2_with fail
  go_loopw [6, 7] (fun v i wr => ∃ k : Nat, i = .int .i64 k ∧ k ≤ n ∧ isPlan ch (plan.take k) = true ∧ wr.ownsRow w.heap.size 3 1 v k ((speedsOf ch (plan.take k)).map (.int .i64 ·)) ∧ Below w.heap.size w wr) (fun v i wr => n - (intOf i).toNat)
  case atStart => exact ⟨0, rfl, Nat.zero_le _, rfl, ⟨rfl, .inl ⟨rfl, rfl⟩⟩, Below.refl _ _⟩
  case round =>
    obtain ⟨k, rfl, hk, hip, hown, hb⟩ := hrel
    replace hip := Lib.hid hip
    have k1w := k1.below hb
    have k2w := k2.below hb
    by_cases hlt : k < n
    · obtain ⟨x, hx⟩ := some_of_lt hl.out hlt
      have hnx := Lib.hid (isPlan_take (ch := ch) hx)
      have hsx := Lib.hid (speedsOf_take (ch := ch) hx)
      obtain ⟨b, off, hA, -, hbl, e0⟩ := (hs.below hb).int hx
      obtain ⟨_, _, hA', _, hbl0, _⟩ := hs.int hx
      have hk0 : (0 : Int) ≤ (k : Int) := by omega
      have hk1 : (k : Int) < (n : Int) := by omega
      have u1 := IntWalk.i64_in ((nc : Int) - 1) (by omega)
      have hB := fun W => flip_w (Between_any x 0 ((nc : Int) - 1) W)
      subst hA
      cases hA'
      obtain ⟨c1, f1, l1⟩ := k1w.rules
      by_cases hq : 0 ≤ x ∧ x ≤ (nc : Int) - 1
      · simp only [decide_eq_true hq] at hB
        have hq2 : Hid (isPlan ch (plan.take (k + 1)) = true) := by show _ = _; rw [hnx.out, hip.out, hcl.out, decide_eq_true hq]; rfl
        obtain ⟨m, rfl⟩ : ∃ m : Nat, x = (m : Int) := ⟨x.toNat, by omega⟩
        have hmn : m < nc := by omega
        obtain ⟨y, hy⟩ := some_of_lt hcl.out hmn
        have hyd : Hid (ch.getD (m : Int).toNat 0 = y) := by show _ = _; rw [Int.toNat_natCast]; exact getD_of _ hy
        obtain ⟨b2, off2, hC, -, hbl2, e2⟩ := (hc.below hb).int hy
        obtain ⟨_, _, hC', _, hbl3, _⟩ := hc.int hy
        subst hC
        cases hC'
        have hm0 : (0 : Int) ≤ (m : Int) := by omega
        have hm1 : (m : Int) < (nc : Int) := by omega
        replace hx := Lib.hid hx
        replace hy := Lib.hid hy
        clear hq
        go_wp2_with fail
        go_quiet ((go_at_call 32; with_reducible exact Calls.quiet_of_same (hB _)))
        clear c1 f1 l1 u1 hB
        have hbel : Below wr.heap.size wr (wr.drewN nq) := below_drewN (Below.refl _ _) nq
        replace k1w := k1w.below hbel
        replace e0 := (hbel.cell (p := ⟨b, off + k, none⟩) hbl).trans e0
        replace e2 := (hbel.cell (p := ⟨b2, off2 + m, none⟩) hbl2).trans e2
        replace hb := hb.trans (hbel.mono hb.size)
        replace hown := ownsRow_below hown hbel
        clear hbel
        generalize wr.drewN nq = wr at *
        go_wp2_with fail
        refine wp_held_np (fun w' : World => w'.cell? ⟨g1, 0, none⟩ = some (.slice (some ⟨b2, off2, none⟩) nc cc) ∧ w'.cell? ⟨b, off + k, none⟩ = some (.int .i64 (m : Int)) ∧ w'.cell? ⟨b2, off2 + m, none⟩ = some (.int .i64 y)) (by kernel_rfl) ?_
        replace hb := hb.drew
        replace hown : wr.drew.ownsRow _ _ _ _ _ _ := hown
        have hS : (fun w' : World => w'.cell? ⟨g1, 0, none⟩ = some (.slice (some ⟨b2, off2, none⟩) nc cc) ∧ w'.cell? ⟨b, off + k, none⟩ = some (.int .i64 (m : Int)) ∧ w'.cell? ⟨b2, off2 + m, none⟩ = some (.int .i64 y)) wr.drew := ⟨k1w.cell 0, e0, e2⟩
        generalize wr.drew = W at *
        refine held_take (i := 0) (v := ?_) 23 rfl rfl (by kernel_rfl) (by kernel_rfl) (by kernel_rfl) (fun _ _ _ h => h) (Or.inl ⟨by rfl, ?_⟩) hS ?_
        rotate_left 1
        · intro w' hSw
          try dsimp only at hSw
          obtain ⟨q1, q2, q3⟩ := hSw
          go_simp
          all_goals with_reducible rfl
        try simp only [Act.put, List.setIfInBounds_toArray, List.set_cons_zero, List.set_cons_succ]
        refine held_take (i := 1) (v := ?_) 24 rfl rfl (by kernel_rfl) (by kernel_rfl) (by kernel_rfl) (fun _ _ _ h => h) (Or.inl ⟨by rfl, ?_⟩) hS ?_
        rotate_left 1
        · intro w' hSw
          try dsimp only at hSw
          obtain ⟨q1, q2, q3⟩ := hSw
          go_simp
          all_goals with_reducible rfl
        try simp only [Act.put, List.setIfInBounds_toArray, List.set_cons_zero, List.set_cons_succ]
        refine held_take (i := 2) (v := ?_) 25 rfl rfl (by kernel_rfl) (by kernel_rfl) (by kernel_rfl) (fun _ _ _ h => h) (Or.inl ⟨by rfl, ?_⟩) hS ?_
        rotate_left 1
        · intro w' hSw
          try dsimp only at hSw
          obtain ⟨q1, q2, q3⟩ := hSw
          go_simp
          all_goals with_reducible rfl
        try simp only [Act.put, List.setIfInBounds_toArray, List.set_cons_zero, List.set_cons_succ]
        refine held_take (i := 3) (v := ?_) 26 rfl rfl (by kernel_rfl) (by kernel_rfl) (by kernel_rfl) (fun _ _ _ h => h) (Or.inl ⟨by rfl, ?_⟩) hS ?_
        rotate_left 1
        · intro w' hSw
          try dsimp only at hSw
          obtain ⟨q1, q2, q3⟩ := hSw
          go_simp
          all_goals with_reducible rfl
        try simp only [Act.put, List.setIfInBounds_toArray, List.set_cons_zero, List.set_cons_succ]
        refine held_take (i := 4) (v := ?_) 27 rfl rfl (by kernel_rfl) (by kernel_rfl) (by kernel_rfl) (fun _ _ _ h => h) (Or.inl ⟨by rfl, ?_⟩) hS ?_
        rotate_left 1
        · intro w' hSw
          try dsimp only at hSw
          obtain ⟨q1, q2, q3⟩ := hSw
          go_simp
          all_goals with_reducible rfl
        try simp only [Act.put, List.setIfInBounds_toArray, List.set_cons_zero, List.set_cons_succ]
        refine held_take (i := 5) (v := ?_) 28 rfl rfl (by kernel_rfl) (by kernel_rfl) (by kernel_rfl) (fun _ _ _ h => h) (Or.inl ⟨by rfl, ?_⟩) hS ?_
        rotate_left 1
        · intro w' hSw
          try dsimp only at hSw
          obtain ⟨q1, q2, q3⟩ := hSw
          go_simp
          all_goals with_reducible rfl
        try simp only [Act.put, List.setIfInBounds_toArray, List.set_cons_zero, List.set_cons_succ]
        refine held_take (i := 6) (v := ?_) 29 rfl rfl (by kernel_rfl) (by kernel_rfl) (by kernel_rfl) (fun _ _ _ h => h) (Or.inl ⟨by rfl, ?_⟩) hS ?_
        rotate_left 1
        · intro w' hSw
          try dsimp only at hSw
          obtain ⟨q1, q2, q3⟩ := hSw
          go_simp
          all_goals with_reducible rfl
        try simp only [Act.put, List.setIfInBounds_toArray, List.set_cons_zero, List.set_cons_succ]
        refine held_take (i := 7) (v := ?_) 30 rfl rfl (by kernel_rfl) (by kernel_rfl) (by kernel_rfl) (fun _ _ _ h => h) (Or.inl ⟨by rfl, ?_⟩) hS ?_
        rotate_left 1
        · intro w' hSw
          try dsimp only at hSw
          obtain ⟨q1, q2, q3⟩ := hSw
          go_simp
          all_goals with_reducible rfl
        try simp only [Act.put, List.setIfInBounds_toArray, List.set_cons_zero, List.set_cons_succ]
        have hbig1 : Hid (k + 1 ≤ maxLen) := by show k + 1 ≤ maxLen; unfold maxLen; omega
        have hbig2 : Hid ((k + 1) * 8 ≤ 140737488355328) := by show (k + 1) * 8 ≤ 140737488355328; omega
        obtain ⟨i0, hi0, hz0, hz1, hz2⟩ := info_parts Try.infoInt
        have hnews : ∀ (j : Nat) (u : Value), ([.int .i64 (y)] : List Value)[j]? = some u → (W.alloc (.cells #[.int .i64 (y)] 3)).cell? ((⟨W.heap.size, 0, none⟩ : Addr).add j) = some u :=
          World.news_of_block (cs := #[.int .i64 (y)]) (World.alloc_heap_new W _)
        have hownf := hown.alloc (.cells #[.int .i64 (y)] 3)
        have hbf := hb.alloc hb.size (.cells #[.int .i64 (y)] 3)
        refine held_one (i := 8) (by kernel_rfl) rfl rfl (fun K hK => ?_)
        go_simp
        refine hK _ _ (⟨keepA hS.1, keepA hS.2.1, keepA hS.2.2⟩) ?_
        clear hK K
        try simp only [Act.put, List.setIfInBounds_toArray, List.set_cons_zero, List.set_cons_succ]
        refine held_one (i := 9) (by kernel_rfl) rfl rfl (fun K hK => ?_)
        refine wp_append_lies _ _ _ 27 (by rfl) w.heap.size 3 i0 (.int .i64 0) 1 8 Try.underlying27 hi0 hz0 hz1 hz2 rfl (by omega) u6 k ((speedsOf ch (plan.take k)).map (.int .i64 ·)) (by rfl) hownf ⟨W.heap.size, 0, none⟩ 1 1 [.int .i64 (y)] (by rfl) rfl hnews (by simp [Value.oneCell']) (by omega) hbig1.out hbig2.out (hbf.size) (W.heap.size + 1) (by simp) ?_
        intro g cap w7 hown7 hgrow hlies hlt7
        have hbg : Below w.heap.size _ w7 := ⟨hgrow.os, hgrow.tape, hgrow.output, hgrow.size, fun b hb2 => hgrow.block b (Nat.lt_of_lt_of_le hb2 hbf.size) (fun e => by have := (hownf.lt _ e.symm).1; omega)⟩
        have hbh := hbf.trans hbg
        have k1v := k1.below hbh
        have hS7 : (fun w' : World => w'.cell? ⟨g1, 0, none⟩ = some (.slice (some ⟨b2, off2, none⟩) nc cc) ∧ w'.cell? ⟨b, off + k, none⟩ = some (.int .i64 (m : Int)) ∧ w'.cell? ⟨b2, off2 + m, none⟩ = some (.int .i64 y)) w7 :=
          ⟨k1v.cell 0, by
            obtain ⟨_, _, h1, _, _, h2⟩ := (hs.below hbh).int hx.out
            cases h1; exact h2, by
            obtain ⟨_, _, h1, _, _, h2⟩ := (hc.below hbh).int hy.out
            cases h1; exact h2⟩
        refine hK _ _ hS7 ?_
        clear hK K hS
        try simp only [Act.put, List.setIfInBounds_toArray, List.set_cons_zero, List.set_cons_succ]
        refine held_take (i := 10) (v := ?_) 6 rfl rfl (by kernel_rfl) (by kernel_rfl) (by kernel_rfl) (fun _ _ _ h => h) (Or.inl ⟨by rfl, ?_⟩) hS7 ?_
        rotate_left 1
        · intro w' hSw
          try dsimp only at hSw
          obtain ⟨q1, q2, q3⟩ := hSw
          go_simp
          all_goals with_reducible rfl
        try simp only [Act.put, List.setIfInBounds_toArray, List.set_cons_zero, List.set_cons_succ]
        refine wpAnyH_done (by kernel_rfl) (noPanic_normal ?_) _
        clear hS7
        go_wp2
        go_roundw
        case rel =>
          refine ⟨k + 1, by go_num, by omega, hq2.out, ?_, hbh⟩
          rw [hsx.out, hyd.out, List.map_append]
          simpa using hown7
        case measure => simp [intOf]; omega
      · simp only [decide_eq_false hq] at hB
        have hq2 : Hid (isPlan ch plan = false) := by
          show _ = _
          unfold isPlan
          rw [List.all_eq_false]
          exact ⟨x, List.mem_of_getElem? hx, by rw [hcl.out]; simpa using hq⟩
        replace hx := Lib.hid hx
        replace hq := Lib.hid hq
        go_wp2_with fail
        go_quiet ((go_at_call 32; with_reducible exact Calls.quiet_of_same (hB _)))
        go_wp2
        go_ret2
        refine ⟨none, 0, 0, by rw [hq2.out]; rfl, by rw [hq2.out]; exact SlAt.nil _ _ _ _, below_drewN hb _⟩
    · obtain rfl : k = n := by omega
      have ht : Hid (plan.take k = plan) := List.take_of_length_le (by rw [hl.out]; exact Nat.le_refl _)
      rw [ht.out] at hip hown
      obtain ⟨c1, f1, l1⟩ := k1w.rules
      obtain ⟨c2, f2, l2⟩ := k2w.rules
      go_wp2_with fail
      go_quiet (fail)
      go_wp2
      go_ret2
      obtain ⟨P, pc, e2, h2⟩ := SlAt.of_own (enc := ivs) hown (by omega) (speedsOf ch plan) (flatMap_ivs _).symm (fun _ => rfl) (by unfold speedsOf; rw [List.length_map]; exact hl.out)
      refine ⟨P, k, pc, ?_, by rw [hip.out, if_pos rfl]; exact h2.drewN _, below_drewN hb _⟩
      have hbe : decide (k = nd) = ((k : Int) == (nd : Int)) := by rw [Bool.eq_iff_iff, beq_iff_eq, decide_eq_true_eq]; omega
      rw [e2, hip.out, hl.out, Bool.true_and, hbe]
      rfl
theorem fastR_none {s : Strm} {bs : List Bnd} {l : List Wat} {ch : List Int} (h0 : (fastR s bs l ch).2.2 ≠ 0) : (fastR s bs l ch).1 = [] ∧ (fastR s bs l ch).2.1 = 0 := by
  unfold fastR at *
  split
  · exact ⟨rfl, rfl⟩
  · rename_i h1
    rw [if_neg h1] at h0
    split
    · exact ⟨rfl, rfl⟩
    · rename_i h2
      rw [if_neg h2] at h0
      split
      · exact ⟨rfl, rfl⟩
      · rename_i h3
        rw [if_neg h3] at h0
        dsimp only at h0 ⊢
        split
        · rename_i h4
          rw [if_pos h4] at h0
          exact absurd rfl h0
        · exact ⟨rfl, rfl⟩
set_option maxRecDepth 100000 in
set_option maxHeartbeats 8000000 in
theorem TowFast_any (s : Strm) (A O D C Q : Option Addr) (n c no co nd cd nc cc nq cq : Nat) (bs : List Bnd) (l : List Wat) (ch plan : List Int) (w : World) (hs : SlAt w 0 5 Sec.cells A n c s.secs) (hl : SlAt w 0 2 Bnd.cells O no co bs) (hd : SlAt w 0 4 Wat.cells D nd cd l) (hc : SlAt w 0 1 ivs C nc cc ch) (hp : SlAt w 0 1 ivs Q nq cq plan) :
    Calls Try.prog 11 #[.agg #[.int .i64 s.head, .slice A n c, .int .i64 s.lane.lo, .int .i64 s.lane.hi, .int .i64 s.bend, .slice O no co], .slice D nd cd, .slice C nc cc, .slice Q nq cq] w fun e w' => e = .returned (.bool true) ∧ Below w.heap.size w w' := by
  obtain ⟨w0, hw0⟩ : ∃ w0, w0 = w.alloc (.cells #[.int .i64 s.head, .slice A n c, .int .i64 s.lane.lo, .int .i64 s.lane.hi, .int .i64 s.bend, .slice O no co] 37) := ⟨_, rfl⟩
  have z0 : w0.heap.size = w.heap.size + 1 := by rw [hw0, World.size_alloc]
  obtain ⟨w9, hw9⟩ : ∃ w9, w9 = w0.alloc (.cells #[.slice D nd cd] 45) := ⟨_, rfl⟩
  have z9 : w9.heap.size = w.heap.size + 1 + 1 := by rw [hw9, World.size_alloc, z0]
  obtain ⟨w1, hw1⟩ : ∃ w1, w1 = w9.alloc (.cells #[.slice C nc cc] 27) := ⟨_, rfl⟩
  have k4 : Blk w1 w.heap.size 37 #[.int .i64 s.head, .slice A n c, .int .i64 s.lane.lo, .int .i64 s.lane.hi, .int .i64 s.bend, .slice O no co] := by rw [hw1, hw9, hw0]; exact ((Blk.new _ _ _).alloc _).alloc _
  have k5 : Blk w1 (w.heap.size + 1) 45 #[.slice D nd cd] := by have := Blk.new w0 45 #[.slice D nd cd]; rw [← hw9, z0] at this; rw [hw1]; exact this.alloc _
  have k6 : Blk w1 (w.heap.size + 1 + 1) 27 #[.slice C nc cc] := by have := Blk.new w9 27 #[.slice C nc cc]; rw [← hw1, z9] at this; exact this
  have b : Below w.heap.size w w1 := by rw [hw1, hw9, hw0]; exact (((Below.refl _ _).alloc (Nat.le_refl _) _).alloc (by simp) _).alloc (by simp; omega) _
  replace hs : SlAt w1 0 5 Sec.cells A n c s.secs := by rw [hw1, hw9, hw0]; exact ((hs.alloc _).alloc _).alloc _
  replace hl : SlAt w1 0 2 Bnd.cells O no co bs := by rw [hw1, hw9, hw0]; exact ((hl.alloc _).alloc _).alloc _
  replace hd : SlAt w1 0 4 Wat.cells D nd cd l := by rw [hw1, hw9, hw0]; exact ((hd.alloc _).alloc _).alloc _
  replace hc : SlAt w1 0 1 ivs C nc cc ch := by rw [hw1, hw9, hw0]; exact ((hc.alloc _).alloc _).alloc _
  replace hp : SlAt w1 0 1 ivs Q nq cq plan := by rw [hw1, hw9, hw0]; exact ((hp.alloc _).alloc _).alloc _
  rw [hw9, hw0] at hw1
  clear hw9 hw0 z0 z9
  have hF := fun W h1 h2 h3 h4 => Fastest_any s A O D C n c no co nd cd nc cc bs l ch W h1 h2 h3 h4
  have hsaid := fast_said s bs l ch
  have hnone := fastR_none (s := s) (bs := bs) (l := l) (ch := ch)
  generalize fastR s bs l ch = r at *
  obtain ⟨a, way, er⟩ := r
  dsimp only at hsaid hnone
  by_cases h0 : er = 0
  · subst h0
    have F := hsaid (.inl rfl)
    clear hsaid hnone
    obtain ⟨_, f1, f2, f3, f4⟩ : True ∧ a.length = l.length ∧ isPlan ch a = true ∧ keepsS s bs l (speedsOf ch a) = true ∧ sumL (speedsOf ch a) = way := by
      rcases F.run with ⟨_, f1, f2, f3, f4⟩ | h
      · exact ⟨trivial, f1, f2, f3, f4⟩
      · simp at h
    have hkw : keepsR s bs l (speedsOf ch a) = (true, 0) := by
      have : errW s bs l (speedsOf ch a) = 0 := by rw [errW, if_pos F.bw, if_pos ⟨by rw [speedsOf, List.length_map]; exact f1, speedsOf_ok F.spd⟩]
      rw [keepsR, if_pos this, f3]
    replace f3 := Lib.hid f3
    replace f4 := Lib.hid f4
    go_enter Try.func11, Try.ntmps11
    go_wp2_with fail
    rw [← hw1]
    clear hw1
    refine (hF _ hs hl hd hc).mono ?_
    clear hF
    rintro e W ⟨P1, n1, m1, rfl, hr1, hbel⟩
    replace k4 := k4.below hbel
    replace k5 := k5.below hbel
    replace k6 := k6.below hbel
    replace b := b.trans (hbel.mono b.size)
    replace hs := hs.below hbel
    replace hl := hl.below hbel
    replace hd := hd.below hbel
    replace hc := hc.below hbel
    replace hp := hp.below hbel
    clear hbel
    replace hr1 := hr1.mono (Nat.zero_le _)
    obtain ⟨c4, f4, l4⟩ := k4.rules
    obtain ⟨c5, f5, l5⟩ := k5.rules
    obtain ⟨c6, f6, l6⟩ := k6.rules
    go_wp2_with fail
    refine (speedsF_any ch a P1 C D n1 m1 nc cc nd cd (w.heap.size + 1 + 1) (w.heap.size + 1) _ _ _ hr1 hc hr1.le hd.le k6 k5).mono ?_
    rintro e W ⟨P2, n2, m2, rfl, hr2, hbel⟩
    clear c4 f4 l4 c5 f5 l5 c6 f6 l6
    replace hr1 := hr1.below hbel
    replace k4 := k4.below hbel
    replace k5 := k5.below hbel
    replace k6 := k6.below hbel
    replace b := b.trans (hbel.mono b.size)
    replace hs := hs.below hbel
    replace hl := hl.below hbel
    replace hd := hd.below hbel
    replace hc := hc.below hbel
    replace hp := hp.below hbel
    clear hbel
    replace hr2 := hr2.mono (Nat.zero_le _)
    rw [if_pos f2] at hr2
    rw [show (isPlan ch a && decide (a.length = nd)) = true by rw [f2, decide_eq_true (by rw [f1]; exact hd.len)]; rfl]
    have hK9 := fun W h1 h2 h3 h4 => Keeps_any s A O D P2 n c no co nd cd n2 m2 bs l (speedsOf ch a) W h1 h2 h3 h4
    simp only [hkw] at hK9
    clear hkw
    replace f1 := Lib.hid f1
    replace f2 := Lib.hid f2
    obtain ⟨c4, f4, l4⟩ := k4.rules
    obtain ⟨c5, f5, l5⟩ := k5.rules
    obtain ⟨c6, f6, l6⟩ := k6.rules
    go_wp2_with fail
    refine (hK9 _ hs hl hd hr2).mono ?_
    clear hK9
    rintro e W ⟨rfl, hbel⟩
    clear c4 f4 l4 c5 f5 l5 c6 f6 l6
    replace hr1 := hr1.below hbel
    replace hr2 := hr2.below hbel
    replace k4 := k4.below hbel
    replace k5 := k5.below hbel
    replace k6 := k6.below hbel
    replace b := b.trans (hbel.mono b.size)
    replace hs := hs.below hbel
    replace hl := hl.below hbel
    replace hd := hd.below hbel
    replace hc := hc.below hbel
    replace hp := hp.below hbel
    clear hbel
    have hn2 : n2 ≤ 1000000 := by have := hr2.len; have := F.lim; have := f1.out; rw [speedsOf, List.length_map] at *; omega
    go_wp2_with fail
    refine (Sum_any (speedsOf ch a) 100 P2 n2 m2 0 _ (by omega) hn2 (fun x hx => by have := List.all_eq_true.1 (speedsOf_ok (plan := a) F.spd) x hx; unfold okSpeed at this; exact of_decide_eq_true this) hr2).mono ?_
    rintro e W' ⟨rfl, rfl⟩
    rw [f4.out]
    clear hr2
    obtain ⟨c4, f4, l4⟩ := k4.rules
    obtain ⟨c5, f5, l5⟩ := k5.rules
    obtain ⟨c6, f6, l6⟩ := k6.rules
    go_wp2_with fail
    refine (speedsF_any ch plan Q C D nq cq nc cc nd cd (w.heap.size + 1 + 1) (w.heap.size + 1) _ _ _ hp hc hp.le hd.le k6 k5).mono ?_
    rintro e W ⟨P4, n4, m4, rfl, hr4, hbel⟩
    clear c4 f4 l4 c5 f5 l5 c6 f6 l6
    replace hr1 := hr1.below hbel
    replace k4 := k4.below hbel
    replace k5 := k5.below hbel
    replace k6 := k6.below hbel
    replace b := b.trans (hbel.mono b.size)
    replace hs := hs.below hbel
    replace hl := hl.below hbel
    replace hd := hd.below hbel
    replace hc := hc.below hbel
    replace hp := hp.below hbel
    clear hbel
    replace hr4 := hr4.mono (Nat.zero_le _)
    by_cases hok : (isPlan ch plan && decide (plan.length = nd)) = true
    · rw [hok]
      rw [Bool.and_eq_true, decide_eq_true_eq] at hok
      obtain ⟨hip, hpl⟩ := hok
      rw [if_pos hip] at hr4
      have hpl2 : plan.length = l.length := by rw [hpl]; exact hd.len.symm
      have hkw : keepsR s bs l (speedsOf ch plan) = (keepsS s bs l (speedsOf ch plan), 0) := by
        have : errW s bs l (speedsOf ch plan) = 0 := by rw [errW, if_pos F.bw, if_pos ⟨by rw [speedsOf, List.length_map]; exact hpl2, speedsOf_ok F.spd⟩]
        rw [keepsR, if_pos this]
      have hK9 := fun W h1 h2 h3 h4 => Keeps_any s A O D P4 n c no co nd cd n4 m4 bs l (speedsOf ch plan) W h1 h2 h3 h4
      simp only [hkw] at hK9
      have hbest := F.best plan hpl2 hip
      replace hip := Lib.hid hip
      replace hpl := Lib.hid hpl
      replace hpl2 := Lib.hid hpl2
      clear hkw
      by_cases hkk : keepsS s bs l (speedsOf ch plan) = true
      · obtain ⟨z1, z2, z3⟩ := hbest hkk
        simp only [hkk] at hK9
        clear hkk hbest
        obtain ⟨c4, f4, l4⟩ := k4.rules
        obtain ⟨c5, f5, l5⟩ := k5.rules
        obtain ⟨c6, f6, l6⟩ := k6.rules
        go_wp2_with fail
        refine (hK9 _ hs hl hd hr4).mono ?_
        clear hK9
        rintro e W ⟨rfl, hbel⟩
        clear c4 f4 l4 c5 f5 l5 c6 f6 l6
        replace hr1 := hr1.below hbel
        replace hr4 := hr4.below hbel
        replace k4 := k4.below hbel
        replace k5 := k5.below hbel
        replace k6 := k6.below hbel
        replace b := b.trans (hbel.mono b.size)
        replace hs := hs.below hbel
        replace hl := hl.below hbel
        replace hd := hd.below hbel
        replace hc := hc.below hbel
        replace hp := hp.below hbel
        clear hbel
        have hn4 : n4 ≤ 1000000 := by have := hr4.len; have := F.lim; have := hpl2.out; rw [speedsOf, List.length_map] at *; omega
        go_wp2_with fail
        refine (Sum_any (speedsOf ch plan) 100 P4 n4 m4 0 _ (by omega) hn4 (fun x hx => by have := List.all_eq_true.1 (speedsOf_ok (plan := plan) F.spd) x hx; unfold okSpeed at this; exact of_decide_eq_true this) hr4).mono ?_
        rintro e W' ⟨rfl, rfl⟩
        by_cases hlt : sumL (speedsOf ch plan) < way
        · go_wp2_with fail
          refine (works_any _).mono ?_
          rintro e W ⟨rfl, hbel⟩
          go_wp2
          go_ret
          exact ⟨rfl, b.trans (hbel.mono b.size)⟩
        · have z4 : earlierS plan a = false := z3.resolve_left hlt
          go_wp2_with fail
          refine (Earlier_any Q P1 nq cq n1 m1 0 0 plan a _ hp hr1).mono ?_
          rw [z4]
          rintro e W ⟨rfl, hbel⟩
          replace k4 := k4.below hbel
          replace k5 := k5.below hbel
          replace k6 := k6.below hbel
          replace b := b.trans (hbel.mono b.size)
          replace hs := hs.below hbel
          replace hl := hl.below hbel
          replace hd := hd.below hbel
          replace hc := hc.below hbel
          replace hp := hp.below hbel
          clear hbel
          go_wp2_with fail
          refine (works_any _).mono ?_
          rintro e W ⟨rfl, hbel⟩
          go_wp2
          go_ret
          exact ⟨rfl, b.trans (hbel.mono b.size)⟩
      · have hkk2 : keepsS s bs l (speedsOf ch plan) = false := by simpa using hkk
        simp only [hkk2] at hK9
        clear hkk hkk2 hbest
        obtain ⟨c4, f4, l4⟩ := k4.rules
        obtain ⟨c5, f5, l5⟩ := k5.rules
        obtain ⟨c6, f6, l6⟩ := k6.rules
        go_wp2_with fail
        refine (hK9 _ hs hl hd hr4).mono ?_
        clear hK9
        rintro e W ⟨rfl, hbel⟩
        clear c4 f4 l4 c5 f5 l5 c6 f6 l6
        replace k4 := k4.below hbel
        replace k5 := k5.below hbel
        replace k6 := k6.below hbel
        replace b := b.trans (hbel.mono b.size)
        replace hs := hs.below hbel
        replace hl := hl.below hbel
        replace hd := hd.below hbel
        replace hc := hc.below hbel
        replace hp := hp.below hbel
        clear hbel
        go_wp2_with fail
        refine (works_any _).mono ?_
        rintro e W ⟨rfl, hbel⟩
        go_wp2
        go_ret
        exact ⟨rfl, b.trans (hbel.mono b.size)⟩
    · have hok2 : (isPlan ch plan && decide (plan.length = nd)) = false := by simpa using hok
      rw [hok2]
      clear hok hok2
      go_wp2_with fail
      refine (works_any _).mono ?_
      rintro e W ⟨rfl, hbel⟩
      go_wp2
      go_ret
      exact ⟨rfl, b.trans (hbel.mono b.size)⟩
  · by_cases h4 : er = 4
    · subst h4
      have F := hsaid (.inr rfl)
      obtain ⟨g1, g2⟩ := hnone h0
      subst g1
      subst g2
      clear hsaid hnone h0
      go_enter Try.func11, Try.ntmps11
      go_wp2_with fail
      rw [← hw1]
      clear hw1
      refine (hF _ hs hl hd hc).mono ?_
      clear hF
      rintro e W ⟨P1, n1, m1, rfl, hr1, hbel⟩
      replace k4 := k4.below hbel
      replace k5 := k5.below hbel
      replace k6 := k6.below hbel
      replace b := b.trans (hbel.mono b.size)
      replace hs := hs.below hbel
      replace hl := hl.below hbel
      replace hd := hd.below hbel
      replace hc := hc.below hbel
      replace hp := hp.below hbel
      clear hbel
      clear hr1
      obtain ⟨c4, f4, l4⟩ := k4.rules
      obtain ⟨c5, f5, l5⟩ := k5.rules
      obtain ⟨c6, f6, l6⟩ := k6.rules
      go_wp2_with fail
      refine (speedsF_any ch plan Q C D nq cq nc cc nd cd (w.heap.size + 1 + 1) (w.heap.size + 1) _ _ _ hp hc hp.le hd.le k6 k5).mono ?_
      rintro e W ⟨P4, n4, m4, rfl, hr4, hbel⟩
      clear c4 f4 l4 c5 f5 l5 c6 f6 l6
      skip
      replace k4 := k4.below hbel
      replace k5 := k5.below hbel
      replace k6 := k6.below hbel
      replace b := b.trans (hbel.mono b.size)
      replace hs := hs.below hbel
      replace hl := hl.below hbel
      replace hd := hd.below hbel
      replace hc := hc.below hbel
      replace hp := hp.below hbel
      clear hbel
      replace hr4 := hr4.mono (Nat.zero_le _)
      by_cases hok : (isPlan ch plan && decide (plan.length = nd)) = true
      · rw [hok]
        rw [Bool.and_eq_true, decide_eq_true_eq] at hok
        obtain ⟨hip, hpl⟩ := hok
        rw [if_pos hip] at hr4
        have hpl2 : plan.length = l.length := by rw [hpl]; exact hd.len.symm
        have hkw : keepsR s bs l (speedsOf ch plan) = (keepsS s bs l (speedsOf ch plan), 0) := by
          have : errW s bs l (speedsOf ch plan) = 0 := by rw [errW, if_pos F.bw, if_pos ⟨by rw [speedsOf, List.length_map]; exact hpl2, speedsOf_ok F.spd⟩]
          rw [keepsR, if_pos this]
        have hK9 := fun W h1 h2 h3 h4 => Keeps_any s A O D P4 n c no co nd cd n4 m4 bs l (speedsOf ch plan) W h1 h2 h3 h4
        simp only [hkw] at hK9
        have hbest := F.best plan hpl2 hip
        replace hip := Lib.hid hip
        replace hpl := Lib.hid hpl
        replace hpl2 := Lib.hid hpl2
        clear hkw
        by_cases hkk : keepsS s bs l (speedsOf ch plan) = true
        · obtain ⟨z1, z2, z3⟩ := hbest hkk
          exact absurd z1 (by decide)
        · have hkk2 : keepsS s bs l (speedsOf ch plan) = false := by simpa using hkk
          simp only [hkk2] at hK9
          clear hkk hkk2 hbest
          obtain ⟨c4, f4, l4⟩ := k4.rules
          obtain ⟨c5, f5, l5⟩ := k5.rules
          obtain ⟨c6, f6, l6⟩ := k6.rules
          go_wp2_with fail
          refine (hK9 _ hs hl hd hr4).mono ?_
          clear hK9
          rintro e W ⟨rfl, hbel⟩
          clear c4 f4 l4 c5 f5 l5 c6 f6 l6
          replace k4 := k4.below hbel
          replace k5 := k5.below hbel
          replace k6 := k6.below hbel
          replace b := b.trans (hbel.mono b.size)
          replace hs := hs.below hbel
          replace hl := hl.below hbel
          replace hd := hd.below hbel
          replace hc := hc.below hbel
          replace hp := hp.below hbel
          clear hbel
          go_wp2_with fail
          refine (works_any _).mono ?_
          rintro e W ⟨rfl, hbel⟩
          go_wp2
          go_ret
          exact ⟨rfl, b.trans (hbel.mono b.size)⟩
      · have hok2 : (isPlan ch plan && decide (plan.length = nd)) = false := by simpa using hok
        rw [hok2]
        clear hok hok2
        go_wp2_with fail
        refine (works_any _).mono ?_
        rintro e W ⟨rfl, hbel⟩
        go_wp2
        go_ret
        exact ⟨rfl, b.trans (hbel.mono b.size)⟩
    · obtain ⟨g1, g2⟩ := hnone h0
      subst g1
      subst g2
      have h01 : (er == 0) = false := by rw [beq_eq_false_iff_ne]; exact h0
      have h41 : (er == 4) = false := by rw [beq_eq_false_iff_ne]; exact h4
      have h02 : (er != 0) = true := by rw [bne_iff_ne]; exact h0
      have h42 : (er != 4) = true := by rw [bne_iff_ne]; exact h4
      clear hsaid hnone
      go_enter Try.func11, Try.ntmps11
      go_wp2_with fail
      rw [← hw1]
      clear hw1
      refine (hF _ hs hl hd hc).mono ?_
      clear hF
      rintro e W ⟨P1, n1, m1, rfl, hr1, hbel⟩
      obtain rfl : n1 = 0 := hr1.len.symm
      replace k4 := k4.below hbel
      replace k5 := k5.below hbel
      replace k6 := k6.below hbel
      replace b := b.trans (hbel.mono b.size)
      replace hs := hs.below hbel
      replace hl := hl.below hbel
      replace hd := hd.below hbel
      replace hc := hc.below hbel
      replace hp := hp.below hbel
      clear hbel
      go_wp2_with fail
      refine (works_any _).mono ?_
      rintro e W ⟨rfl, hbel⟩
      go_wp2
      go_ret
      exact ⟨rfl, b.trans (hbel.mono b.size)⟩
end Go.Proofs.Ytjiaepphnddpoaa
