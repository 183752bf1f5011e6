/-
  The law TopHastes.
-/
import Derived.Test.YtcmbmmpihiekhaaGreatC31
import Derived.Test.YtcmbmmpihiekhaaGreatC28
import Derived.Test.YtcmbmmpihiekhaaGreatE1
import Derived.Test.YtcmbmmpihiekhaaGreatTM
set_option maxRecDepth 100000
set_option maxHeartbeats 16000000
set_option linter.unusedSimpArgs false
set_option linter.unusedVariables false
namespace Go.Proofs.YtcmbmmpihiekhaaGreat
open Go.RowKit Go.Shelf
attribute [local go_sem] Oper.semAt_some

theorem isPlan_takeT {ch l : List Int} {k : Nat} {x : Int} (h : l[k]? = some x) : isPlan ch (l.take (k + 1)) = (isPlan ch (l.take k) && decide (0 ≤ x ∧ x ≤ ch.length - 1)) := by
  unfold isPlan; rw [List.take_add_one, h]; simp
theorem speedsOf_takeT {ch l : List Int} {k : Nat} {x : Int} (h : l[k]? = some x) : speedsOf ch (l.take (k + 1)) = speedsOf ch (l.take k) ++ [ch.getD x.toNat 0] := by
  unfold speedsOf; rw [List.take_add_one, h]; simp
theorem fastR_noneT {s : Strm} {bs : List Bnd} {l : List Wat} {ch : List Int} (h0 : (fastR s bs l ch).2.2 ≠ 0) : (fastR s bs l ch).1 = [] ∧ (fastR s bs l ch).2.1 = 0 := by
  unfold fastR at *
  split
  · exact ⟨rfl, rfl⟩
  · rename_i h1
    rw [if_neg h1] at h0
    split
    · exact ⟨rfl, rfl⟩
    · rename_i h2
      rw [if_neg h2] at h0
      split
      · exact ⟨rfl, rfl⟩
      · rename_i h3
        rw [if_neg h3] at h0
        dsimp only at h0 ⊢
        split
        · rename_i h4
          rw [if_pos h4] at h0
          exact absurd rfl h0
        · exact ⟨rfl, rfl⟩
theorem kept_apart {u v : Value} {w w' : World} {base : Nat} {e : TypeId} {size n : Nat} {xs : List Value} (h : w.ownsRow base e size v n xs) (hg : w.grownBy w' u.ownBlock) (hn : ∀ g, u.ownBlock = some g → v.ownBlock ≠ some g) : w'.ownsRow base e size v n xs :=
  h.kept hg (by
    cases hv : v.ownBlock with
    | none => exact .inl rfl
    | some g => exact .inr fun e => hn g e.symm hv)
theorem TopHastes_any (f : Fir) (s : Strm) (A O D C Q : Option Addr) (n c no co nd cd nc cc ny cq : Nat) (bs : List Bnd) (l : List Wat) (ch plan : List Int) (w : World) (hs : SlAt w 0 5 Sec.cells A n c s.secs) (hl : SlAt w 0 2 Bnd.cells O no co bs) (hd : SlAt w 0 4 Wat.cells D nd cd l) (hc : SlAt w 0 1 ivs C nc cc ch) (hp : SlAt w 0 1 ivs Q ny cq plan) :
    Calls Tryz.prog 3 #[.agg #[.int .i64 f.start, .int .i64 f.every, .int .i64 f.srcs, .int .i64 f.shots, .int .i64 f.charge], .agg #[.int .i64 s.head, .slice A n c, .int .i64 s.lane.lo, .int .i64 s.lane.hi, .int .i64 s.bend, .slice O no co], .agg #[.slice D nd cd, .slice C nc cc, .slice Q ny cq]] w fun e w' => e = .returned (.bool true) ∧ Below w.heap.size w w' := by
  obtain ⟨w0, hw0⟩ : ∃ w0, w0 = w.alloc (.cells #[.int .i64 f.start, .int .i64 f.every, .int .i64 f.srcs, .int .i64 f.shots, .int .i64 f.charge] 23) := ⟨_, rfl⟩
  have z0 : w0.heap.size = w.heap.size + 1 := by rw [hw0, World.size_alloc]
  obtain ⟨w9, hw9⟩ : ∃ w9, w9 = w0.alloc (.cells #[.int .i64 s.head, .slice A n c, .int .i64 s.lane.lo, .int .i64 s.lane.hi, .int .i64 s.bend, .slice O no co] 31) := ⟨_, rfl⟩
  have z9 : w9.heap.size = w.heap.size + 1 + 1 := by rw [hw9, World.size_alloc, z0]
  obtain ⟨W1, hw1⟩ : ∃ W1, W1 = w9.alloc (.cells #[.slice D nd cd, .slice C nc cc, .slice Q ny cq] 35) := ⟨_, rfl⟩
  have k3 : Blk W1 w.heap.size 23 #[.int .i64 f.start, .int .i64 f.every, .int .i64 f.srcs, .int .i64 f.shots, .int .i64 f.charge] := by rw [hw1, hw9, hw0]; exact ((Blk.new _ _ _).alloc _).alloc _
  have k4 : Blk W1 (w.heap.size + 1) 31 #[.int .i64 s.head, .slice A n c, .int .i64 s.lane.lo, .int .i64 s.lane.hi, .int .i64 s.bend, .slice O no co] := by have := Blk.new w0 31 #[.int .i64 s.head, .slice A n c, .int .i64 s.lane.lo, .int .i64 s.lane.hi, .int .i64 s.bend, .slice O no co]; rw [← hw9, z0] at this; rw [hw1]; exact this.alloc _
  have k5 : Blk W1 (w.heap.size + 1 + 1) 35 #[.slice D nd cd, .slice C nc cc, .slice Q ny cq] := by have := Blk.new w9 35 #[.slice D nd cd, .slice C nc cc, .slice Q ny cq]; rw [← hw1, z9] at this; exact this
  have b : Below w.heap.size w W1 := by rw [hw1, hw9, hw0]; exact (((Below.refl _ _).alloc (Nat.le_refl _) _).alloc (by simp) _).alloc (by simp; omega) _
  replace hs : SlAt W1 0 5 Sec.cells A n c s.secs := by rw [hw1, hw9, hw0]; exact ((hs.alloc _).alloc _).alloc _
  replace hl : SlAt W1 0 2 Bnd.cells O no co bs := by rw [hw1, hw9, hw0]; exact ((hl.alloc _).alloc _).alloc _
  replace hd : SlAt W1 0 4 Wat.cells D nd cd l := by rw [hw1, hw9, hw0]; exact ((hd.alloc _).alloc _).alloc _
  replace hc : SlAt W1 0 1 ivs C nc cc ch := by rw [hw1, hw9, hw0]; exact ((hc.alloc _).alloc _).alloc _
  replace hp : SlAt W1 0 1 ivs Q ny cq plan := by rw [hw1, hw9, hw0]; exact ((hp.alloc _).alloc _).alloc _
  rw [hw9, hw0] at hw1
  clear hw9 hw0 z0 z9
  have hF := fun W h1 h2 h3 h4 => Fastest_any s A O D C n c no co nd cd nc cc bs l ch W h1 h2 h3 h4
  have hsaid := fast_said s bs l ch
  have hnone := fastR_noneT (s := s) (bs := bs) (l := l) (ch := ch)
  generalize fastR s bs l ch = r at *
  obtain ⟨a, way, er⟩ := r
  dsimp only at hsaid hnone
  by_cases h0 : er = 0
  case neg =>
    obtain ⟨e1, e2⟩ := hnone h0
    subst e1
    subst e2
    have h01 : (er == 0) = false := by rw [beq_eq_false_iff_ne]; exact h0
    have h02 : (er != 0) = true := by rw [bne_iff_ne]; exact h0
    clear hsaid hnone
    go_enter Tryz.func3, Tryz.ntmps3
    go_wp2_with fail
    rw [← hw1]
    clear hw1
    refine (hF _ hs hl hd hc).mono ?_
    clear hF
    rintro e W ⟨P1, n1, m1, rfl, hr1, hbel⟩
    obtain rfl : n1 = 0 := hr1.len.symm
    replace k3 := k3.below hbel
    replace k4 := k4.below hbel
    replace k5 := k5.below hbel
    replace b := b.trans (hbel.mono b.size)
    replace hs := hs.below hbel
    replace hl := hl.below hbel
    replace hd := hd.below hbel
    replace hc := hc.below hbel
    replace hp := hp.below hbel
    clear hbel
    go_wp2_with fail
    refine (fired_any _).mono ?_
    rintro e Wf ⟨rfl, hbel⟩
    go_wp2
    go_ret
    exact ⟨rfl, b.trans (hbel.mono b.size)⟩
  case pos =>
    subst h0
    have F := hsaid (.inl rfl)
    clear hsaid hnone
    obtain ⟨_, f1, f2, f3, f4⟩ : True ∧ a.length = l.length ∧ isPlan ch a = true ∧ keepsS s bs l (speedsOf ch a) = true ∧ sumL (speedsOf ch a) = way := by
      rcases F.run with ⟨_, f1, f2, f3, f4⟩ | h
      · exact ⟨trivial, f1, f2, f3, f4⟩
      · simp at h
    clear f3
    have hlim := F.lim
    have hspd := F.spd
    have hbest := F.best
    have hbw := F.bw
    clear F
    replace f4 := Lib.hid f4
    replace hbest := Lib.hid hbest
    replace hspd := Lib.hid hspd
    replace hbw := Lib.hid hbw
    replace f1 := Lib.hid f1
    replace f2 := Lib.hid f2
    go_enter Tryz.func3, Tryz.ntmps3
    go_wp2_with fail
    rw [← hw1]
    clear hw1
    refine (hF _ hs hl hd hc).mono ?_
    clear hF
    rintro e W ⟨P1, n1, m1, rfl, hr1, hbel⟩
    replace k3 := k3.below hbel
    replace k4 := k4.below hbel
    replace k5 := k5.below hbel
    replace b := b.trans (hbel.mono b.size)
    replace hs := hs.below hbel
    replace hl := hl.below hbel
    replace hd := hd.below hbel
    replace hc := hc.below hbel
    replace hp := hp.below hbel
    clear hbel
    replace hr1 := hr1.mono (Nat.zero_le _)
    dsimp only at hr1
    obtain rfl : n1 = nd := by have := hr1.len; have := hd.len; have := f1.out; omega
    generalize hg5 : w.heap.size + 1 + 1 = g5 at *
    generalize hg4 : w.heap.size + 1 = g4 at *
    clear hg4 hg5
    obtain ⟨c5, f5, l5⟩ := k5.rules
    have hn6 : n1 ≤ 6 := by have := hd.len; omega
    have hn1 : 1 ≤ n1 := by have := hd.len; omega
    replace hlim := Lib.hid hlim
    by_cases hq : ny = n1
    case neg =>
      have hq2 : ((ny : Int) == (n1 : Int)) = false := by rw [beq_eq_false_iff_ne]; omega
      have hq3 : ¬ (ny : Int) = (n1 : Int) := by omega
      go_wp2_with fail
      clear c5 f5 l5
      refine (fired_any _).mono ?_
      rintro e Wf ⟨rfl, hbel⟩
      go_wp2
      go_ret
      exact ⟨rfl, b.trans (hbel.mono b.size)⟩
    case pos =>
      subst hq
      go_wp2_with fail
      clear c5 f5 l5
      have hal := Lib.hid hr1.len
      have hpl := Lib.hid hp.len
      have hcl := Lib.hid hc.len
      have hcn := hc.le
      have l5b := k5.lt
      have hbz := Lib.hid b.size
      go_loopw [10, 11, 12] (fun v1 v2 i wr => ∃ k : Nat, i = .int .i64 k ∧ k ≤ ny ∧ isPlan ch (plan.take k) = true ∧ wr.ownsRow W.heap.size 3 1 v1 k ((speedsOf ch (a.take k)).map (.int .i64 ·)) ∧ wr.ownsRow W.heap.size 3 1 v2 k ((speedsOf ch (plan.take k)).map (.int .i64 ·)) ∧ (∀ g, v1.ownBlock = some g → v2.ownBlock ≠ some g) ∧ Below W.heap.size W wr) (fun v1 v2 i wr => ny - (intOf i).toNat)
      case atStart => exact ⟨0, rfl, Nat.zero_le _, rfl, ⟨rfl, .inl ⟨rfl, rfl⟩⟩, ⟨rfl, .inl ⟨rfl, rfl⟩⟩, (by intro g h; simp [Value.ownBlock] at h), Below.refl _ _⟩
      case round =>
        obtain ⟨k, rfl, hk, hip, h1o, h2o, hap, hb⟩ := hrel
        replace hip := Lib.hid hip
        replace hap := Lib.hid hap
        have k5w := k5.below hb
        by_cases hlt : k < ny
        · obtain ⟨x, hx⟩ := some_of_lt hal.out hlt
          obtain ⟨y, hy⟩ := some_of_lt hpl.out hlt
          have hq : 0 ≤ x ∧ x ≤ (nc : Int) - 1 := by
            have := of_decide_eq_true (List.all_eq_true.1 f2.out _ (List.mem_of_getElem? hx)); rw [hcl.out] at this; exact this
          have hnx := Lib.hid (isPlan_takeT (ch := ch) hy)
          have hs1 := Lib.hid (speedsOf_takeT (ch := ch) hx)
          have hs2 := Lib.hid (speedsOf_takeT (ch := ch) hy)
          obtain ⟨ba, oa, hA, -, hbl1, e1⟩ := (hr1.below hb).int hx
          obtain ⟨_, _, hA', _, hba, _⟩ := hr1.int hx
          obtain ⟨bq, oq, hQ, -, hbl2, e2⟩ := (hp.below hb).int hy
          obtain ⟨_, _, hQ', _, hbq, _⟩ := hp.int hy
          obtain ⟨m, rfl⟩ : ∃ m : Nat, x = (m : Int) := ⟨x.toNat, by omega⟩
          have hmn : m < nc := by omega
          obtain ⟨z, hz⟩ := some_of_lt hcl.out hmn
          obtain ⟨bc, oc, hC, -, hbl3, e3⟩ := (hc.below hb).int hz
          obtain ⟨_, _, hC', _, hbc, _⟩ := hc.int hz
          have hzd : Hid (ch.getD (m : Int).toNat 0 = z) := by show _ = _; rw [Int.toNat_natCast]; exact getD_of _ hz
          subst hA
          cases hA'
          subst hQ
          cases hQ'
          subst hC
          cases hC'
          have hk0 : (0 : Int) ≤ (k : Int) := by omega
          have hk1 : (k : Int) < (ny : Int) := by omega
          have hm0 : (0 : Int) ≤ (m : Int) := by omega
          have hm1 : (m : Int) < (nc : Int) := by omega
          have u1 := IntWalk.i64_in ((nc : Int) - 1) (by omega)
          have hB1 := fun W => flip_w (Between_any (m : Int) 0 ((nc : Int) - 1) W)
          have hB2 := fun W => flip_w (Between_any y 0 ((nc : Int) - 1) W)
          simp only [decide_eq_true hq] at hB1
          replace hx := Lib.hid hx
          replace hy := Lib.hid hy
          replace hz := Lib.hid hz
          clear hq
          obtain ⟨c5, f5, l5⟩ := k5w.rules
          go_wp2_with fail
          go_quiet ((go_at_call 7; with_reducible exact Calls.quiet_of_same (hB1 _)))
          clear c5 f5 l5 hB1
          have hbel : Below wr.heap.size wr (wr.drewN nq) := below_drewN (Below.refl _ _) nq
          replace k5w := k5w.below hbel
          replace e1 := (hbel.cell (p := ⟨ba, oa + k, none⟩) hbl1).trans e1
          replace e2 := (hbel.cell (p := ⟨bq, oq + k, none⟩) hbl2).trans e2
          replace e3 := (hbel.cell (p := ⟨bc, oc + m, none⟩) hbl3).trans e3
          replace hb := hb.trans (hbel.mono hb.size)
          replace h1o := ownsRow_below h1o hbel
          replace h2o := ownsRow_below h2o hbel
          clear hbel
          replace hbl1 : ba < (wr.drewN nq).heap.size := hbl1
          replace hbl2 : bq < (wr.drewN nq).heap.size := hbl2
          replace hbl3 : bc < (wr.drewN nq).heap.size := hbl3
          generalize wr.drewN nq = wr at *
          clear nq
          obtain ⟨c5, f5, l5⟩ := k5w.rules
          by_cases hqy : 0 ≤ y ∧ y ≤ (nc : Int) - 1
          · simp only [decide_eq_true hqy] at hB2
            have hip2 : Hid (isPlan ch (plan.take (k + 1)) = true) := by show _ = _; rw [hnx.out, hip.out, hcl.out, decide_eq_true hqy]; rfl
            obtain ⟨p, rfl⟩ : ∃ p : Nat, y = (p : Int) := ⟨y.toNat, by omega⟩
            have hpn : p < nc := by omega
            obtain ⟨u, hu⟩ := some_of_lt hcl.out hpn
            obtain ⟨_, _, hC', _, hbl4, e4⟩ := (hc.below hb).int hu
            cases hC'
            have hud : Hid (ch.getD (p : Int).toNat 0 = u) := by show _ = _; rw [Int.toNat_natCast]; exact getD_of _ hu
            have hp0 : (0 : Int) ≤ (p : Int) := by omega
            have hp1 : (p : Int) < (nc : Int) := by omega
            replace hu := Lib.hid hu
            clear hqy
            go_wp2_with fail
            go_quiet ((go_at_call 7; with_reducible exact Calls.quiet_of_same (hB2 _)))
            clear c5 f5 l5 hB2 u1
            have e4d : (wr.drewN nq).cell? ⟨bc, oc + p, none⟩ = some (.int .i64 u) := e4
            clear e4
            have e4 := e4d
            clear e4d
            have hbel : Below wr.heap.size wr (wr.drewN nq) := below_drewN (Below.refl _ _) nq
            replace k5w := k5w.below hbel
            replace e1 := (hbel.cell (p := ⟨ba, oa + k, none⟩) hbl1).trans e1
            replace e2 := (hbel.cell (p := ⟨bq, oq + k, none⟩) hbl2).trans e2
            replace e3 := (hbel.cell (p := ⟨bc, oc + m, none⟩) hbl3).trans e3
            replace hb := hb.trans (hbel.mono hb.size)
            replace h1o := ownsRow_below h1o hbel
            replace h2o := ownsRow_below h2o hbel
            clear hbel
            replace hbl1 : ba < (wr.drewN nq).heap.size := hbl1
            replace hbl2 : bq < (wr.drewN nq).heap.size := hbl2
            replace hbl3 : bc < (wr.drewN nq).heap.size := hbl3
            generalize wr.drewN nq = wr at *
            clear nq
            go_wp2_with fail
            have hSb : Hid (∀ W', Below W.heap.size wr W' → (fun w' : World => (∀ j, w'.cell? ⟨g5, j, none⟩ = #[Value.slice D ny cd, .slice (some ⟨bc, oc, none⟩) nc cc, .slice (some ⟨bq, oq, none⟩) ny cq][j]?) ∧ w'.cell? ⟨ba, oa + k, none⟩ = some (.int .i64 (m : Int)) ∧ w'.cell? ⟨bc, oc + m, none⟩ = some (.int .i64 z) ∧ w'.cell? ⟨bq, oq + k, none⟩ = some (.int .i64 (p : Int)) ∧ w'.cell? ⟨bc, oc + p, none⟩ = some (.int .i64 u)) W') := by
              show ∀ _, _
              intro W' hbb
              exact ⟨(k5w.belowB hbb l5b).cell, (hbb.cell (p := ⟨ba, oa + k, none⟩) hba).trans e1, (hbb.cell (p := ⟨bc, oc + m, none⟩) hbc).trans e3, (hbb.cell (p := ⟨bq, oq + k, none⟩) hbq).trans e2, (hbb.cell (p := ⟨bc, oc + p, none⟩) hbc).trans e4⟩
            refine wp_held_np (fun w' : World => (∀ j, w'.cell? ⟨g5, j, none⟩ = #[Value.slice D ny cd, .slice (some ⟨bc, oc, none⟩) nc cc, .slice (some ⟨bq, oq, none⟩) ny cq][j]?) ∧ w'.cell? ⟨ba, oa + k, none⟩ = some (.int .i64 (m : Int)) ∧ w'.cell? ⟨bc, oc + m, none⟩ = some (.int .i64 z) ∧ w'.cell? ⟨bq, oq + k, none⟩ = some (.int .i64 (p : Int)) ∧ w'.cell? ⟨bc, oc + p, none⟩ = some (.int .i64 u)) (by kernel_rfl) ?_
            have hWw := hb.size
            have hb9 : Below W.heap.size wr wr.drew := (Below.refl _ _).drew
            have hS := hSb.out _ hb9
            obtain ⟨La, hLa⟩ : ∃ La, La = (speedsOf ch (a.take k)).map (Value.int .i64 ·) := ⟨_, rfl⟩
            obtain ⟨Lb, hLb⟩ : ∃ Lb, Lb = (speedsOf ch (plan.take k)).map (Value.int .i64 ·) := ⟨_, rfl⟩
            rw [← hLa] at h1o
            rw [← hLb] at h2o
            replace hLa := Lib.hid hLa
            replace hLb := Lib.hid hLb
            replace h1o : wr.drew.ownsRow W.heap.size 3 1 u10 k La := h1o
            replace h2o : wr.drew.ownsRow W.heap.size 3 1 u11 k Lb := h2o
            have hlim1 : ∀ x, u10.ownBlock = some x → x < wr.drew.heap.size := fun x h => (h1o.lt x h).2
            have hlim2 : ∀ x, u11.ownBlock = some x → x < wr.drew.heap.size := fun x h => (h2o.lt x h).2
            replace hap := hap.out
            generalize hwd : wr.drew = wd at *
            clear hwd
            generalize hBz : wd.heap.size = Bz at hlim1 hlim2
            have hsz : Bz ≤ wd.heap.size := by omega
            clear hBz
            have hbig1 : Hid (k + 1 ≤ maxLen) := by show k + 1 ≤ maxLen; unfold maxLen; omega
            have hbig2 : Hid ((k + 1) * 8 ≤ 140737488355328) := by show (k + 1) * 8 ≤ 140737488355328; omega
            obtain ⟨i0, hi0, hz0, hz1, hz2⟩ := info_parts Tryz.infoInt
            refine hTk 0 78 ?_
            refine hTk 1 79 ?_
            refine hTk 2 80 ?_
            refine hTk 3 81 ?_
            refine hTk 4 82 ?_
            refine hTk 5 83 ?_
            refine hTk 6 84 ?_
            refine hTk 7 85 ?_
            refine hTk 8 86 ?_
            refine hTk 11 89 ?_
            refine hTk 12 90 ?_
            refine hTk 13 91 ?_
            refine hTk 14 92 ?_
            refine hTk 15 93 ?_
            refine hTk 16 94 ?_
            refine hTk 17 95 ?_
            refine hTk 18 96 ?_
            refine hTk 19 97 ?_
            refine hTk 20 98 ?_
            clear hS
            refine wpAnyH_fin (f := fun a (q : Nat × Nat × Nat × Nat × Nat × Nat) => ((((((a.put (some 87) (.slice (some ⟨q.1, 0, none⟩) 1 1)).put (some 88) (.slice (some ⟨q.2.1, 0, none⟩) (k + 1) q.2.2.1)).put (some 99) (.slice (some ⟨q.2.2.2.1, 0, none⟩) 1 1)).put (some 100) (.slice (some ⟨q.2.2.2.2.1, 0, none⟩) (k + 1) q.2.2.2.2.2)).put (some 10) (.slice (some ⟨q.2.1, 0, none⟩) (k + 1) q.2.2.1)).put (some 11) (.slice (some ⟨q.2.2.2.2.1, 0, none⟩) (k + 1) q.2.2.2.2.2))) (B := fun q W' => W'.ownsRow W.heap.size 3 1 (.slice (some ⟨q.2.1, 0, none⟩) (k + 1) q.2.2.1) (k + 1) (La ++ [.int .i64 z]) ∧ W'.ownsRow W.heap.size 3 1 (.slice (some ⟨q.2.2.2.2.1, 0, none⟩) (k + 1) q.2.2.2.2.2) (k + 1) (Lb ++ [.int .i64 u]) ∧ q.2.1 ≠ q.2.2.2.2.1 ∧ Below W.heap.size wr W') ?_ (fun hrest => ?_)
            rotate_left 1
            · try simp only [Act.put, sA, sZ, sS] at hrest
              refine held_two (i := 9) (j := 21) (by kernel_rfl) rfl rfl rfl rfl (fun K hK => ?_) (fun K hK => ?_)
              · skip
                go_simp
                have k9 := Blk.new wd 3 #[.int .i64 z]
                have g9w := hb9.size
                have g9x := h1o.lt
                have g9y := h2o.lt
                have g9s := hsz
                have hbel : Below wd.heap.size wd (wd.alloc (.cells #[.int .i64 z] 3)) := (Below.refl _ _).alloc (Nat.le_refl _) _
                replace h1o := h1o.alloc (.cells #[.int .i64 z] 3)
                replace h2o := h2o.alloc (.cells #[.int .i64 z] 3)
                replace hsz := Nat.le_trans hsz hbel.size
                try replace k21 := k21.below hbel
                generalize wd.alloc (.cells #[.int .i64 z] 3) = X1 at *
                generalize hqg9 : wd.heap.size = g9 at *
                clear hqg9
                replace hb9 := hb9.trans (hbel.mono (Nat.le_trans hWw g9w))
                refine hK _ _ (hSb.out _ hb9) ?_
                clear hK K hbel
                try simp only [Act.put, sA, sZ, sS]
                refine held_two (i := 10) (j := 21) (by kernel_rfl) rfl rfl rfl rfl (fun K hK => ?_) (fun K hK => ?_)
                · skip
                  refine wp_append_lies _ _ _ 33 (by rfl) W.heap.size 3 i0 (.int .i64 0) 1 8 Tryz.underlying33 hi0 hz0 hz1 hz2 rfl (by omega) u10 k La (by rfl) h1o ⟨g9, 0, none⟩ 1 1 [.int .i64 z] (by rfl) rfl (World.news_of_block (cs := #[.int .i64 z]) k9) (by simp [Value.oneCell']) (by omega) hbig1.out hbig2.out (Nat.le_trans hWw hb9.size) X1.heap.size rfl ?_
                  intro ga ca X2 h1n hgrow hl1 hlt1
                  have hl1 : u10.ownBlock = some ga ∨ Bz ≤ ga := by
                    rcases hl1 with h | h
                    · exact .inl h
                    · exact .inr (by rw [h]; exact hsz)
                  have h1b := fun x hx => (h1o.lt x hx).1
                  replace h2o := kept_apart h2o hgrow hap
                  try replace k21 := k21.grown hgrow (fun e => by have := (hlim1 _ e.symm); omega)
                  replace hb9 := hb9.trans (⟨hgrow.os, hgrow.tape, hgrow.output, hgrow.size, fun x hx => hgrow.block x (Nat.lt_of_lt_of_le hx (Nat.le_trans hWw hb9.size)) (fun e => by have := h1b _ e.symm; omega)⟩ : Below W.heap.size _ X2)
                  replace hsz := Nat.le_trans hsz hgrow.size
                  clear h1o hgrow k9 h1b
                  have h1o := h1n
                  clear h1n
                  refine hK _ _ (hSb.out _ hb9) ?_
                  clear hK K
                  try simp only [Act.put, sA, sZ, sS]
                  refine hOne 21 fun K hK => ?_
                  go_simp
                  have k21 := Blk.new X2 3 #[.int .i64 u]
                  have g21w := hb9.size
                  have g21x := h1o.lt
                  have g21y := h2o.lt
                  have g21s := hsz
                  have hbel : Below X2.heap.size X2 (X2.alloc (.cells #[.int .i64 u] 3)) := (Below.refl _ _).alloc (Nat.le_refl _) _
                  replace h1o := h1o.alloc (.cells #[.int .i64 u] 3)
                  replace h2o := h2o.alloc (.cells #[.int .i64 u] 3)
                  replace hsz := Nat.le_trans hsz hbel.size
                  try replace k9 := k9.below hbel
                  generalize X2.alloc (.cells #[.int .i64 u] 3) = X3 at *
                  generalize hqg21 : X2.heap.size = g21 at *
                  clear hqg21
                  replace hb9 := hb9.trans (hbel.mono (Nat.le_trans hWw g21w))
                  refine hK _ _ (hSb.out _ hb9) ?_
                  clear hK K hbel
                  try simp only [Act.put, sA, sZ, sS]
                  refine hOne 22 fun K hK => ?_
                  refine wp_append_lies _ _ _ 33 (by rfl) W.heap.size 3 i0 (.int .i64 0) 1 8 Tryz.underlying33 hi0 hz0 hz1 hz2 rfl (by omega) u11 k Lb (by rfl) h2o ⟨g21, 0, none⟩ 1 1 [.int .i64 u] (by rfl) rfl (World.news_of_block (cs := #[.int .i64 u]) k21) (by simp [Value.oneCell']) (by omega) hbig1.out hbig2.out (Nat.le_trans hWw hb9.size) X3.heap.size rfl ?_
                  intro gb cb X4 h2n hgrow hl2 hlt2
                  have h1l := h1o.lt ga rfl
                  have hne : ga ≠ gb := by
                    rcases hl2 with h | h
                    · have := hlim2 _ h
                      rcases hl1 with h1 | h1
                      · intro e; subst e; exact hap _ h1 h
                      · omega
                    · omega
                  have h2b := fun x hx => (h2o.lt x hx).1
                  replace h1o := kept_apart h1o hgrow (fun x hx e => by
                    have hx2 := hlim2 _ hx
                    have e2 : x = ga := (Option.some.inj e).symm
                    subst e2
                    rcases hl1 with h1 | h1
                    · exact hap _ h1 hx
                    · omega)
                  replace hb9 := hb9.trans (⟨hgrow.os, hgrow.tape, hgrow.output, hgrow.size, fun x hx => hgrow.block x (Nat.lt_of_lt_of_le hx (Nat.le_trans hWw hb9.size)) (fun e => by have := h2b _ e.symm; omega)⟩ : Below W.heap.size _ X4)
                  refine hK _ _ (hSb.out _ hb9) ?_
                  clear hK K
                  try simp only [Act.put, sA, sZ, sS]
                  have hS := hSb.out _ hb9
                  refine hTk 23 10 ?_
                  refine hTk 24 11 ?_
                  refine wpAnyH_done (by kernel_rfl) (hrest (g9, ga, ca, g21, gb, cb) _ ⟨h1o, h2n, hne, hb9⟩) _
                · skip
                  go_simp
                  have k21 := Blk.new X1 3 #[.int .i64 u]
                  have g21w := hb9.size
                  have g21x := h1o.lt
                  have g21y := h2o.lt
                  have g21s := hsz
                  have hbel : Below X1.heap.size X1 (X1.alloc (.cells #[.int .i64 u] 3)) := (Below.refl _ _).alloc (Nat.le_refl _) _
                  replace h1o := h1o.alloc (.cells #[.int .i64 u] 3)
                  replace h2o := h2o.alloc (.cells #[.int .i64 u] 3)
                  replace hsz := Nat.le_trans hsz hbel.size
                  try replace k9 := k9.below hbel
                  generalize X1.alloc (.cells #[.int .i64 u] 3) = X5 at *
                  generalize hqg21 : X1.heap.size = g21 at *
                  clear hqg21
                  replace hb9 := hb9.trans (hbel.mono (Nat.le_trans hWw g21w))
                  refine hK _ _ (hSb.out _ hb9) ?_
                  clear hK K hbel
                  try simp only [Act.put, sA, sZ, sS]
                  refine hOne 10 fun K hK => ?_
                  refine wp_append_lies _ _ _ 33 (by rfl) W.heap.size 3 i0 (.int .i64 0) 1 8 Tryz.underlying33 hi0 hz0 hz1 hz2 rfl (by omega) u10 k La (by rfl) h1o ⟨g9, 0, none⟩ 1 1 [.int .i64 z] (by rfl) rfl (World.news_of_block (cs := #[.int .i64 z]) k9) (by simp [Value.oneCell']) (by omega) hbig1.out hbig2.out (Nat.le_trans hWw hb9.size) X5.heap.size rfl ?_
                  intro ga ca X6 h1n hgrow hl1 hlt1
                  have hl1 : u10.ownBlock = some ga ∨ Bz ≤ ga := by
                    rcases hl1 with h | h
                    · exact .inl h
                    · exact .inr (by rw [h]; exact hsz)
                  have h1b := fun x hx => (h1o.lt x hx).1
                  replace h2o := kept_apart h2o hgrow hap
                  try replace k21 := k21.grown hgrow (fun e => by have := (hlim1 _ e.symm); omega)
                  replace hb9 := hb9.trans (⟨hgrow.os, hgrow.tape, hgrow.output, hgrow.size, fun x hx => hgrow.block x (Nat.lt_of_lt_of_le hx (Nat.le_trans hWw hb9.size)) (fun e => by have := h1b _ e.symm; omega)⟩ : Below W.heap.size _ X6)
                  replace hsz := Nat.le_trans hsz hgrow.size
                  clear h1o hgrow k9 h1b
                  have h1o := h1n
                  clear h1n
                  refine hK _ _ (hSb.out _ hb9) ?_
                  clear hK K
                  try simp only [Act.put, sA, sZ, sS]
                  refine hOne 22 fun K hK => ?_
                  refine wp_append_lies _ _ _ 33 (by rfl) W.heap.size 3 i0 (.int .i64 0) 1 8 Tryz.underlying33 hi0 hz0 hz1 hz2 rfl (by omega) u11 k Lb (by rfl) h2o ⟨g21, 0, none⟩ 1 1 [.int .i64 u] (by rfl) rfl (World.news_of_block (cs := #[.int .i64 u]) k21) (by simp [Value.oneCell']) (by omega) hbig1.out hbig2.out (Nat.le_trans hWw hb9.size) X6.heap.size rfl ?_
                  intro gb cb X7 h2n hgrow hl2 hlt2
                  have h1l := h1o.lt ga rfl
                  have hne : ga ≠ gb := by
                    rcases hl2 with h | h
                    · have := hlim2 _ h
                      rcases hl1 with h1 | h1
                      · intro e; subst e; exact hap _ h1 h
                      · omega
                    · omega
                  have h2b := fun x hx => (h2o.lt x hx).1
                  replace h1o := kept_apart h1o hgrow (fun x hx e => by
                    have hx2 := hlim2 _ hx
                    have e2 : x = ga := (Option.some.inj e).symm
                    subst e2
                    rcases hl1 with h1 | h1
                    · exact hap _ h1 hx
                    · omega)
                  replace hb9 := hb9.trans (⟨hgrow.os, hgrow.tape, hgrow.output, hgrow.size, fun x hx => hgrow.block x (Nat.lt_of_lt_of_le hx (Nat.le_trans hWw hb9.size)) (fun e => by have := h2b _ e.symm; omega)⟩ : Below W.heap.size _ X7)
                  refine hK _ _ (hSb.out _ hb9) ?_
                  clear hK K
                  try simp only [Act.put, sA, sZ, sS]
                  have hS := hSb.out _ hb9
                  refine hTk 23 10 ?_
                  refine hTk 24 11 ?_
                  refine wpAnyH_done (by kernel_rfl) (hrest (g9, ga, ca, g21, gb, cb) _ ⟨h1o, h2n, hne, hb9⟩) _
              · skip
                go_simp
                have k21 := Blk.new wd 3 #[.int .i64 u]
                have g21w := hb9.size
                have g21x := h1o.lt
                have g21y := h2o.lt
                have g21s := hsz
                have hbel : Below wd.heap.size wd (wd.alloc (.cells #[.int .i64 u] 3)) := (Below.refl _ _).alloc (Nat.le_refl _) _
                replace h1o := h1o.alloc (.cells #[.int .i64 u] 3)
                replace h2o := h2o.alloc (.cells #[.int .i64 u] 3)
                replace hsz := Nat.le_trans hsz hbel.size
                try replace k9 := k9.below hbel
                generalize wd.alloc (.cells #[.int .i64 u] 3) = X8 at *
                generalize hqg21 : wd.heap.size = g21 at *
                clear hqg21
                replace hb9 := hb9.trans (hbel.mono (Nat.le_trans hWw g21w))
                refine hK _ _ (hSb.out _ hb9) ?_
                clear hK K hbel
                try simp only [Act.put, sA, sZ, sS]
                refine hOne 9 fun K hK => ?_
                go_simp
                have k9 := Blk.new X8 3 #[.int .i64 z]
                have g9w := hb9.size
                have g9x := h1o.lt
                have g9y := h2o.lt
                have g9s := hsz
                have hbel : Below X8.heap.size X8 (X8.alloc (.cells #[.int .i64 z] 3)) := (Below.refl _ _).alloc (Nat.le_refl _) _
                replace h1o := h1o.alloc (.cells #[.int .i64 z] 3)
                replace h2o := h2o.alloc (.cells #[.int .i64 z] 3)
                replace hsz := Nat.le_trans hsz hbel.size
                try replace k21 := k21.below hbel
                generalize X8.alloc (.cells #[.int .i64 z] 3) = X9 at *
                generalize hqg9 : X8.heap.size = g9 at *
                clear hqg9
                replace hb9 := hb9.trans (hbel.mono (Nat.le_trans hWw g9w))
                refine hK _ _ (hSb.out _ hb9) ?_
                clear hK K hbel
                try simp only [Act.put, sA, sZ, sS]
                refine hOne 10 fun K hK => ?_
                refine wp_append_lies _ _ _ 33 (by rfl) W.heap.size 3 i0 (.int .i64 0) 1 8 Tryz.underlying33 hi0 hz0 hz1 hz2 rfl (by omega) u10 k La (by rfl) h1o ⟨g9, 0, none⟩ 1 1 [.int .i64 z] (by rfl) rfl (World.news_of_block (cs := #[.int .i64 z]) k9) (by simp [Value.oneCell']) (by omega) hbig1.out hbig2.out (Nat.le_trans hWw hb9.size) X9.heap.size rfl ?_
                intro ga ca X10 h1n hgrow hl1 hlt1
                have hl1 : u10.ownBlock = some ga ∨ Bz ≤ ga := by
                  rcases hl1 with h | h
                  · exact .inl h
                  · exact .inr (by rw [h]; exact hsz)
                have h1b := fun x hx => (h1o.lt x hx).1
                replace h2o := kept_apart h2o hgrow hap
                try replace k21 := k21.grown hgrow (fun e => by have := (hlim1 _ e.symm); omega)
                replace hb9 := hb9.trans (⟨hgrow.os, hgrow.tape, hgrow.output, hgrow.size, fun x hx => hgrow.block x (Nat.lt_of_lt_of_le hx (Nat.le_trans hWw hb9.size)) (fun e => by have := h1b _ e.symm; omega)⟩ : Below W.heap.size _ X10)
                replace hsz := Nat.le_trans hsz hgrow.size
                clear h1o hgrow k9 h1b
                have h1o := h1n
                clear h1n
                refine hK _ _ (hSb.out _ hb9) ?_
                clear hK K
                try simp only [Act.put, sA, sZ, sS]
                refine hOne 22 fun K hK => ?_
                refine wp_append_lies _ _ _ 33 (by rfl) W.heap.size 3 i0 (.int .i64 0) 1 8 Tryz.underlying33 hi0 hz0 hz1 hz2 rfl (by omega) u11 k Lb (by rfl) h2o ⟨g21, 0, none⟩ 1 1 [.int .i64 u] (by rfl) rfl (World.news_of_block (cs := #[.int .i64 u]) k21) (by simp [Value.oneCell']) (by omega) hbig1.out hbig2.out (Nat.le_trans hWw hb9.size) X10.heap.size rfl ?_
                intro gb cb X11 h2n hgrow hl2 hlt2
                have h1l := h1o.lt ga rfl
                have hne : ga ≠ gb := by
                  rcases hl2 with h | h
                  · have := hlim2 _ h
                    rcases hl1 with h1 | h1
                    · intro e; subst e; exact hap _ h1 h
                    · omega
                  · omega
                have h2b := fun x hx => (h2o.lt x hx).1
                replace h1o := kept_apart h1o hgrow (fun x hx e => by
                  have hx2 := hlim2 _ hx
                  have e2 : x = ga := (Option.some.inj e).symm
                  subst e2
                  rcases hl1 with h1 | h1
                  · exact hap _ h1 hx
                  · omega)
                replace hb9 := hb9.trans (⟨hgrow.os, hgrow.tape, hgrow.output, hgrow.size, fun x hx => hgrow.block x (Nat.lt_of_lt_of_le hx (Nat.le_trans hWw hb9.size)) (fun e => by have := h2b _ e.symm; omega)⟩ : Below W.heap.size _ X11)
                refine hK _ _ (hSb.out _ hb9) ?_
                clear hK K
                try simp only [Act.put, sA, sZ, sS]
                have hS := hSb.out _ hb9
                refine hTk 23 10 ?_
                refine hTk 24 11 ?_
                refine wpAnyH_done (by kernel_rfl) (hrest (g9, ga, ca, g21, gb, cb) _ ⟨h1o, h2n, hne, hb9⟩) _
            · rintro ⟨g9, ga, ca, g21, gb, cb⟩ X9 ⟨h1n, h2n, hne, hb9⟩
              try simp only [Act.put, sA, sZ, sS]
              refine noPanic_normal ?_
              dsimp only at h1n h2n hne
              clear hSb hi0 hz0 hz1 hz2 i0 hbig1 hbig2 hlim1 hlim2 h1o h2o hap hsz
              go_wp2
              go_roundw
              case rel =>
                refine ⟨k + 1, by go_num, by omega, hip2.out, ?_, ?_, ?_, hb.trans hb9⟩
                · rw [hs1.out, hzd.out, List.map_append, ← hLa.out]
                  exact h1n
                · rw [hs2.out, hud.out, List.map_append, ← hLb.out]
                  exact h2n
                · intro x hx hy2
                  simp only [Value.ownBlock, Option.some.injEq] at hx hy2
                  omega
              case measure => simp [intOf]; omega
          · simp only [decide_eq_false hqy] at hB2
            replace hqy := Lib.hid hqy
            go_wp2_with fail
            go_quiet ((go_at_call 7; with_reducible exact Calls.quiet_of_same (hB2 _)))
            replace b := b.trans ((below_drewN hb nq).mono hbz.out)
            clear c5 f5 l5
            go_wp2_with fail
            refine (fired_any _).mono ?_
            rintro e Wf ⟨rfl, hbel⟩
            go_wp2
            go_ret
            exact ⟨rfl, b.trans (hbel.mono b.size)⟩
        · obtain rfl : k = ny := by omega
          have ht1 : a.take k = a := List.take_of_length_le (by rw [hal.out]; exact Nat.le_refl _)
          have ht2 : plan.take k = plan := List.take_of_length_le (by rw [hpl.out]; exact Nat.le_refl _)
          rw [ht1] at h1o
          rw [ht2] at h2o
          replace hip := hip.out
          rw [ht2] at hip
          replace hip := Lib.hid hip
          clear ht1 ht2 hlt
          obtain ⟨P2, m2, e1, h1⟩ := SlAt.of_own (enc := ivs) h1o (by omega) (speedsOf ch a) (flatMap_ivs _).symm (fun _ => rfl) (by unfold speedsOf; rw [List.length_map]; exact hal.out)
          obtain ⟨P3, m3, e2, h2⟩ := SlAt.of_own (enc := ivs) h2o (by omega) (speedsOf ch plan) (flatMap_ivs _).symm (fun _ => rfl) (by unfold speedsOf; rw [List.length_map]; exact hpl.out)
          subst e1
          subst e2
          replace h1 := h1.mono (Nat.zero_le _)
          replace h2 := h2.mono (Nat.zero_le _)
          have hbel := hb
          clear h1o h2o hap hb k5w
          replace k3 := k3.below hbel
          replace k4 := k4.below hbel
          replace k5 := k5.below hbel
          replace b := b.trans (hbel.mono b.size)
          replace hs := hs.below hbel
          replace hl := hl.below hbel
          replace hd := hd.below hbel
          replace hc := hc.below hbel
          replace hp := hp.below hbel
          clear hbel
          generalize wr = W at *
          have hv1 : Hid (∀ x ∈ speedsOf ch a, 0 ≤ x ∧ x ≤ 100) := by
            show ∀ _ ∈ _, _
            intro x hx
            have := List.all_eq_true.1 (speedsOf_ok (plan := a) hspd.out) x hx
            unfold okSpeed at this
            exact of_decide_eq_true this
          have hv2 : Hid (∀ x ∈ speedsOf ch plan, 0 ≤ x ∧ x ≤ 100) := by
            show ∀ _ ∈ _, _
            intro x hx
            have := List.all_eq_true.1 (speedsOf_ok (plan := plan) hspd.out) x hx
            unfold okSpeed at this
            exact of_decide_eq_true this
          have hlen1 : Hid ((speedsOf ch a).length = k) := by show _ = _; unfold speedsOf; rw [List.length_map]; exact hal.out
          have hlen2 : Hid ((speedsOf ch plan).length = k) := by show _ = _; unfold speedsOf; rw [List.length_map]; exact hpl.out
          have hpl2 : Hid (plan.length = l.length) := by show _ = _; rw [hpl.out, ← hd.len]
          have hkw : keepsR s bs l (speedsOf ch plan) = (keepsS s bs l (speedsOf ch plan), 0) := by
            have : errW s bs l (speedsOf ch plan) = 0 := by rw [errW, if_pos hbw.out, if_pos ⟨by rw [speedsOf, List.length_map]; exact hpl2.out, speedsOf_ok hspd.out⟩]
            rw [keepsR, if_pos this]
          have hK9 := fun W h1 h2 h3 h4 => Keeps_any s A O D P3 n c no co k cd k m3 bs l (speedsOf ch plan) W h1 h2 h3 h4
          simp only [hkw] at hK9
          clear hkw
          have hok1 : okN f (speedsOf ch a) = okFir f := okN_eq hv1.out (by rw [hlen1.out]; exact hn1) (by rw [hlen1.out]; exact hn6)
          have hok2 : okN f (speedsOf ch plan) = okFir f := okN_eq hv2.out (by rw [hlen2.out]; exact hn1) (by rw [hlen2.out]; exact hn6)
          have hnum : Hid (keepsS s bs l (speedsOf ch plan) = true → okFir f = true → (numN f (speedsOf ch plan) : Int) ≤ numN f (speedsOf ch a)) := by
            show _ → _ → _
            intro h ho
            have h9 : sumL (speedsOf ch plan) ≤ sumL (speedsOf ch a) := by rw [f4.out]; exact (hbest.out plan hpl2.out hip.out h).2.1
            have := numN_le (f := f) hv2.out hv1.out (by rw [hlen2.out]; exact hn1) (by rw [hlen2.out]; exact hn6) (by rw [hlen2.out, hlen1.out]) h9 (by rw [hok2]; exact ho)
            omega
          have hq1 := fun W h => shots_any f (speedsOf ch a) P2 k m2 W (by omega) hv1.out h
          have hq2 := fun W h => shots_any f (speedsOf ch plan) P3 k m3 W (by omega) hv2.out h
          simp only [hok1] at hq1
          simp only [hok2] at hq2
          clear hok1 hok2 hbest
          generalize numN f (speedsOf ch a) = N1 at *
          generalize numN f (speedsOf ch plan) = N2 at *
          generalize okFir f = ok at *
          generalize keepsS s bs l (speedsOf ch plan) = kk at *
          go_wp2_with fail
          refine (Sum_any (speedsOf ch a) 100 P2 k m2 0 _ (by omega) (by omega) hv1.out h1).mono ?_
          rintro e W' ⟨rfl, rfl⟩
          rw [f4.out]
          obtain ⟨c4, f44, l4⟩ := k4.rules
          obtain ⟨c5, f5, l5⟩ := k5.rules
          go_wp2_with fail
          refine (hK9 _ hs hl hd h2).mono ?_
          rintro e W ⟨rfl, hbel⟩
          clear hK9 c4 f44 l4 c5 f5 l5
          replace h1 := h1.below hbel
          replace h2 := h2.below hbel
          replace k3 := k3.below hbel
          replace k4 := k4.below hbel
          replace k5 := k5.below hbel
          replace b := b.trans (hbel.mono b.size)
          replace hs := hs.below hbel
          replace hl := hl.below hbel
          replace hd := hd.below hbel
          replace hc := hc.below hbel
          replace hp := hp.below hbel
          clear hbel
          obtain ⟨c3, f3, l3⟩ := k3.rules
          go_wp2_with fail
          refine (hq1 _ h1).mono ?_
          rintro e W ⟨rfl, hbel⟩
          clear hq1 c3 f3 l3
          replace h2 := h2.below hbel
          replace k3 := k3.below hbel
          replace k4 := k4.below hbel
          replace k5 := k5.below hbel
          replace b := b.trans (hbel.mono b.size)
          replace hs := hs.below hbel
          replace hl := hl.below hbel
          replace hd := hd.below hbel
          replace hc := hc.below hbel
          replace hp := hp.below hbel
          clear hbel
          obtain ⟨c3, f3, l3⟩ := k3.rules
          go_wp2_with fail
          refine (hq2 _ h2).mono ?_
          rintro e W ⟨rfl, hbel⟩
          clear hq2 c3 f3 l3
          replace k3 := k3.below hbel
          replace k4 := k4.below hbel
          replace k5 := k5.below hbel
          replace b := b.trans (hbel.mono b.size)
          replace hs := hs.below hbel
          replace hl := hl.below hbel
          replace hd := hd.below hbel
          replace hc := hc.below hbel
          replace hp := hp.below hbel
          clear hbel
          cases ok with
          | false =>
            go_wp2_with fail
            refine (fired_any _).mono ?_
            rintro e Wf ⟨rfl, hbel⟩
            go_wp2
            go_ret
            exact ⟨rfl, b.trans (hbel.mono b.size)⟩
          | true =>
            cases kk with
            | false =>
              go_wp2_with fail
              refine (fired_any _).mono ?_
              rintro e Wf ⟨rfl, hbel⟩
              go_wp2
              go_ret
              exact ⟨rfl, b.trans (hbel.mono b.size)⟩
            | true =>
              have hnn := hnum.out rfl rfl
              go_wp2_with fail
              refine (fired_any _).mono ?_
              rintro e Wf ⟨rfl, hbel⟩
              go_wp2
              go_ret
              exact ⟨rfl, b.trans (hbel.mono b.size)⟩

end Go.Proofs.YtcmbmmpihiekhaaGreat
