/-
  Shots, walks: Weak.
-/
import Derived.Test.YtfengddpfeneiaaGreatS9
import Derived.Deep.DeepCutAuto
namespace Go.Proofs.YtfengddpfeneiaaGreat
open Go.RowKit Go.Shelf
set_option linter.unusedSimpArgs false
set_option linter.unusedVariables false

theorem Tryz.infoBool : (Tryz.prog.info? 4).map (fun i => (i.zero, i.size, i.bytes)) = some (some (.bool false), 1, 1) := by kernel_rfl
def RetWk (r : List Bool × List Bool × Int) (w : World) (e : Ending) (w' : World) : Prop :=
  ∃ P n pc Q m qc, e = .returned (.tuple #[.slice P n pc, .slice Q m qc, .int .i64 r.2.2]) ∧ SlAt w' w.heap.size 1 bvs P n pc r.1 ∧ SlAt w' w.heap.size 1 bvs Q m qc r.2.1 ∧ Below w.heap.size w w'
theorem RetWk.none_ {er : Int} {w w' : World} (hb : Below w.heap.size w w') : RetWk ([], [], er) w (.returned (.tuple #[.slice none 0 0, .slice none 0 0, .int .i64 er])) w' :=
  ⟨none, 0, 0, none, 0, 0, rfl, SlAt.nil _ _ _ _, SlAt.nil _ _ _ _, hb⟩
theorem fillTo_same {α : Type} {l : List α} {k : Nat} {z : α} (h : ∀ i x, i < k → l[i]? = some x → x = z) : fillTo l k z = List.replicate l.length z := by
  refine List.ext_getElem? fun i => ?_
  unfold fillTo
  rw [List.getElem?_replicate]
  by_cases hi : i < l.length
  · rw [if_pos hi]
    by_cases hk : i < k
    · rw [List.getElem?_append_left (by simp; omega), List.getElem?_take_of_lt hk]
      obtain ⟨x, hx⟩ := some_of_lt rfl hi
      rw [hx, h i x hk hx]
    · rw [List.getElem?_append_right (by simp; omega), List.getElem?_replicate, if_pos (by simp; omega)]
  · rw [if_neg hi, List.getElem?_eq_none (by simp; omega)]
theorem sureL_len (f : Fir) (b : List Bnd) : (sureL f b).length = f.shots.toNat := by simp [sureL]
theorem mayL_len (f : Fir) (b : List Bnd) : (mayL f b).length = f.shots.toNat := by simp [mayL]
theorem sure_start {f : Fir} (h : firOk f) (b : List Bnd) : fillTo (sureL f b) f.srcs.toNat false = List.replicate f.shots.toNat false := by
  rw [fillTo_same, sureL_len]
  intro i x hi hx
  have hl := (List.getElem?_eq_some_iff.1 hx).1
  rw [sureL_len] at hl
  rw [show (sureL f b)[i]? = some (sureS f b i) from mapRange_at _ hl] at hx
  simp only [Option.some.injEq] at hx
  rw [← hx]
  unfold sureS firOk at *
  rw [decide_eq_false (show ¬ f.srcs ≤ (i : Int) by omega)]; rfl
theorem may_start {f : Fir} (h : firOk f) (b : List Bnd) : fillTo (mayL f b) f.srcs.toNat false = List.replicate f.shots.toNat false := by
  rw [fillTo_same, mayL_len]
  intro i x hi hx
  have hl := (List.getElem?_eq_some_iff.1 hx).1
  rw [mayL_len] at hl
  rw [show (mayL f b)[i]? = some (mayS f b i) from mapRange_at _ hl] at hx
  simp only [Option.some.injEq] at hx
  rw [← hx]
  unfold mayS firOk at *
  rw [decide_eq_false (show ¬ f.srcs ≤ (i : Int) by omega)]; rfl
theorem fillTo_over {α : Type} (l : List α) {k : Nat} (z : α) (h : l.length ≤ k) : fillTo l k z = l := by
  unfold fillTo; rw [List.take_of_length_le h, show l.length - k = 0 by omega]; simp
theorem timeS_bd {f : Fir} {b : List Bnd} (n : Nat) (h : b.length ≤ 17592186044416) : -1 ≤ (timeS f b n).lo ∧ (timeS f b n).lo < 17592186044416 ∧ -1 ≤ (timeS f b n).hi ∧ (timeS f b n).hi < 17592186044416 := by
  have h1 := reachS_bd (highsL b) (dueS f n) 0
  have h2 := reachS_bd (lowsL b) (dueS f n) 0
  rw [highsL_len] at h1
  rw [lowsL_len] at h2
  unfold timeS
  dsimp only
  omega
set_option maxRecDepth 100000 in
set_option maxHeartbeats 4000000 in
theorem Weak_any (f : Fir) (bl : List Bnd) (A : Option Addr) (n c B : Nat) (w : World) (hs : SlAt w B 2 Bnd.cells A n c bl) :
    Calls Tryz.prog 43 #[.agg #[.int .i64 f.start, .int .i64 f.every, .int .i64 f.srcs, .int .i64 f.shots, .int .i64 f.charge], .slice A n c] w (RetWk (weakR f bl) w) := by
  have h1 := fun W h => Times_any f bl A n c B W h
  have hl := hs.len
  have hn := hs.le
  obtain ⟨w1, hw1⟩ : ∃ w1, w1 = w.alloc (.cells #[.int .i64 f.start, .int .i64 f.every, .int .i64 f.srcs, .int .i64 f.shots, .int .i64 f.charge] 47) := ⟨_, rfl⟩
  have k3 : Blk w1 w.heap.size 47 #[.int .i64 f.start, .int .i64 f.every, .int .i64 f.srcs, .int .i64 f.shots, .int .i64 f.charge] := by rw [hw1]; exact Blk.new _ _ _
  have b : Below w.heap.size w w1 := by rw [hw1]; exact (Below.refl _ _).alloc (Nat.le_refl _) _
  have hs1 : SlAt w1 B 2 Bnd.cells A n c bl := by rw [hw1]; exact hs.alloc _
  clear hs
  by_cases he : errT f bl = 0
  · have hv : Hid (weakR f bl = (sureL f bl, mayL f bl, 0)) := by show _ = _; unfold weakR; rw [if_pos he]
    rw [show timeR f bl = (timeL f bl, 0) from by unfold timeR; rw [if_pos he]] at h1
    have hf : okFir f = true := by unfold errT at he; split at he; assumption; cases he
    have hfo := Lib.hid (okFir_is hf)
    have htb := Lib.hid (fun n => timeS_bd (f := f) (b := bl) n (by omega))
    unfold RetSl at h1
    clear he hf
    go_enter Tryz.func43, Tryz.ntmps43
    go_wp2_with fail
    rw [← hw1]
    clear hw1
    obtain ⟨c3, f3, l3⟩ := k3.rules
    go_wp2_with fail
    refine (h1 _ hs1).mono ?_
    rintro e W ⟨P, np, pc, rfl, hP, hb⟩
    clear h1 hs1 c3 f3 l3
    replace k3 := k3.below hb
    have hwb : Hid (w.heap.size ≤ W.heap.size) := by show _ ≤ _; have := b.size; have := hb.size; omega
    replace b := b.trans (hb.mono b.size)
    clear hb
    obtain ⟨p1, p2, p3, p4, p5, p6, p7, p8, p9, p10⟩ := hfo.out
    obtain ⟨m, hm⟩ : ∃ m : Nat, f.shots = m := ⟨f.shots.toNat, by omega⟩
    have hmt : f.shots.toNat = m := by omega
    obtain rfl : np = m := by have := hP.len; rw [← this, ← hmt]; simp [timeL]
    replace hP := hP.mono (Nat.zero_le _)
    obtain ⟨ib, ibh, ib0, ib1, ib2⟩ := info_parts Tryz.infoBool
    have hc1 := Lib.hid (show ib.bytes * np ≤ 281474976710656 by rw [ib2]; omega)
    have hc2 := Lib.hid (show np ≤ maxLen by unfold maxLen; omega)
    go_wp2_with fail
    refine wp_held_np (fun w' : World => True) (by kernel_rfl) ?_
    have hbz : Below W.heap.size W W.drew := (Below.refl _ _).drew
    have hS : (fun w' : World => True) W.drew := trivial
    generalize W.drew = wd at *
    refine held_take (i := 0) (v := ?_) 20 rfl rfl (by kernel_rfl) (by kernel_rfl) (by kernel_rfl) (fun _ _ _ h => h) (Or.inl ⟨by rfl, ?_⟩) hS ?_
    rotate_left 1
    · intro w' hSw
      try dsimp only at hSw
      obtain h9 := hSw
      go_simp
      all_goals with_reducible rfl
    try simp only [Act.put, List.setIfInBounds_toArray, List.set_cons_zero, List.set_cons_succ]
    refine held_take (i := 1) (v := ?_) 21 rfl rfl (by kernel_rfl) (by kernel_rfl) (by kernel_rfl) (fun _ _ _ h => h) (Or.inl ⟨by rfl, ?_⟩) hS ?_
    rotate_left 1
    · intro w' hSw
      try dsimp only at hSw
      obtain h9 := hSw
      go_simp
      all_goals with_reducible rfl
    try simp only [Act.put, List.setIfInBounds_toArray, List.set_cons_zero, List.set_cons_succ]
    refine held_take (i := 3) (v := ?_) 23 rfl rfl (by kernel_rfl) (by kernel_rfl) (by kernel_rfl) (fun _ _ _ h => h) (Or.inl ⟨by rfl, ?_⟩) hS ?_
    rotate_left 1
    · intro w' hSw
      try dsimp only at hSw
      obtain h9 := hSw
      go_simp
      all_goals with_reducible rfl
    try simp only [Act.put, List.setIfInBounds_toArray, List.set_cons_zero, List.set_cons_succ]
    refine held_take (i := 4) (v := ?_) 24 rfl rfl (by kernel_rfl) (by kernel_rfl) (by kernel_rfl) (fun _ _ _ h => h) (Or.inl ⟨by rfl, ?_⟩) hS ?_
    rotate_left 1
    · intro w' hSw
      try dsimp only at hSw
      obtain h9 := hSw
      go_simp
      all_goals with_reducible rfl
    try simp only [Act.put, List.setIfInBounds_toArray, List.set_cons_zero, List.set_cons_succ]
    clear hS
    refine wpAnyH_fin (f := fun a (q : Nat × Nat) => (((a.put (some 22) (.slice (some ⟨q.1, 0, none⟩) np np)).put (some 25) (.slice (some ⟨q.2, 0, none⟩) np np)).put (some 4) (.slice (some ⟨q.1, 0, none⟩) np np)).put (some 5) (.slice (some ⟨q.2, 0, none⟩) np np)) (B := fun q W' => W'.ownsRow W.heap.size 4 1 (.slice (some ⟨q.1, 0, none⟩) np np) np (madeCells (Value.bool false).cells (np * 1)).toList ∧ W'.ownsRow W.heap.size 4 1 (.slice (some ⟨q.2, 0, none⟩) np np) np (madeCells (Value.bool false).cells (np * 1)).toList ∧ q.1 ≠ q.2 ∧ Below W.heap.size W W') ?_ (fun hrest => ?_)
    · rintro ⟨g4, g5⟩ W3 ⟨r4, r5, hne, hb⟩
      try simp only [Act.put, List.setIfInBounds_toArray, List.set_cons_zero, List.set_cons_succ]
      refine noPanic_normal ?_
      clear hbz
      have rv0 : W3.ownsRow W.heap.size 4 1 (.slice (some ⟨g4, 0, none⟩) np np) np ((fillTo (sureL f bl) f.srcs.toNat false).map Value.bool) := by
        rw [sure_start hfo.out, hmt]
        rw [madeCells_bool] at r4
        exact r4
      have ru0 : W3.ownsRow W.heap.size 4 1 (.slice (some ⟨g5, 0, none⟩) np np) np ((fillTo (mayL f bl) f.srcs.toNat false).map Value.bool) := by
        rw [may_start hfo.out, hmt]
        rw [madeCells_bool] at r5
        exact r5
      obtain ⟨sn, hsn⟩ : ∃ sn : Nat, f.srcs = sn := ⟨f.srcs.toNat, by omega⟩
      have hsnt : f.srcs.toNat = sn := by omega
      rw [hsnt] at rv0 ru0
      have hg4 : W.heap.size ≤ g4 := (r4.lt g4 rfl).1
      have hg5 : W.heap.size ≤ g5 := (r5.lt g5 rfl).1
      dsimp only at hne
      have hk3b := k3.below hb
      clear r4 r5 hc1 hc2 ib0 ib1 ib2 ibh
      obtain ⟨c3, f3, l3⟩ := hk3b.rules
      go_wp2_with fail
      clear c3 f3 l3 hk3b
      go_loopw [8] (fun i wr => ∃ k : Nat, i = .int .i64 (k : Int) ∧ sn ≤ k ∧ wr.ownsRow W.heap.size 4 1 (.slice (some ⟨g4, 0, none⟩) np np) np ((fillTo (sureL f bl) k false).map Value.bool) ∧ wr.ownsRow W.heap.size 4 1 (.slice (some ⟨g5, 0, none⟩) np np) np ((fillTo (mayL f bl) k false).map Value.bool) ∧ Below W.heap.size W wr) (fun i wr => np - (intOf i).toNat)
      case atStart => exact ⟨sn, rfl, Nat.le_refl _, rv0, ru0, hb⟩
      case round =>
        clear rv0 ru0 hb
        replace hsn := Lib.hid hsn
        obtain ⟨k, rfl, hk, rv, ru, hb⟩ := hrel
        by_cases hlt : k < np
        · obtain ⟨j, rfl⟩ : ∃ j : Nat, k = j + sn := ⟨k - sn, by omega⟩
          have t1 : IntKind.i64.wrap (((j + sn : Nat) : Int) - f.srcs) = (j : Int) := by have := hsn.out; rw [IntWalk.i64_in _ (by omega)]; omega
          have hx : (timeL f bl)[j + sn]? = some (timeS f bl (j + sn)) := mapRange_at _ (by omega)
          have hy : (timeL f bl)[j]? = some (timeS f bl j) := mapRange_at _ (by omega)
          have hPr := hP.below hb
          obtain ⟨bP, oP, hA, -, hbP, z0, z1⟩ := hPr.bnd hx
          obtain ⟨bP2, oP2, hA2, -, -, y0, y1⟩ := hPr.bnd hy
          rw [hA] at hA2
          simp only [Option.some.injEq, Addr.mk.injEq, and_true] at hA2
          obtain ⟨rfl, rfl⟩ := hA2
          subst hA
          have h3 := htb.out (j + sn)
          have h4 := htb.out j
          have hsu : sureS f bl (j + sn) = (!decide ((timeS f bl (j + sn)).hi = -1) && decide ((timeS f bl (j + sn)).hi - (timeS f bl j).lo < f.charge)) := by
            unfold sureS
            rw [hsnt, Nat.add_sub_cancel, decide_eq_true (show f.srcs ≤ ((j + sn : Nat) : Int) by have := hsn.out; omega), Bool.true_and]
          have hma : mayS f bl (j + sn) = (!decide ((timeS f bl (j + sn)).lo = -1) && decide (0 < f.charge) && (decide ((timeS f bl j).hi = -1) || decide ((timeS f bl (j + sn)).lo - (timeS f bl j).hi < f.charge))) := by
            unfold mayS
            rw [hsnt, Nat.add_sub_cancel, decide_eq_true (show f.srcs ≤ ((j + sn : Nat) : Int) by have := hsn.out; omega), Bool.true_and]
          have hgs : (sureL f bl)[j + sn]? = some (sureS f bl (j + sn)) := mapRange_at _ (by omega)
          have hgm : (mayL f bl)[j + sn]? = some (mayS f bl (j + sn)) := mapRange_at _ (by omega)
          generalize sureS f bl (j + sn) = sv at *
          generalize mayS f bl (j + sn) = mv at *
          generalize (timeS f bl (j + sn)).lo = xl at *
          generalize (timeS f bl (j + sn)).hi = xh at *
          generalize (timeS f bl j).lo = yl at *
          generalize (timeS f bl j).hi = yh at *
          have hk0 : (0 : Int) ≤ ((j + sn : Nat) : Int) := by omega
          have hk1 : ((j + sn : Nat) : Int) < (np : Int) := by omega
          have hk2 : (0 : Int) ≤ (j : Int) := by omega
          have hk3 : (j : Int) < (np : Int) := by omega
          obtain ⟨k, hkk⟩ : ∃ k, k = j + sn := ⟨_, rfl⟩
          rw [← hkk] at t1 z0 z1 hk0 hk1 hgs hgm rv ru
          rw [← hkk]
          have hsk : sn ≤ k := by omega
          replace hkk := Lib.hid hkk
          replace hsu := Lib.hid hsu
          replace hma := Lib.hid hma
          replace hgs := Lib.hid hgs
          replace hgm := Lib.hid hgm
          replace hx := Lib.hid hx
          replace hy := Lib.hid hy
          have k3r := k3.below hb
          have hk3l := k3r.lt
          have hSb : Hid (∀ W', Below wr.heap.size wr W' → (fun w' : World => (∀ i, w'.cell? ⟨w.heap.size, i, none⟩ = #[Value.int .i64 f.start, .int .i64 f.every, .int .i64 f.srcs, .int .i64 f.shots, .int .i64 f.charge][i]?) ∧ w'.cell? ⟨bP, oP + k * 2, none⟩ = some (.int .i64 xl) ∧ w'.cell? ⟨bP, oP + k * 2 + 1, none⟩ = some (.int .i64 xh) ∧ w'.cell? ⟨bP, oP + j * 2, none⟩ = some (.int .i64 yl) ∧ w'.cell? ⟨bP, oP + j * 2 + 1, none⟩ = some (.int .i64 yh)) W') := by
            show ∀ _, _
            intro W' hbb
            exact ⟨(k3r.below hbb).cell, (hbb.cell (p := ⟨bP, oP + k * 2, none⟩) hbP).trans z0, (hbb.cell (p := ⟨bP, oP + k * 2 + 1, none⟩) hbP).trans z1, (hbb.cell (p := ⟨bP, oP + j * 2, none⟩) hbP).trans y0, (hbb.cell (p := ⟨bP, oP + j * 2 + 1, none⟩) hbP).trans y1⟩
          clear z0 z1 y0 y1 hPr
          go_wp2_with fail
          refine wp_held_np (fun w' : World => (∀ i, w'.cell? ⟨w.heap.size, i, none⟩ = #[Value.int .i64 f.start, .int .i64 f.every, .int .i64 f.srcs, .int .i64 f.shots, .int .i64 f.charge][i]?) ∧ w'.cell? ⟨bP, oP + k * 2, none⟩ = some (.int .i64 xl) ∧ w'.cell? ⟨bP, oP + k * 2 + 1, none⟩ = some (.int .i64 xh) ∧ w'.cell? ⟨bP, oP + j * 2, none⟩ = some (.int .i64 yl) ∧ w'.cell? ⟨bP, oP + j * 2 + 1, none⟩ = some (.int .i64 yh)) (by kernel_rfl) ?_
          have hbz : Below wr.heap.size wr wr.drew := (Below.refl _ _).drew
          have hS := hSb.out _ hbz
          generalize wr.drew = wd at *
          refine held_take (i := 0) (v := ?_) 34 rfl rfl (by kernel_rfl) (by kernel_rfl) (by kernel_rfl) (fun _ _ _ h => h) (Or.inl ⟨by rfl, ?_⟩) hS ?_
          rotate_left 1
          · intro w' hSw
            try dsimp only at hSw
            obtain ⟨q1, q2, q3, q4, q5⟩ := hSw
            go_simp
            all_goals with_reducible rfl
          try simp only [Act.put, List.setIfInBounds_toArray, List.set_cons_zero, List.set_cons_succ]
          refine held_take (i := 1) (v := ?_) 35 rfl rfl (by kernel_rfl) (by kernel_rfl) (by kernel_rfl) (fun _ _ _ h => h) (Or.inl ⟨by rfl, ?_⟩) hS ?_
          rotate_left 1
          · intro w' hSw
            try dsimp only at hSw
            obtain ⟨q1, q2, q3, q4, q5⟩ := hSw
            go_simp
            all_goals with_reducible rfl
          try simp only [Act.put, List.setIfInBounds_toArray, List.set_cons_zero, List.set_cons_succ]
          refine held_take (i := 2) (v := ?_) 36 rfl rfl (by kernel_rfl) (by kernel_rfl) (by kernel_rfl) (fun _ _ _ h => h) (Or.inl ⟨by rfl, ?_⟩) hS ?_
          rotate_left 1
          · intro w' hSw
            try dsimp only at hSw
            obtain ⟨q1, q2, q3, q4, q5⟩ := hSw
            go_simp
            all_goals with_reducible rfl
          try simp only [Act.put, List.setIfInBounds_toArray, List.set_cons_zero, List.set_cons_succ]
          refine held_take (i := 3) (v := ?_) 37 rfl rfl (by kernel_rfl) (by kernel_rfl) (by kernel_rfl) (fun _ _ _ h => h) (Or.inl ⟨by rfl, ?_⟩) hS ?_
          rotate_left 1
          · intro w' hSw
            try dsimp only at hSw
            obtain ⟨q1, q2, q3, q4, q5⟩ := hSw
            go_simp
            all_goals with_reducible rfl
          try simp only [Act.put, List.setIfInBounds_toArray, List.set_cons_zero, List.set_cons_succ]
          refine held_take (i := 4) (v := ?_) 38 rfl rfl (by kernel_rfl) (by kernel_rfl) (by kernel_rfl) (fun _ _ _ h => h) (Or.inl ⟨by rfl, ?_⟩) hS ?_
          rotate_left 1
          · intro w' hSw
            try dsimp only at hSw
            obtain ⟨q1, q2, q3, q4, q5⟩ := hSw
            go_simp
            all_goals with_reducible rfl
          try simp only [Act.put, List.setIfInBounds_toArray, List.set_cons_zero, List.set_cons_succ]
          refine held_take (i := 5) (v := ?_) 39 rfl rfl (by kernel_rfl) (by kernel_rfl) (by kernel_rfl) (fun _ _ _ h => h) (Or.inl ⟨by rfl, ?_⟩) hS ?_
          rotate_left 1
          · intro w' hSw
            try dsimp only at hSw
            obtain ⟨q1, q2, q3, q4, q5⟩ := hSw
            go_simp
            all_goals with_reducible rfl
          try simp only [Act.put, List.setIfInBounds_toArray, List.set_cons_zero, List.set_cons_succ]
          refine held_take (i := 6) (v := ?_) 40 rfl rfl (by kernel_rfl) (by kernel_rfl) (by kernel_rfl) (fun _ _ _ h => h) (Or.inl ⟨by rfl, ?_⟩) hS ?_
          rotate_left 1
          · intro w' hSw
            try dsimp only at hSw
            obtain ⟨q1, q2, q3, q4, q5⟩ := hSw
            go_simp
            all_goals with_reducible rfl
          try simp only [Act.put, List.setIfInBounds_toArray, List.set_cons_zero, List.set_cons_succ]
          refine held_take (i := 7) (v := ?_) 41 rfl rfl (by kernel_rfl) (by kernel_rfl) (by kernel_rfl) (fun _ _ _ h => h) (Or.inl ⟨by rfl, ?_⟩) hS ?_
          rotate_left 1
          · intro w' hSw
            try dsimp only at hSw
            obtain ⟨q1, q2, q3, q4, q5⟩ := hSw
            go_simp
            all_goals with_reducible rfl
          try simp only [Act.put, List.setIfInBounds_toArray, List.set_cons_zero, List.set_cons_succ]
          refine held_take (i := 8) (v := ?_) 42 rfl rfl (by kernel_rfl) (by kernel_rfl) (by kernel_rfl) (fun _ _ _ h => h) (Or.inl ⟨by rfl, ?_⟩) hS ?_
          rotate_left 1
          · intro w' hSw
            try dsimp only at hSw
            obtain ⟨q1, q2, q3, q4, q5⟩ := hSw
            go_simp
            all_goals with_reducible rfl
          try simp only [Act.put, List.setIfInBounds_toArray, List.set_cons_zero, List.set_cons_succ]
          refine held_take (i := 9) (v := ?_) 43 rfl rfl (by kernel_rfl) (by kernel_rfl) (by kernel_rfl) (fun _ _ _ h => h) (Or.inl ⟨by rfl, ?_⟩) hS ?_
          rotate_left 1
          · intro w' hSw
            try dsimp only at hSw
            obtain ⟨q1, q2, q3, q4, q5⟩ := hSw
            go_simp
            all_goals with_reducible rfl
          try simp only [Act.put, List.setIfInBounds_toArray, List.set_cons_zero, List.set_cons_succ]
          refine held_take (i := 10) (v := ?_) 44 rfl rfl (by kernel_rfl) (by kernel_rfl) (by kernel_rfl) (fun _ _ _ h => h) (Or.inl ⟨by rfl, ?_⟩) hS ?_
          rotate_left 1
          · intro w' hSw
            try dsimp only at hSw
            obtain ⟨q1, q2, q3, q4, q5⟩ := hSw
            go_simp
            all_goals with_reducible rfl
          try simp only [Act.put, List.setIfInBounds_toArray, List.set_cons_zero, List.set_cons_succ]
          clear hS
          refine wpAnyH_fin (f := fun a (q : Nat × Nat) => ((a.put (some 9) (.pointer (some ⟨q.1, 0, none⟩))).put (some 10) (.pointer (some ⟨q.2, 0, none⟩)))) (B := fun q W' => Blk W' q.1 40 #[.int .i64 xl, .int .i64 xh] ∧ Blk W' q.2 40 #[.int .i64 yl, .int .i64 yh] ∧ q.1 ≠ q.2 ∧ wr.heap.size ≤ q.1 ∧ wr.heap.size ≤ q.2 ∧ Below wr.heap.size wr W') ?_ (fun hrest => ?_)
          · rintro ⟨g9, g10⟩ W9 ⟨k9, k10, hn9, hg9, hg10, hb9⟩
            try simp only [Act.put, List.setIfInBounds_toArray, List.set_cons_zero, List.set_cons_succ]
            refine noPanic_normal ?_
            dsimp only at k9 k10 hn9 hg9 hg10
            clear hbz hSb
            have hg4w := (rv.lt g4 rfl).2
            have hg5w := (ru.lt g5 rfl).2
            have rv9 := ownsRow_below rv hb9
            have ru9 := ownsRow_below ru hb9
            have k39 := k3r.below hb9
            replace hb := hb.trans (hb9.mono hb.size)
            clear rv ru hb9 k3r
            obtain ⟨v0, hcc⟩ := own_cell rv9 (j := k) (by omega)
            have hfr := rv9.frozenAt k
            have u1 := IntWalk.i64_in (xh - yl) (by omega)
            have u2 := IntWalk.i64_in (xl - yh) (by omega)
            have hr9 := (rv9.lt g4 rfl).2
            have hr5 := (ru9.lt g5 rfl).2
            go_upto_region 9 with fail
            go_cut [8] from 89 (fun i wx => i = .int .i64 (k : Int) ∧ wx = W9.setCell ⟨g4, k, none⟩ (.bool sv))
            case first =>
              obtain ⟨c9, f9, l9⟩ := k9.rules
              obtain ⟨c10, f10, l10⟩ := k10.rules
              obtain ⟨c3, f3, l3⟩ := k39.rules
              clear hk2 hk3 t1 u2
              by_cases q1 : xh = -1
              · have q1' : (xh != -1) = false := by rw [bne_eq_false_iff_eq]; exact q1
                replace q1 := Lib.hid q1
                obtain rfl : sv = false := by rw [hsu.out]; simp [q1.out]
                go_wp2_with fail
                go_meet
                exact ⟨rfl, rfl⟩
              · have q1' : (xh != -1) = true := by rw [bne_iff_ne]; exact q1
                by_cases q2 : xh - yl < f.charge
                · replace q1 := Lib.hid q1
                  replace q2 := Lib.hid q2
                  have q2' : decide (xh - yl < f.charge) = true := decide_eq_true q2.out
                  obtain rfl : sv = true := by rw [hsu.out]; simp [q1.out, q2.out]
                  go_wp2_with fail
                  go_meet
                  exact ⟨rfl, rfl⟩
                · replace q1 := Lib.hid q1
                  replace q2 := Lib.hid q2
                  have q2' : decide (xh - yl < f.charge) = false := decide_eq_false q2.out
                  obtain rfl : sv = false := by rw [hsu.out]; simp [q1.out, q2.out]
                  go_wp2_with fail
                  go_meet
                  exact ⟨rfl, rfl⟩
            case rest =>
            obtain ⟨rfl, hwc⟩ := hcut
            rw [hwc]
            clear hwc wc hcc hfr u1
            have rv5 := (rv9.stored k (.bool sv)).1
            rw [← List.map_set, fillTo_set hgs.out] at rv5
            have ru5 := ownsRow_setCell ru9 (p := ⟨g4, k, none⟩) (fun e => by simp only [Value.ownBlock, Option.some.injEq] at e; exact hne e.symm) (.bool sv)
            have k9z := k9.far (p := ⟨g4, k, none⟩) (by dsimp only; omega) (.bool sv)
            have k10z := k10.far (p := ⟨g4, k, none⟩) (by dsimp only; omega) (.bool sv)
            have k3z := k39.far (p := ⟨g4, k, none⟩) (by dsimp only; have := k3.lt; omega) (.bool sv)
            have hb5 := hb.setCell (p := ⟨g4, k, none⟩) hg4 (.bool sv)
            clear rv9 ru9 k9 k10 k39 hb
            generalize W9.setCell ⟨g4, k, none⟩ (.bool sv) = W5 at *
            obtain ⟨v0, hcc⟩ := own_cell ru5 (j := k) (by omega)
            have hfr := ru5.frozenAt k
            have ru6 := Lib.hid ((ru5.stored k (.bool mv)).1)
            rw [← List.map_set, fillTo_set hgm.out] at ru6
            have rv6 := Lib.hid (ownsRow_setCell rv5 (p := ⟨g5, k, none⟩) (fun e => by simp only [Value.ownBlock, Option.some.injEq] at e; exact hne e) (.bool mv))
            have hb6 := Lib.hid (hb5.setCell (p := ⟨g5, k, none⟩) hg5 (.bool mv))
            clear rv5 ru5 hb5
            have rv5 := rv6
            have ru5 := ru6
            have hb5 := hb6
            clear rv6 ru6 hb6
            have t3 := IntWalk.i64_in ((k : Int) + 1) (by omega)
            obtain ⟨c9, f9, l9⟩ := k9z.rules
            obtain ⟨c10, f10, l10⟩ := k10z.rules
            obtain ⟨c3, f3, l3⟩ := k3z.rules
            clear hk2 hk3 t1
            by_cases q1 : xl = -1
            · have q1' : (xl != -1) = false := by rw [bne_eq_false_iff_eq]; exact q1
              replace q1 := Lib.hid q1
              obtain rfl : mv = false := by rw [hma.out]; simp [q1.out]
              go_wp2_with fail
              go_roundw
              case rel => exact ⟨k + 1, by go_num, by omega, rv5.out, ru5.out, hb5.out⟩
              case measure => simp [intOf]; omega
            · have q1' : (xl != -1) = true := by rw [bne_iff_ne]; exact q1
              replace q1 := Lib.hid q1
              by_cases q2 : 0 < f.charge
              · have q2' : decide (f.charge > 0) = true := decide_eq_true q2
                replace q2 := Lib.hid q2
                by_cases q3 : yh = -1
                · have q3' : (yh == -1) = true := by rw [beq_iff_eq]; exact q3
                  replace q3 := Lib.hid q3
                  obtain rfl : mv = true := by rw [hma.out]; simp [q1.out, q2.out, q3.out]
                  go_wp2_with fail
                  go_roundw
                  case rel => exact ⟨k + 1, by go_num, by omega, rv5.out, ru5.out, hb5.out⟩
                  case measure => simp [intOf]; omega
                · have q3' : (yh == -1) = false := by rw [beq_eq_false_iff_ne]; exact q3
                  replace q3 := Lib.hid q3
                  by_cases q4 : xl - yh < f.charge
                  · have q4' : decide (xl - yh < f.charge) = true := decide_eq_true q4
                    replace q4 := Lib.hid q4
                    obtain rfl : mv = true := by rw [hma.out]; simp [q1.out, q2.out, q3.out, q4.out]
                    go_wp2_with fail
                    go_roundw
                    case rel => exact ⟨k + 1, by go_num, by omega, rv5.out, ru5.out, hb5.out⟩
                    case measure => simp [intOf]; omega
                  · have q4' : decide (xl - yh < f.charge) = false := decide_eq_false q4
                    replace q4 := Lib.hid q4
                    obtain rfl : mv = false := by rw [hma.out]; simp [q1.out, q2.out, q3.out, q4.out]
                    go_wp2_with fail
                    go_roundw
                    case rel => exact ⟨k + 1, by go_num, by omega, rv5.out, ru5.out, hb5.out⟩
                    case measure => simp [intOf]; omega
              · have q2' : decide (f.charge > 0) = false := decide_eq_false q2
                replace q2 := Lib.hid q2
                obtain rfl : mv = false := by rw [hma.out]; simp [q1.out, q2.out]
                go_wp2_with fail
                go_roundw
                case rel => exact ⟨k + 1, by go_num, by omega, rv5.out, ru5.out, hb5.out⟩
                case measure => simp [intOf]; omega
          · try simp only [Act.put, List.setIfInBounds_toArray, List.set_cons_zero, List.set_cons_succ] at hrest
            refine held_two (i := 11) (j := 12) (by kernel_rfl) rfl rfl rfl rfl (fun K hK => ?_) (fun K hK => ?_)
            · skip
              go_simp
              have k11 := Blk.new wd 40 #[.int .i64 0, .int .i64 0]
              have hbel := (Below.refl wd.heap.size wd).alloc (Nat.le_refl _) (.cells #[.int .i64 0, .int .i64 0] 40)
              have sz11 : wd.heap.size < (wd.alloc (.cells #[.int .i64 0, .int .i64 0] 40)).heap.size := by rw [World.size_alloc]; omega
              have gw11 := hbz.size
              try replace k12 := k12.below hbel
              replace hbz := hbz.trans (hbel.mono hbz.size)
              clear hbel
              refine hK _ _ (hSb.out _ hbz) ?_
              clear hK K
              try simp only [Act.put, List.setIfInBounds_toArray, List.set_cons_zero, List.set_cons_succ]
              generalize wd.alloc (.cells #[.int .i64 0, .int .i64 0] 40) = X1 at *
              generalize hg11 : wd.heap.size = g11 at *
              refine held_one (i := 12) (by kernel_rfl) rfl rfl (fun K hK => ?_)
              go_simp
              have k12 := Blk.new X1 40 #[.int .i64 0, .int .i64 0]
              have hbel := (Below.refl X1.heap.size X1).alloc (Nat.le_refl _) (.cells #[.int .i64 0, .int .i64 0] 40)
              have sz12 : X1.heap.size < (X1.alloc (.cells #[.int .i64 0, .int .i64 0] 40)).heap.size := by rw [World.size_alloc]; omega
              have gw12 := hbz.size
              try replace k11 := k11.below hbel
              replace hbz := hbz.trans (hbel.mono hbz.size)
              clear hbel
              refine hK _ _ (hSb.out _ hbz) ?_
              clear hK K
              try simp only [Act.put, List.setIfInBounds_toArray, List.set_cons_zero, List.set_cons_succ]
              generalize X1.alloc (.cells #[.int .i64 0, .int .i64 0] 40) = X2 at *
              generalize hg12 : X1.heap.size = g12 at *
              refine held_one (i := 13) (by kernel_rfl) rfl rfl (fun K hK => ?_)
              have kz := (k11.set_ 0 (.int .i64 xl)).set_ 1 (.int .i64 xh)
              simp only [List.setIfInBounds_toArray, List.set_cons_zero, List.set_cons_succ] at kz
              have ko := (k12.far (p := ⟨g11, 0, none⟩) (by dsimp only; omega) (.int .i64 xl)).far (p := ⟨g11, 1, none⟩) (by dsimp only; omega) (.int .i64 xh)
              have bz := (hbz.setCell (p := ⟨g11, 0, none⟩) (by dsimp only; omega) (.int .i64 xl)).setCell (p := ⟨g11, 1, none⟩) (by dsimp only; omega) (.int .i64 xh)
              obtain ⟨X3, hwz⟩ : ∃ y, y = (X2.setCell ⟨g11, 0, none⟩ (.int .i64 xl)).setCell ⟨g11, 1, none⟩ (.int .i64 xh) := ⟨_, rfl⟩
              rw [← hwz] at kz ko bz
              obtain ⟨c9, f9, l9⟩ := k11.rules
              go_simp
              rw [← hwz]
              clear hwz c9 f9 l9 k11 k12 hbz
              have k11 := kz
              have k12 := ko
              have hbz := bz
              clear kz ko bz
              refine hK _ _ (hSb.out _ hbz) ?_
              clear hK K
              try simp only [Act.put, List.setIfInBounds_toArray, List.set_cons_zero, List.set_cons_succ]
              refine held_one (i := 14) (by kernel_rfl) rfl rfl (fun K hK => ?_)
              have kz := (k12.set_ 0 (.int .i64 yl)).set_ 1 (.int .i64 yh)
              simp only [List.setIfInBounds_toArray, List.set_cons_zero, List.set_cons_succ] at kz
              have ko := (k11.far (p := ⟨g12, 0, none⟩) (by dsimp only; omega) (.int .i64 yl)).far (p := ⟨g12, 1, none⟩) (by dsimp only; omega) (.int .i64 yh)
              have bz := (hbz.setCell (p := ⟨g12, 0, none⟩) (by dsimp only; omega) (.int .i64 yl)).setCell (p := ⟨g12, 1, none⟩) (by dsimp only; omega) (.int .i64 yh)
              obtain ⟨X4, hwz⟩ : ∃ y, y = (X3.setCell ⟨g12, 0, none⟩ (.int .i64 yl)).setCell ⟨g12, 1, none⟩ (.int .i64 yh) := ⟨_, rfl⟩
              rw [← hwz] at kz ko bz
              obtain ⟨c9, f9, l9⟩ := k12.rules
              go_simp
              rw [← hwz]
              clear hwz c9 f9 l9 k12 k11 hbz
              have k12 := kz
              have k11 := ko
              have hbz := bz
              clear kz ko bz
              refine hK _ _ (hSb.out _ hbz) ?_
              clear hK K
              try simp only [Act.put, List.setIfInBounds_toArray, List.set_cons_zero, List.set_cons_succ]
              refine wpAnyH_done (by kernel_rfl) (hrest (g11, g12) _ ⟨k11, k12, by dsimp only; omega, by dsimp only; omega, by dsimp only; omega, hbz⟩) _
            · skip
              go_simp
              have k12 := Blk.new wd 40 #[.int .i64 0, .int .i64 0]
              have hbel := (Below.refl wd.heap.size wd).alloc (Nat.le_refl _) (.cells #[.int .i64 0, .int .i64 0] 40)
              have sz12 : wd.heap.size < (wd.alloc (.cells #[.int .i64 0, .int .i64 0] 40)).heap.size := by rw [World.size_alloc]; omega
              have gw12 := hbz.size
              try replace k11 := k11.below hbel
              replace hbz := hbz.trans (hbel.mono hbz.size)
              clear hbel
              refine hK _ _ (hSb.out _ hbz) ?_
              clear hK K
              try simp only [Act.put, List.setIfInBounds_toArray, List.set_cons_zero, List.set_cons_succ]
              generalize wd.alloc (.cells #[.int .i64 0, .int .i64 0] 40) = X5 at *
              generalize hg12 : wd.heap.size = g12 at *
              refine held_one (i := 11) (by kernel_rfl) rfl rfl (fun K hK => ?_)
              go_simp
              have k11 := Blk.new X5 40 #[.int .i64 0, .int .i64 0]
              have hbel := (Below.refl X5.heap.size X5).alloc (Nat.le_refl _) (.cells #[.int .i64 0, .int .i64 0] 40)
              have sz11 : X5.heap.size < (X5.alloc (.cells #[.int .i64 0, .int .i64 0] 40)).heap.size := by rw [World.size_alloc]; omega
              have gw11 := hbz.size
              try replace k12 := k12.below hbel
              replace hbz := hbz.trans (hbel.mono hbz.size)
              clear hbel
              refine hK _ _ (hSb.out _ hbz) ?_
              clear hK K
              try simp only [Act.put, List.setIfInBounds_toArray, List.set_cons_zero, List.set_cons_succ]
              generalize X5.alloc (.cells #[.int .i64 0, .int .i64 0] 40) = X6 at *
              generalize hg11 : X5.heap.size = g11 at *
              refine held_one (i := 13) (by kernel_rfl) rfl rfl (fun K hK => ?_)
              have kz := (k11.set_ 0 (.int .i64 xl)).set_ 1 (.int .i64 xh)
              simp only [List.setIfInBounds_toArray, List.set_cons_zero, List.set_cons_succ] at kz
              have ko := (k12.far (p := ⟨g11, 0, none⟩) (by dsimp only; omega) (.int .i64 xl)).far (p := ⟨g11, 1, none⟩) (by dsimp only; omega) (.int .i64 xh)
              have bz := (hbz.setCell (p := ⟨g11, 0, none⟩) (by dsimp only; omega) (.int .i64 xl)).setCell (p := ⟨g11, 1, none⟩) (by dsimp only; omega) (.int .i64 xh)
              obtain ⟨X7, hwz⟩ : ∃ y, y = (X6.setCell ⟨g11, 0, none⟩ (.int .i64 xl)).setCell ⟨g11, 1, none⟩ (.int .i64 xh) := ⟨_, rfl⟩
              rw [← hwz] at kz ko bz
              obtain ⟨c9, f9, l9⟩ := k11.rules
              go_simp
              rw [← hwz]
              clear hwz c9 f9 l9 k11 k12 hbz
              have k11 := kz
              have k12 := ko
              have hbz := bz
              clear kz ko bz
              refine hK _ _ (hSb.out _ hbz) ?_
              clear hK K
              try simp only [Act.put, List.setIfInBounds_toArray, List.set_cons_zero, List.set_cons_succ]
              refine held_one (i := 14) (by kernel_rfl) rfl rfl (fun K hK => ?_)
              have kz := (k12.set_ 0 (.int .i64 yl)).set_ 1 (.int .i64 yh)
              simp only [List.setIfInBounds_toArray, List.set_cons_zero, List.set_cons_succ] at kz
              have ko := (k11.far (p := ⟨g12, 0, none⟩) (by dsimp only; omega) (.int .i64 yl)).far (p := ⟨g12, 1, none⟩) (by dsimp only; omega) (.int .i64 yh)
              have bz := (hbz.setCell (p := ⟨g12, 0, none⟩) (by dsimp only; omega) (.int .i64 yl)).setCell (p := ⟨g12, 1, none⟩) (by dsimp only; omega) (.int .i64 yh)
              obtain ⟨X8, hwz⟩ : ∃ y, y = (X7.setCell ⟨g12, 0, none⟩ (.int .i64 yl)).setCell ⟨g12, 1, none⟩ (.int .i64 yh) := ⟨_, rfl⟩
              rw [← hwz] at kz ko bz
              obtain ⟨c9, f9, l9⟩ := k12.rules
              go_simp
              rw [← hwz]
              clear hwz c9 f9 l9 k12 k11 hbz
              have k12 := kz
              have k11 := ko
              have hbz := bz
              clear kz ko bz
              refine hK _ _ (hSb.out _ hbz) ?_
              clear hK K
              try simp only [Act.put, List.setIfInBounds_toArray, List.set_cons_zero, List.set_cons_succ]
              refine wpAnyH_done (by kernel_rfl) (hrest (g11, g12) _ ⟨k11, k12, by dsimp only; omega, by dsimp only; omega, by dsimp only; omega, hbz⟩) _
        · rw [fillTo_over _ _ (by rw [sureL_len]; omega)] at rv
          rw [fillTo_over _ _ (by rw [mayL_len]; omega)] at ru
          obtain ⟨O1, co1, e1, hO1⟩ := SlAt.of_own (enc := bvs) rv (by omega) (sureL f bl) (by rw [bvs_map]) (fun _ => rfl) (by rw [sureL_len, hmt])
          simp only [Value.slice.injEq, true_and] at e1
          obtain ⟨rfl, rfl⟩ := e1
          obtain ⟨O2, co2, e2, hO2⟩ := SlAt.of_own (enc := bvs) ru (by omega) (mayL f bl) (by rw [bvs_map]) (fun _ => rfl) (by rw [mayL_len, hmt])
          simp only [Value.slice.injEq, true_and] at e2
          obtain ⟨rfl, rfl⟩ := e2
          clear rv ru
          go_wp2_with fail
          go_ret3
          rw [hv.out]
          exact ⟨_, _, _, _, _, _, rfl, hO1.mono hwb.out, hO2.mono hwb.out, b.trans (hb.mono b.size)⟩
    · try simp only [Act.put, List.setIfInBounds_toArray, List.set_cons_zero, List.set_cons_succ] at hrest
      refine held_two (i := 2) (j := 5) (by kernel_rfl) rfl rfl rfl rfl (fun K hK => ?_) (fun K hK => ?_)
      · skip
        refine wp_make_fullQ wd _ _ 94 rfl W.heap.size 4 ib (.bool false) 1 Tryz.underlying94 ibh ib0 ib1 _ _ _ _ np rfl rfl rfl rfl hc1.out hc2.out hbz.size ?_
        intro X9 r2 hgrow
        have lt2 := (r2.lt _ rfl).2
        have hbel := (Below.refl wd.heap.size wd).grown hgrow (Nat.le_refl _) (fun k e => by cases e)
        try replace r2 := ownsRow_below r2 hbel
        try replace r5 := ownsRow_below r5 hbel
        replace hbz := hbz.trans (hbel.mono hbz.size)
        clear hbel hgrow
        refine hK _ _ trivial ?_
        clear hK K
        try simp only [Act.put, List.setIfInBounds_toArray, List.set_cons_zero, List.set_cons_succ]
        have hS : (fun w' : World => True) X9 := trivial
        refine held_take (i := 6) (v := ?_) 4 rfl rfl (by kernel_rfl) (by kernel_rfl) (by kernel_rfl) (fun _ _ _ h => h) (Or.inl ⟨by rfl, ?_⟩) hS ?_
        rotate_left 1
        · intro w' hSw
          try dsimp only at hSw
          obtain h9 := hSw
          go_simp
          all_goals with_reducible rfl
        try simp only [Act.put, List.setIfInBounds_toArray, List.set_cons_zero, List.set_cons_succ]
        clear hS
        refine held_one (i := 5) (by kernel_rfl) rfl rfl (fun K hK => ?_)
        refine wp_make_fullQ X9 _ _ 94 rfl W.heap.size 4 ib (.bool false) 1 Tryz.underlying94 ibh ib0 ib1 _ _ _ _ np rfl rfl rfl rfl hc1.out hc2.out hbz.size ?_
        intro X10 r5 hgrow
        have lt5 := (r5.lt _ rfl).2
        have hbel := (Below.refl X9.heap.size X9).grown hgrow (Nat.le_refl _) (fun k e => by cases e)
        try replace r2 := ownsRow_below r2 hbel
        try replace r5 := ownsRow_below r5 hbel
        replace hbz := hbz.trans (hbel.mono hbz.size)
        clear hbel hgrow
        refine hK _ _ trivial ?_
        clear hK K
        try simp only [Act.put, List.setIfInBounds_toArray, List.set_cons_zero, List.set_cons_succ]
        have hS : (fun w' : World => True) X10 := trivial
        refine held_take (i := 7) (v := ?_) 5 rfl rfl (by kernel_rfl) (by kernel_rfl) (by kernel_rfl) (fun _ _ _ h => h) (Or.inl ⟨by rfl, ?_⟩) hS ?_
        rotate_left 1
        · intro w' hSw
          try dsimp only at hSw
          obtain h9 := hSw
          go_simp
          all_goals with_reducible rfl
        try simp only [Act.put, List.setIfInBounds_toArray, List.set_cons_zero, List.set_cons_succ]
        refine wpAnyH_done (by kernel_rfl) (hrest (_, _) _ ⟨r2, r5, (fun e => by have h2 := lt2; have h5 := lt5; simp only [Array.length_toList] at e h2 h5; omega), hbz⟩) _
      · skip
        refine wp_make_fullQ wd _ _ 94 rfl W.heap.size 4 ib (.bool false) 1 Tryz.underlying94 ibh ib0 ib1 _ _ _ _ np rfl rfl rfl rfl hc1.out hc2.out hbz.size ?_
        intro X11 r5 hgrow
        have lt5 := (r5.lt _ rfl).2
        have hbel := (Below.refl wd.heap.size wd).grown hgrow (Nat.le_refl _) (fun k e => by cases e)
        try replace r2 := ownsRow_below r2 hbel
        try replace r5 := ownsRow_below r5 hbel
        replace hbz := hbz.trans (hbel.mono hbz.size)
        clear hbel hgrow
        refine hK _ _ trivial ?_
        clear hK K
        try simp only [Act.put, List.setIfInBounds_toArray, List.set_cons_zero, List.set_cons_succ]
        refine held_one (i := 2) (by kernel_rfl) rfl rfl (fun K hK => ?_)
        refine wp_make_fullQ X11 _ _ 94 rfl W.heap.size 4 ib (.bool false) 1 Tryz.underlying94 ibh ib0 ib1 _ _ _ _ np rfl rfl rfl rfl hc1.out hc2.out hbz.size ?_
        intro X12 r2 hgrow
        have lt2 := (r2.lt _ rfl).2
        have hbel := (Below.refl X11.heap.size X11).grown hgrow (Nat.le_refl _) (fun k e => by cases e)
        try replace r2 := ownsRow_below r2 hbel
        try replace r5 := ownsRow_below r5 hbel
        replace hbz := hbz.trans (hbel.mono hbz.size)
        clear hbel hgrow
        refine hK _ _ trivial ?_
        clear hK K
        try simp only [Act.put, List.setIfInBounds_toArray, List.set_cons_zero, List.set_cons_succ]
        have hS : (fun w' : World => True) X12 := trivial
        refine held_take (i := 6) (v := ?_) 4 rfl rfl (by kernel_rfl) (by kernel_rfl) (by kernel_rfl) (fun _ _ _ h => h) (Or.inl ⟨by rfl, ?_⟩) hS ?_
        rotate_left 1
        · intro w' hSw
          try dsimp only at hSw
          obtain h9 := hSw
          go_simp
          all_goals with_reducible rfl
        try simp only [Act.put, List.setIfInBounds_toArray, List.set_cons_zero, List.set_cons_succ]
        clear hS
        have hS : (fun w' : World => True) X12 := trivial
        refine held_take (i := 7) (v := ?_) 5 rfl rfl (by kernel_rfl) (by kernel_rfl) (by kernel_rfl) (fun _ _ _ h => h) (Or.inl ⟨by rfl, ?_⟩) hS ?_
        rotate_left 1
        · intro w' hSw
          try dsimp only at hSw
          obtain h9 := hSw
          go_simp
          all_goals with_reducible rfl
        try simp only [Act.put, List.setIfInBounds_toArray, List.set_cons_zero, List.set_cons_succ]
        refine wpAnyH_done (by kernel_rfl) (hrest (_, _) _ ⟨r2, r5, (fun e => by have h2 := lt2; have h5 := lt5; simp only [Array.length_toList] at e h2 h5; omega), hbz⟩) _
  · have hv : Hid (weakR f bl = ([], [], errT f bl)) := by show _ = _; unfold weakR; rw [if_neg he]
    rw [show timeR f bl = ([], errT f bl) from by unfold timeR; rw [if_neg he]] at h1
    unfold RetSl at h1
    generalize errT f bl = er at *
    have hz : (er != 0) = true := by rw [bne_iff_ne]; exact he
    replace he := Lib.hid he
    go_enter Tryz.func43, Tryz.ntmps43
    go_wp2_with fail
    rw [← hw1]
    clear hw1
    obtain ⟨c3, f3, l3⟩ := k3.rules
    go_wp2_with fail
    refine (h1 _ hs1).mono ?_
    rintro e W ⟨P, np, pc, rfl, hP, hb⟩
    clear c3 f3 l3
    go_wp2_with fail
    go_ret3
    rw [hv.out]
    exact RetWk.none_ (b.trans (hb.mono b.size))
end Go.Proofs.YtfengddpfeneiaaGreat
