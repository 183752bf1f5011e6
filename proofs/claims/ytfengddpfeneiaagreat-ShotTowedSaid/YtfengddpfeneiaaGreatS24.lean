/-
  Shots, walks: the search of Losses at a greater depth.
-/
import Derived.Test.YtfengddpfeneiaaGreatS23
namespace Go.Proofs.YtfengddpfeneiaaGreat
open Go.RowKit Go.Shelf
set_option linter.unusedSimpArgs false
set_option linter.unusedVariables false
attribute [local irreducible] wpStill

def srTo (a : Arr) (limit : Int) (m fr : Nat) (loss : List Int) (L : List (List Int)) (k : Nat) : List (List Int) := (List.range' fr (k - fr)).foldl (fun o i => srchS a limit m (i + 1) (loss ++ [(i : Int)]) o) L
theorem srTo_start (a : Arr) (limit : Int) (m fr : Nat) (loss : List Int) (L : List (List Int)) : srTo a limit m fr loss L fr = L := by unfold srTo; rw [Nat.sub_self]; rfl
theorem srTo_succ (a : Arr) (limit : Int) (m : Nat) {fr k : Nat} (loss : List Int) (L : List (List Int)) (h : fr ≤ k) : srTo a limit m fr loss L (k + 1) = srchS a limit m (k + 1) (loss ++ [(k : Int)]) (srTo a limit m fr loss L k) := by
  unfold srTo
  rw [show k + 1 - fr = (k - fr) + 1 by omega, List.range'_concat, List.foldl_append]
  simp only [List.foldl_cons, List.foldl_nil, Nat.one_mul]
  rw [show fr + (k - fr) = k by omega]
theorem srTo_end (a : Arr) (limit : Int) (m fr : Nat) (loss : List Int) (L : List (List Int)) {k : Nat} (h1 : fr ≤ k) (h2 : a.gs.length ≤ k) (h3 : k = fr ∨ k = a.gs.length) : srTo a limit m fr loss L k = srchS a limit (m + 1) fr loss L := by
  rw [srchS]
  unfold srTo
  rw [show k - fr = a.gs.length - fr by omega]
set_option maxRecDepth 100000 in
set_option maxHeartbeats 4000000 in
theorem search_succ (b : SrB) (a : Arr) (ha : okArr a = true) (limit : Int) (A S N : Option Addr) (n ca ns cs cn B0 : Nat) (hn : SrN b B0 A S N) (hgn : a.gs.length = n) (m : Nat) (hm : SrFor b a limit A S N n ca ns cs cn B0 m) : SrFor b a limit A S N n ca ns cs cn B0 (m + 1) := by
  intro loss D nd cd fr L O no co w hL hO hD hDr h1 h8 hfr hB hno
  have hal := okArr_len ha
  unfold arrLen at hal
  rw [hgn] at hal
  obtain ⟨-, -, ha3, ha4⟩ := hal
  obtain ⟨gc, ga, gn, gl, g, gs⟩ := b
  unfold SrFor at hm
  simp only [SrB.caps]
  dsimp only at hO hDr
  have hcl := fun W h => CloneI_any loss D nd cd 0 W (by omega) h
  have hll := Lib.hid hD.len
  have hp8 : 8 ^ (m + 1) = 8 * 8 ^ m := by rw [Nat.pow_succ, Nat.mul_comm]
  obtain ⟨p8, hp⟩ : ∃ p8, 8 ^ m = p8 := ⟨_, rfl⟩
  rw [hp] at hp8 hm
  rw [hp8] at hno
  obtain ⟨lf, hlf⟩ : ∃ lf : Int, ((m + 1 : Nat) : Int) = lf := ⟨_, rfl⟩
  have hlz : (lf == 0) = false := by rw [beq_eq_false_iff_ne]; omega
  have ul : IntKind.i64.wrap (lf - 1) = (m : Int) := by rw [IntWalk.i64_in _ (by omega)]; omega
  have hml : m ≤ 7 := by omega
  rw [hlf]
  replace hlf := Lib.hid hlf
  replace hp := Lib.hid hp
  replace hgn := Lib.hid hgn
  obtain ⟨i0, hi0, hz0, hz1, hz2⟩ := info_parts Tryz.infoInt
  have hstart := srTo_start a limit m fr loss L
  have hrow0 : ∀ q, (Value.slice O no co).ownBlock = some q → B0 ≤ q ∧ q < w.heap.size := by
    obtain ⟨_, _, vs, h3, _⟩ := hO
    exact fun q e => h3.lt q e
  have hng := hn.ng
  have hnsg := hn.ns
  dsimp only at hng hnsg
  show Calls Tryz.prog 97 #[.slice D nd cd, .int .i64 (fr : Int), .int .i64 lf, .pointer (some ⟨gc, 0, none⟩), .pointer (some ⟨ga, 0, none⟩), .pointer (some ⟨gn, 0, none⟩), .pointer (some ⟨gl, 0, none⟩), .pointer (some ⟨g, 0, none⟩), .pointer (some ⟨gs, 0, none⟩)] w _
  go_enter Tryz.func97, Tryz.ntmps97
  go_wp2_with fail
  go_loopw [12] (fun i wr => ∃ (k : Nat) (L' : List (List Int)) (O' : Option Addr) (no' co' : Nat), i = .int .i64 (k : Int) ∧ fr ≤ k ∧ (k = fr ∨ k ≤ n) ∧ OutI wr g B0 O' no' co' L' ∧ SrFr g (Value.slice O no co).ownBlock w wr ∧ (∀ q, (Value.slice O' no' co').ownBlock = some q → (Value.slice O no co).ownBlock = some q ∨ w.heap.size ≤ q) ∧ SrL ⟨gc, ga, gn, gl, g, gs⟩ a limit A S N n ca ns cs cn wr ∧ no' ≤ no + (k - fr) * p8 ∧ srTo a limit m fr loss L k = L') (fun i wr => n - (intOf i).toNat)
  case atStart => exact ⟨fr, L, O, no, co, rfl, Nat.le_refl _, .inl rfl, hO, SrFr.refl _ _ _, fun q e => .inl e, hL, by omega, hstart⟩
  case round =>
    clear hstart
    obtain ⟨k, L', O', no', co', rfl, hfk, hkn, hO2, hfr2, hrw2, hL2, hno2, hLk⟩ := hrel
    have hsz2 := hfr2.2.2.2.1
    obtain ⟨c1, f1, l1⟩ := hL2.ka.rules
    by_cases hlt : k < n
    · have hk0 : (0 : Int) ≤ (k : Int) := by omega
      have hk1 : (k : Int) < (n : Int) := by omega
      have uk := IntWalk.i64_in ((k : Int) + 1) (by omega)
      have hDd := hfr2.sl hD (fun h q o e => hDr h q o e)
      have hkp : (k - fr) * p8 + p8 ≤ 8 * p8 := by
        have := Nat.mul_le_mul_right p8 (show k - fr + 1 ≤ 8 by omega)
        rw [Nat.add_mul, Nat.one_mul] at this
        exact this
      have hrow9 : ∀ q, (Value.slice O' no' co').ownBlock = some q → B0 ≤ q ∧ q < wr.heap.size := by
        obtain ⟨_, _, vs, h3, _⟩ := hO2
        exact fun q e => h3.lt q e
      have hbig1 := Lib.hid (show nd + 1 ≤ maxLen by unfold maxLen; omega)
      have hbig2 := Lib.hid (show (nd + 1) * 8 ≤ 140737488355328 by omega)
      have hstep := Lib.hid (srTo_succ a limit m loss L hfk)
      rw [hLk] at hstep
      replace hLk := Lib.hid hLk
      go_wp2_with fail
      clear c1 f1 l1
      refine wp_held_np (fun w' : World => (∀ j, w'.cell? ⟨gs, j, none⟩ = #[Value.func (.func 97) #[] #[.pointer (some ⟨gc, 0, none⟩), .pointer (some ⟨ga, 0, none⟩), .pointer (some ⟨gn, 0, none⟩), .pointer (some ⟨gl, 0, none⟩), .pointer (some ⟨g, 0, none⟩), .pointer (some ⟨gs, 0, none⟩)]][j]?) ∧ True) (by kernel_rfl) ?_
      have ksd : Blk wr gs 175 #[.func (.func 97) #[] #[.pointer (some ⟨gc, 0, none⟩), .pointer (some ⟨ga, 0, none⟩), .pointer (some ⟨gn, 0, none⟩), .pointer (some ⟨gl, 0, none⟩), .pointer (some ⟨g, 0, none⟩), .pointer (some ⟨gs, 0, none⟩)]] := hL2.ks
      have hSx : (fun w' : World => (∀ j, w'.cell? ⟨gs, j, none⟩ = #[Value.func (.func 97) #[] #[.pointer (some ⟨gc, 0, none⟩), .pointer (some ⟨ga, 0, none⟩), .pointer (some ⟨gn, 0, none⟩), .pointer (some ⟨gl, 0, none⟩), .pointer (some ⟨g, 0, none⟩), .pointer (some ⟨gs, 0, none⟩)]][j]?) ∧ True) wr.drew := ⟨ksd.drew.cell, trivial⟩
      have hbd : Below wr.heap.size wr wr.drew := (Below.refl _ _).drew
      replace ksd := ksd.below hbd
      have hLd := hL2.below hbd
      have hOd := hO2.below hbd
      replace hDd := hDd.below hbd
      have hfrd := hfr2.trans (SrFr.of_below (row := none) hbd) (fun q e => by cases e)
      have hszd : wr.heap.size ≤ wr.drew.heap.size := hbd.size
      clear hbd hL2 hO2 hfr2
      have hgsg : gs ≠ g := hnsg.2
      generalize hWd : wr.drew = Wd at *
      have hbz : Below Wd.heap.size Wd Wd := Below.refl _ _
      refine held_take (i := 0) (v := ?_) 41 rfl rfl (by kernel_rfl) (by kernel_rfl) (by kernel_rfl) (fun _ _ _ h => h) (Or.inl ⟨by rfl, ?_⟩) hSx ?_
      rotate_left 1
      · intro w' hSw
        try dsimp only at hSw
        obtain ⟨q1, q2⟩ := hSw
        go_simp
        all_goals with_reducible rfl
      try simp only [Act.put, List.setIfInBounds_toArray, List.set_cons_zero, List.set_cons_succ]
      refine held_take (i := 1) (v := ?_) 42 rfl rfl (by kernel_rfl) (by kernel_rfl) (by kernel_rfl) (fun _ _ _ h => h) (Or.inl ⟨by rfl, ?_⟩) hSx ?_
      rotate_left 1
      · intro w' hSw
        try dsimp only at hSw
        obtain ⟨q1, q2⟩ := hSw
        go_simp
        all_goals with_reducible rfl
      try simp only [Act.put, List.setIfInBounds_toArray, List.set_cons_zero, List.set_cons_succ]
      refine held_take (i := 3) (v := ?_) 44 rfl rfl (by kernel_rfl) (by kernel_rfl) (by kernel_rfl) (fun _ _ _ h => h) (Or.inl ⟨by rfl, ?_⟩) hSx ?_
      rotate_left 1
      · intro w' hSw
        try dsimp only at hSw
        obtain ⟨q1, q2⟩ := hSw
        go_simp
        all_goals with_reducible rfl
      try simp only [Act.put, List.setIfInBounds_toArray, List.set_cons_zero, List.set_cons_succ]
      refine held_take (i := 6) (v := ?_) 47 rfl rfl (by kernel_rfl) (by kernel_rfl) (by kernel_rfl) (fun _ _ _ h => h) (Or.inl ⟨by rfl, ?_⟩) hSx ?_
      rotate_left 1
      · intro w' hSw
        try dsimp only at hSw
        obtain ⟨q1, q2⟩ := hSw
        go_simp
        all_goals with_reducible rfl
      try simp only [Act.put, List.setIfInBounds_toArray, List.set_cons_zero, List.set_cons_succ]
      refine held_take (i := 7) (v := ?_) 48 rfl rfl (by kernel_rfl) (by kernel_rfl) (by kernel_rfl) (fun _ _ _ h => h) (Or.inl ⟨by rfl, ?_⟩) hSx ?_
      rotate_left 1
      · intro w' hSw
        try dsimp only at hSw
        obtain ⟨q1, q2⟩ := hSw
        go_simp
        all_goals with_reducible rfl
      try simp only [Act.put, List.setIfInBounds_toArray, List.set_cons_zero, List.set_cons_succ]
      refine held_take (i := 8) (v := ?_) 49 rfl rfl (by kernel_rfl) (by kernel_rfl) (by kernel_rfl) (fun _ _ _ h => h) (Or.inl ⟨by rfl, ?_⟩) hSx ?_
      rotate_left 1
      · intro w' hSw
        try dsimp only at hSw
        obtain ⟨q1, q2⟩ := hSw
        go_simp
        all_goals with_reducible rfl
      try simp only [Act.put, List.setIfInBounds_toArray, List.set_cons_zero, List.set_cons_succ]
      refine held_take (i := 9) (v := ?_) 50 rfl rfl (by kernel_rfl) (by kernel_rfl) (by kernel_rfl) (fun _ _ _ h => h) (Or.inl ⟨by rfl, ?_⟩) hSx ?_
      rotate_left 1
      · intro w' hSw
        try dsimp only at hSw
        obtain ⟨q1, q2⟩ := hSw
        go_simp
        all_goals with_reducible rfl
      try simp only [Act.put, List.setIfInBounds_toArray, List.set_cons_zero, List.set_cons_succ]
      refine held_two (i := 2) (j := 4) (by kernel_rfl) rfl rfl rfl rfl (fun K hK => ?_) (fun K hK => ?_)
      · skip
        go_simp
        refine (hcl _ (hDd.below hbz)).mono ?_
        rintro e X1 ⟨v, rfl, hownc, hb6⟩
        replace hownc := ownsRow_base hownc hbz.size
        try replace kB := kB.below hb6
        replace hbz := hbz.trans (hb6.mono hbz.size)
        clear hb6 hSx
        have hSx : (fun w' : World => (∀ j, w'.cell? ⟨gs, j, none⟩ = #[Value.func (.func 97) #[] #[.pointer (some ⟨gc, 0, none⟩), .pointer (some ⟨ga, 0, none⟩), .pointer (some ⟨gn, 0, none⟩), .pointer (some ⟨gl, 0, none⟩), .pointer (some ⟨g, 0, none⟩), .pointer (some ⟨gs, 0, none⟩)]][j]?) ∧ True) X1 := ⟨(ksd.below hbz).cell, trivial⟩
        refine hK _ _ hSx ?_
        clear hK K
        try simp only [Act.put, List.setIfInBounds_toArray, List.set_cons_zero, List.set_cons_succ]
        refine held_one (i := 4) (by kernel_rfl) rfl rfl (fun K hK => ?_)
        go_simp
        have kB := Blk.new X1 3 #[.int .i64 (k : Int)]
        try replace hownc := ownsRow_below hownc ((Below.refl _ X1).alloc (Nat.le_refl _) (.cells #[.int .i64 (k : Int)] 3))
        replace hbz := hbz.alloc hbz.size (.cells #[.int .i64 (k : Int)] 3)
        clear hSx
        have hSx : (fun w' : World => (∀ j, w'.cell? ⟨gs, j, none⟩ = #[Value.func (.func 97) #[] #[.pointer (some ⟨gc, 0, none⟩), .pointer (some ⟨ga, 0, none⟩), .pointer (some ⟨gn, 0, none⟩), .pointer (some ⟨gl, 0, none⟩), .pointer (some ⟨g, 0, none⟩), .pointer (some ⟨gs, 0, none⟩)]][j]?) ∧ True) (X1.alloc (.cells #[.int .i64 (k : Int)] 3)) := ⟨(ksd.below hbz).cell, trivial⟩
        refine hK _ _ hSx ?_
        clear hK K
        try simp only [Act.put, List.setIfInBounds_toArray, List.set_cons_zero, List.set_cons_succ]
        generalize X1.alloc (.cells #[.int .i64 (k : Int)] 3) = X2 at *
        obtain ⟨gB, hgB⟩ : ∃ gB, X1.heap.size = gB := ⟨_, rfl⟩
        rw [hgB] at kB ⊢
        clear hgB
        refine held_one (i := 5) (by kernel_rfl) rfl rfl (fun K hK => ?_)
        have hnews : ∀ (j : Nat) (u : Value), ([.int .i64 (k : Int)] : List Value)[j]? = some u → X2.cell? ((⟨gB, 0, none⟩ : Addr).add j) = some u := World.news_of_block (cs := #[.int .i64 (k : Int)]) kB
        have hbase := hbz.size
        refine wp_append_lies _ _ _ 36 (by rfl) Wd.heap.size 3 i0 (.int .i64 0) 1 8 Tryz.underlying36 hi0 hz0 hz1 hz2 rfl (by omega) v nd (loss.flatMap ivs) (by rfl) hownc ⟨gB, 0, none⟩ 1 1 [.int .i64 (k : Int)] (by rfl) rfl hnews (by simp [Value.oneCell']) (by omega) hbig1.out hbig2.out hbase X2.heap.size rfl ?_
        intro g11 cap2 X3 hown7 hgrow hlies hlt7
        have hbz7 : Below Wd.heap.size Wd X3 := hbz.grown hgrow hbase (fun q e => (hownc.lt q e).1)
        have hg11 := hown7.lt g11 rfl
        have hSn := SlAt.ownQ (enc := ivs) hown7 (by omega) (loss ++ [(k : Int)]) (by rw [List.flatMap_append]; rfl) (fun _ => rfl) (by rw [List.length_append, hll.out]; rfl)
        clear hSx hbz kB hownc hnews hown7 hgrow hlies hbase
        have hSx : (fun w' : World => (∀ j, w'.cell? ⟨gs, j, none⟩ = #[Value.func (.func 97) #[] #[.pointer (some ⟨gc, 0, none⟩), .pointer (some ⟨ga, 0, none⟩), .pointer (some ⟨gn, 0, none⟩), .pointer (some ⟨gl, 0, none⟩), .pointer (some ⟨g, 0, none⟩), .pointer (some ⟨gs, 0, none⟩)]][j]?) ∧ True) X3 := ⟨(ksd.below hbz7).cell, trivial⟩
        refine hK _ _ hSx ?_
        clear hK K
        try simp only [Act.put, List.setIfInBounds_toArray, List.set_cons_zero, List.set_cons_succ]
        refine held_one (i := 10) (by kernel_rfl) rfl rfl (fun K hK => ?_)
        go_simp
        have hsz7 := hbz7.size
        have hih := hm (loss ++ [(k : Int)]) (some ⟨g11, 0, none⟩) (nd + 1) cap2 (k + 1) L' O' no' co' X3 (hLd.below hbz7) (hOd.below hbz7) (hSn.mono (Nat.zero_le _)) (fun _ q o e => by
          simp only [Option.some.injEq, Addr.mk.injEq, and_true] at e
          obtain ⟨rfl, rfl⟩ := e
          exact ⟨by omega, fun e => by have := hrow9 _ e; omega⟩) (by omega) (by omega) (by omega) (by omega) (by omega)
        simp only [SrB.caps] at hih
        rw [show ((k + 1 : Nat) : Int) = (k : Int) + 1 from by omega] at hih
        refine hih.mono ?_
        rintro e X4 ⟨⟨v9, rfl⟩, O3, no3, co3, hO3, hfr3, hrw3, hno3⟩
        clear hih hSx
        dsimp only at hO3 hfr3
        have hSx : (fun w' : World => (∀ j, w'.cell? ⟨gs, j, none⟩ = #[Value.func (.func 97) #[] #[.pointer (some ⟨gc, 0, none⟩), .pointer (some ⟨ga, 0, none⟩), .pointer (some ⟨gn, 0, none⟩), .pointer (some ⟨gl, 0, none⟩), .pointer (some ⟨g, 0, none⟩), .pointer (some ⟨gs, 0, none⟩)]][j]?) ∧ True) X4 := ⟨(hfr3.blk (ksd.below hbz7) hgsg (fun e => by have := hrow9 _ e; omega)).cell, trivial⟩
        refine hK _ _ hSx ?_
        clear hK K
        try simp only [Act.put, List.setIfInBounds_toArray, List.set_cons_zero, List.set_cons_succ]
        refine wpAnyH_done (by kernel_rfl) (noPanic_normal ?_) _
        clear hSx
        have hfrA := (hfrd.trans (SrFr.of_below (row := none) hbz7) (fun q e => by cases e)).trans hfr3 hrw2
        have hrwA : ∀ q, (Value.slice O3 no3 co3).ownBlock = some q → (Value.slice O no co).ownBlock = some q ∨ w.heap.size ≤ q := fun q e => by
          rcases hrw3 q e with h | h
          · exact hrw2 q h
          · exact .inr (by omega)
        have hLA := (hLd.below hbz7).keep hn hfr3.2.2.2.1 (hfr3.low (by omega) (fun q e => (hrow9 q e).1))
        have hnoA : no3 ≤ no + (k + 1 - fr) * p8 := by
          rw [show k + 1 - fr = (k - fr) + 1 by omega, Nat.add_mul, Nat.one_mul]
          omega
        clear hfrd hLd hOd hDd hfr3 hrw3 ksd hbz7 hSn
        go_wp2_with fail
        go_roundw
        case rel => exact ⟨k + 1, _, O3, no3, co3, by go_num, by omega, .inr (by omega), hO3, hfrA, hrwA, hLA, hnoA, hstep.out⟩
        case measure => simp [intOf]; omega
      · skip
        go_simp
        have kB := Blk.new Wd 3 #[.int .i64 (k : Int)]
        try replace hownc := ownsRow_below hownc ((Below.refl _ Wd).alloc (Nat.le_refl _) (.cells #[.int .i64 (k : Int)] 3))
        replace hbz := hbz.alloc hbz.size (.cells #[.int .i64 (k : Int)] 3)
        clear hSx
        have hSx : (fun w' : World => (∀ j, w'.cell? ⟨gs, j, none⟩ = #[Value.func (.func 97) #[] #[.pointer (some ⟨gc, 0, none⟩), .pointer (some ⟨ga, 0, none⟩), .pointer (some ⟨gn, 0, none⟩), .pointer (some ⟨gl, 0, none⟩), .pointer (some ⟨g, 0, none⟩), .pointer (some ⟨gs, 0, none⟩)]][j]?) ∧ True) (Wd.alloc (.cells #[.int .i64 (k : Int)] 3)) := ⟨(ksd.below hbz).cell, trivial⟩
        refine hK _ _ hSx ?_
        clear hK K
        try simp only [Act.put, List.setIfInBounds_toArray, List.set_cons_zero, List.set_cons_succ]
        generalize Wd.alloc (.cells #[.int .i64 (k : Int)] 3) = X5 at *
        obtain ⟨gB, hgB⟩ : ∃ gB, Wd.heap.size = gB := ⟨_, rfl⟩
        rw [hgB] at kB ⊢
        clear hgB
        refine held_one (i := 2) (by kernel_rfl) rfl rfl (fun K hK => ?_)
        go_simp
        refine (hcl _ (hDd.below hbz)).mono ?_
        rintro e X6 ⟨v, rfl, hownc, hb6⟩
        replace hownc := ownsRow_base hownc hbz.size
        try replace kB := kB.below hb6
        replace hbz := hbz.trans (hb6.mono hbz.size)
        clear hb6 hSx
        have hSx : (fun w' : World => (∀ j, w'.cell? ⟨gs, j, none⟩ = #[Value.func (.func 97) #[] #[.pointer (some ⟨gc, 0, none⟩), .pointer (some ⟨ga, 0, none⟩), .pointer (some ⟨gn, 0, none⟩), .pointer (some ⟨gl, 0, none⟩), .pointer (some ⟨g, 0, none⟩), .pointer (some ⟨gs, 0, none⟩)]][j]?) ∧ True) X6 := ⟨(ksd.below hbz).cell, trivial⟩
        refine hK _ _ hSx ?_
        clear hK K
        try simp only [Act.put, List.setIfInBounds_toArray, List.set_cons_zero, List.set_cons_succ]
        refine held_one (i := 5) (by kernel_rfl) rfl rfl (fun K hK => ?_)
        have hnews : ∀ (j : Nat) (u : Value), ([.int .i64 (k : Int)] : List Value)[j]? = some u → X6.cell? ((⟨gB, 0, none⟩ : Addr).add j) = some u := World.news_of_block (cs := #[.int .i64 (k : Int)]) kB
        have hbase := hbz.size
        refine wp_append_lies _ _ _ 36 (by rfl) Wd.heap.size 3 i0 (.int .i64 0) 1 8 Tryz.underlying36 hi0 hz0 hz1 hz2 rfl (by omega) v nd (loss.flatMap ivs) (by rfl) hownc ⟨gB, 0, none⟩ 1 1 [.int .i64 (k : Int)] (by rfl) rfl hnews (by simp [Value.oneCell']) (by omega) hbig1.out hbig2.out hbase X6.heap.size rfl ?_
        intro g11 cap2 X7 hown7 hgrow hlies hlt7
        have hbz7 : Below Wd.heap.size Wd X7 := hbz.grown hgrow hbase (fun q e => (hownc.lt q e).1)
        have hg11 := hown7.lt g11 rfl
        have hSn := SlAt.ownQ (enc := ivs) hown7 (by omega) (loss ++ [(k : Int)]) (by rw [List.flatMap_append]; rfl) (fun _ => rfl) (by rw [List.length_append, hll.out]; rfl)
        clear hSx hbz kB hownc hnews hown7 hgrow hlies hbase
        have hSx : (fun w' : World => (∀ j, w'.cell? ⟨gs, j, none⟩ = #[Value.func (.func 97) #[] #[.pointer (some ⟨gc, 0, none⟩), .pointer (some ⟨ga, 0, none⟩), .pointer (some ⟨gn, 0, none⟩), .pointer (some ⟨gl, 0, none⟩), .pointer (some ⟨g, 0, none⟩), .pointer (some ⟨gs, 0, none⟩)]][j]?) ∧ True) X7 := ⟨(ksd.below hbz7).cell, trivial⟩
        refine hK _ _ hSx ?_
        clear hK K
        try simp only [Act.put, List.setIfInBounds_toArray, List.set_cons_zero, List.set_cons_succ]
        refine held_one (i := 10) (by kernel_rfl) rfl rfl (fun K hK => ?_)
        go_simp
        have hsz7 := hbz7.size
        have hih := hm (loss ++ [(k : Int)]) (some ⟨g11, 0, none⟩) (nd + 1) cap2 (k + 1) L' O' no' co' X7 (hLd.below hbz7) (hOd.below hbz7) (hSn.mono (Nat.zero_le _)) (fun _ q o e => by
          simp only [Option.some.injEq, Addr.mk.injEq, and_true] at e
          obtain ⟨rfl, rfl⟩ := e
          exact ⟨by omega, fun e => by have := hrow9 _ e; omega⟩) (by omega) (by omega) (by omega) (by omega) (by omega)
        simp only [SrB.caps] at hih
        rw [show ((k + 1 : Nat) : Int) = (k : Int) + 1 from by omega] at hih
        refine hih.mono ?_
        rintro e X8 ⟨⟨v9, rfl⟩, O3, no3, co3, hO3, hfr3, hrw3, hno3⟩
        clear hih hSx
        dsimp only at hO3 hfr3
        have hSx : (fun w' : World => (∀ j, w'.cell? ⟨gs, j, none⟩ = #[Value.func (.func 97) #[] #[.pointer (some ⟨gc, 0, none⟩), .pointer (some ⟨ga, 0, none⟩), .pointer (some ⟨gn, 0, none⟩), .pointer (some ⟨gl, 0, none⟩), .pointer (some ⟨g, 0, none⟩), .pointer (some ⟨gs, 0, none⟩)]][j]?) ∧ True) X8 := ⟨(hfr3.blk (ksd.below hbz7) hgsg (fun e => by have := hrow9 _ e; omega)).cell, trivial⟩
        refine hK _ _ hSx ?_
        clear hK K
        try simp only [Act.put, List.setIfInBounds_toArray, List.set_cons_zero, List.set_cons_succ]
        refine wpAnyH_done (by kernel_rfl) (noPanic_normal ?_) _
        clear hSx
        have hfrA := (hfrd.trans (SrFr.of_below (row := none) hbz7) (fun q e => by cases e)).trans hfr3 hrw2
        have hrwA : ∀ q, (Value.slice O3 no3 co3).ownBlock = some q → (Value.slice O no co).ownBlock = some q ∨ w.heap.size ≤ q := fun q e => by
          rcases hrw3 q e with h | h
          · exact hrw2 q h
          · exact .inr (by omega)
        have hLA := (hLd.below hbz7).keep hn hfr3.2.2.2.1 (hfr3.low (by omega) (fun q e => (hrow9 q e).1))
        have hnoA : no3 ≤ no + (k + 1 - fr) * p8 := by
          rw [show k + 1 - fr = (k - fr) + 1 by omega, Nat.add_mul, Nat.one_mul]
          omega
        clear hfrd hLd hOd hDd hfr3 hrw3 ksd hbz7 hSn
        go_wp2_with fail
        go_roundw
        case rel => exact ⟨k + 1, _, O3, no3, co3, by go_num, by omega, .inr (by omega), hO3, hfrA, hrwA, hLA, hnoA, hstep.out⟩
        case measure => simp [intOf]; omega
    · have hk1 : ¬ (k : Int) < (n : Int) := by omega
      have hend := srTo_end a limit m fr loss L hfk (by rw [hgn.out]; omega) (by rw [hgn.out]; omega)
      rw [hLk] at hend
      have hkf : (k - fr) * p8 ≤ 8 * p8 := Nat.mul_le_mul_right p8 (by omega)
      replace hend := Lib.hid hend
      replace hLk := Lib.hid hLk
      go_wp2_with fail
      go_end0
      exact ⟨⟨_, rfl⟩, O', no', co', by rw [← hend.out]; exact hO2, hfr2, hrw2, by omega⟩
theorem search_all (b : SrB) (a : Arr) (ha : okArr a = true) (limit : Int) (A S N : Option Addr) (n ca ns cs cn B0 : Nat) (hn : SrN b B0 A S N) (hgn : a.gs.length = n) : ∀ m, SrFor b a limit A S N n ca ns cs cn B0 m
  | 0 => search_zero b a ha limit A S N n ca ns cs cn B0 hn
  | m + 1 => search_succ b a ha limit A S N n ca ns cs cn B0 hn hgn m (search_all b a ha limit A S N n ca ns cs cn B0 hn hgn m)
end Go.Proofs.YtfengddpfeneiaaGreat
