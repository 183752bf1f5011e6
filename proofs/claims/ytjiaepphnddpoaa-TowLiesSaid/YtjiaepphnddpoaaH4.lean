/-
  Walks of the statements' helpers: laid.
-/
import Derived.Test.YtjiaepphnddpoaaH2
import Derived.Test.YtjiaepphnddpoaaM7
import Derived.Test.YtjiaepphnddpoaaG1
namespace Go.Proofs.Ytjiaepphnddpoaa
open Go.RowKit Go.Shelf
set_option linter.unusedSimpArgs false
set_option linter.unusedVariables false

def RetLaid (s : Strm) (o : List Int) (up : Bool) (w : World) (e : Ending) (w' : World) : Prop :=
  ∃ P m pc, e = .returned (.tuple #[.slice P m pc, .bool (laidB s o)]) ∧ SlAt w' w.heap.size 2 Pnt.cells P m pc (if laidB s o = true then laidL s o up else []) ∧ Below w.heap.size w w'
def laidOK (s : Strm) (o : List Int) (k : Nat) : Prop := ∀ i, i < k → bendAt s o i ≤ (s.sec i).len
theorem Try.infoPnt : (Try.prog.info? 88).map (fun i => (i.zero, i.size, i.bytes)) = some (some (.agg #[.int .i64 0, .int .i64 0]), 2, 16) := by kernel_rfl
set_option maxRecDepth 100000 in
set_option maxHeartbeats 4000000 in
theorem laid_any (s : Strm) (A O : Option Addr) (n c co B1 B : Nat) (o : List Int) (up : Bool) (w : World) (ho : okStrm s = true) (hob : ∀ x ∈ o, -16384 ≤ x ∧ x ≤ 16384) (hss : SlAt w B1 5 Sec.cells A n c s.secs) (hs : SlAt w B 1 ivs O n co o) :
    Calls Try.prog 44 #[.agg #[.int .i64 s.head, .slice A n c, .int .i64 s.lane.lo, .int .i64 s.lane.hi, .int .i64 s.bend], .slice O n co, .bool up] w (RetLaid s o up w) := by
  have hh := ok_head ho
  have hln := Lib.hid hs.len
  have hsl := Lib.hid hss.len
  have hn8 : n ≤ 8 := by unfold headOk at hh; have := hss.len; omega
  have hXb := fun hk => laidX_neg (s := s) (o := o) up ho (by rw [hln.out, hsl.out]) (laidB_yes hk)
  have hbX : ∀ k, k ≤ n → laidOK s o k → -8000 ≤ laidX s o up k ∧ laidX s o up k ≤ 0 := by
    intro k hk hok
    have : ∀ j, j ≤ k → 0 ≤ -laidX s o up j ∧ -laidX s o up j ≤ 1000 * j := by
      intro j
      induction j with
      | zero => intro _; simp [laidX]
      | succ j ih =>
        intro hj
        have ih := ih (by omega)
        have hl := sec_len ho j
        have := backS_bd (up := up) (h := bendAt s o j) (bend_nonneg s o j) (hok j (by omega)) (Int.le_refl _)
        show 0 ≤ -(laidX s o up j - backS up _ _) ∧ -(laidX s o up j - backS up _ _) ≤ 1000 * ((j + 1 : Nat) : Int)
        omega
    have := this k (Nat.le_refl _)
    omega
  have hprev : ∀ k, -16384 ≤ prev s.head o k ∧ prev s.head o k ≤ 16384 := by
    intro k
    cases k with
    | zero => unfold headOk at hh; show -16384 ≤ s.head ∧ s.head ≤ 16384; omega
    | succ k =>
      show -16384 ≤ o.getD k s.head ∧ o.getD k s.head ≤ 16384
      by_cases hk : k < o.length
      · exact hob _ (List.mem_of_getElem? (getD_get s.head hk))
      · rw [List.getD_eq_getElem?_getD, List.getElem?_eq_none (by omega)]; unfold headOk at hh; simp; omega
  replace hbX := Lib.hid hbX
  replace hprev := Lib.hid hprev
  replace hob := Lib.hid hob
  clear hXb
  replace hh := Lib.hid hh
  have k3 := Blk.new w 26 #[.int .i64 s.head, .slice A n c, .int .i64 s.lane.lo, .int .i64 s.lane.hi, .int .i64 s.bend]
  have hb0 := (Below.refl w.heap.size w).alloc (Nat.le_refl _) (.cells #[.int .i64 s.head, .slice A n c, .int .i64 s.lane.lo, .int .i64 s.lane.hi, .int .i64 s.bend] 26)
  have hsz0 : w.heap.size + 1 ≤ (w.alloc (.cells #[.int .i64 s.head, .slice A n c, .int .i64 s.lane.lo, .int .i64 s.lane.hi, .int .i64 s.bend] 26)).heap.size := by rw [World.size_alloc]; exact Nat.le_refl _
  go_enter Try.func44, Try.ntmps44
  go_wp2_with fail
  generalize w.alloc (.cells #[.int .i64 s.head, .slice A n c, .int .i64 s.lane.lo, .int .i64 s.lane.hi, .int .i64 s.bend] 26) = w1 at *
  refine wp_held_np (fun w' : World => (∀ j, w'.cell? ⟨w.heap.size, j, none⟩ = #[Value.int .i64 s.head, .slice A n c, .int .i64 s.lane.lo, .int .i64 s.lane.hi, .int .i64 s.bend][j]?) ∧ True) (by kernel_rfl) ?_
  replace k3 := k3.drew
  replace hb0 := hb0.drew
  replace hsz0 : w.heap.size + 1 ≤ w1.drew.heap.size := hsz0
  generalize w1.drew = W at *
  have hS : (fun w' : World => (∀ j, w'.cell? ⟨w.heap.size, j, none⟩ = #[Value.int .i64 s.head, .slice A n c, .int .i64 s.lane.lo, .int .i64 s.lane.hi, .int .i64 s.bend][j]?) ∧ True) W := ⟨k3.cell, trivial⟩
  refine held_take (i := 0) (v := ?_) 16 rfl rfl (by kernel_rfl) (by kernel_rfl) (by kernel_rfl) (fun _ _ _ h => h) (Or.inl ⟨by rfl, ?_⟩) hS ?_
  rotate_left 1
  · intro w' hSw
    try dsimp only at hSw
    obtain ⟨q1, q2⟩ := hSw
    go_simp
    all_goals with_reducible rfl
  try simp only [Act.put, List.setIfInBounds_toArray, List.set_cons_zero, List.set_cons_succ]
  refine held_take (i := 1) (v := ?_) 17 rfl rfl (by kernel_rfl) (by kernel_rfl) (by kernel_rfl) (fun _ _ _ h => h) (Or.inl ⟨by rfl, ?_⟩) hS ?_
  rotate_left 1
  · intro w' hSw
    try dsimp only at hSw
    obtain ⟨q1, q2⟩ := hSw
    go_simp
    all_goals with_reducible rfl
  try simp only [Act.put, List.setIfInBounds_toArray, List.set_cons_zero, List.set_cons_succ]
  refine held_take (i := 2) (v := ?_) 9 rfl rfl (by kernel_rfl) (by kernel_rfl) (by kernel_rfl) (fun _ _ _ h => h) (Or.inl ⟨by rfl, ?_⟩) hS ?_
  rotate_left 1
  · intro w' hSw
    try dsimp only at hSw
    obtain ⟨q1, q2⟩ := hSw
    go_simp
    all_goals with_reducible rfl
  try simp only [Act.put, List.setIfInBounds_toArray, List.set_cons_zero, List.set_cons_succ]
  refine held_take (i := 3) (v := ?_) 10 rfl rfl (by kernel_rfl) (by kernel_rfl) (by kernel_rfl) (fun _ _ _ h => h) (Or.inl ⟨by rfl, ?_⟩) hS ?_
  rotate_left 1
  · intro w' hSw
    try dsimp only at hSw
    obtain ⟨q1, q2⟩ := hSw
    go_simp
    all_goals with_reducible rfl
  try simp only [Act.put, List.setIfInBounds_toArray, List.set_cons_zero, List.set_cons_succ]
  refine wpAnyH_done (by kernel_rfl) (noPanic_normal ?_) _
  clear hS
  go_wp2_with fail
  go_loopw [8, 9, 10, 11] (fun v x la i wr => ∃ k : Nat, i = .int .i64 k ∧ k ≤ n ∧ x = .int .i64 (laidX s o up k) ∧ la = .int .i64 (prev s.head o k) ∧ laidOK s o k ∧ Blk wr w.heap.size 26 #[.int .i64 s.head, .slice A n c, .int .i64 s.lane.lo, .int .i64 s.lane.hi, .int .i64 s.bend] ∧ wr.ownsRow (w.heap.size + 1) 88 2 v k ((laidTo s o up k).flatMap Pnt.cells) ∧ Below w.heap.size w wr ∧ w.heap.size + 1 ≤ wr.heap.size) (fun v x la i wr => n - (intOf i).toNat)
  case atStart => exact ⟨0, rfl, Nat.zero_le _, rfl, rfl, fun i hi => by omega, k3, ⟨rfl, .inl ⟨rfl, rfl⟩⟩, hb0, hsz0⟩
  case round =>
    obtain ⟨k, rfl, hk, rfl, rfl, hok, k3w, hown, hb, hsz⟩ := hrel
    by_cases hlt : k < n
    · have hok9 := Lib.hid hok
      have hXr := hbX.out k hk hok
      have hpr := hprev.out k
      obtain ⟨y, hy⟩ := some_of_lt hln.out hlt
      have hyb := hob.out y (List.mem_of_getElem? hy)
      have hyd : Hid (o.getD k s.head = y) := getD_of _ hy
      have hpk : Hid (prev s.head o (k + 1) = y) := hyd.out
      have hsc := sec_at s (i := k) (by rw [hsl.out]; exact hlt)
      have hso := of_decide_eq_true (ok_sec ho (i := k) (by rw [hsl.out]; exact hlt))
      obtain ⟨bS, oS, hA, -, hbSl, g0, -, -, -, -⟩ := hss.sec hsc
      obtain ⟨bO, oO, hO, -, hbOl, e0⟩ := hs.int hy
      replace g0 := (hb.cell (p := ⟨bS, oS + k * 5, none⟩) hbSl).trans g0
      replace e0 := (hb.cell (p := ⟨bO, oO + k, none⟩) hbOl).trans e0
      have hMs0 : bendAt s o k = magS (y - prev s.head o k) := by unfold bendAt; rw [hyd.out]
      obtain ⟨N, hN⟩ : ∃ N, (s.sec k).len = N := ⟨_, rfl⟩
      obtain ⟨X, hX⟩ : ∃ X, laidX s o up k = X := ⟨_, rfl⟩
      obtain ⟨p, hp⟩ : ∃ p, prev s.head o k = p := ⟨_, rfl⟩
      rw [hp] at hMs0 hpr
      rw [hN] at g0 hso
      rw [hX] at hXr
      simp only [hX, hp]
      obtain ⟨M, hM⟩ : ∃ M, magS (y - p) = M := ⟨_, rfl⟩
      rw [hM] at hMs0
      have hM0 : 0 ≤ M ∧ M ≤ 32768 := by subst hM; unfold magS; omega
      have hmag := fun W => Mag_any (y - p) W (by omega) (by omega)
      simp only [hM] at hmag
      have hNs := Lib.hid hN
      have hMs := Lib.hid hMs0
      have hXk := Lib.hid hX
      have hno : N < M → laidB s o = false := fun h => laidB_no (i := k) (by rw [hln.out]; exact hlt) (by rw [hN, hMs0]; exact h)
      have hok2 : M ≤ N → laidOK s o (k + 1) := fun h i hi => by
        by_cases h2 : i < k
        · exact hok i h2
        · obtain rfl : i = k := by omega
          rw [hN, hMs0]; exact h
      replace hno := Lib.hid hno
      replace hok2 := Lib.hid hok2
      replace hM := Lib.hid hM
      replace hp := Lib.hid hp
      replace hy := Lib.hid hy
      replace hsc := Lib.hid hsc
      obtain ⟨hN1, hN2, -⟩ := hso
      clear hX hN hMs0 hok
      have hk0 : (0 : Int) ≤ (k : Int) := by omega
      have hk1 : (k : Int) < (n : Int) := by omega
      subst hA
      subst hO
      obtain ⟨c3, f3, l3⟩ := k3w.rules
      by_cases hbig : N < M
      · have hv := hno.out hbig
        go_wp2_with fail
        refine (hmag _).mono ?_
        rintro e w' ⟨rfl, rfl⟩
        clear hmag
        replace hv := Lib.hid hv
        go_wp2
        go_ret2
        refine ⟨none, 0, 0, by rw [hv.out]; rfl, ?_, hb⟩
        rw [hv.out]
        exact SlAt.nil _ _ _ _
      · replace hok2 := Lib.hid (hok2.out (by omega))
        have m1 : M * M ≤ N * N := sq_mono hM0.1 (by omega)
        have m0 : 0 ≤ M * M := Int.mul_nonneg hM0.1 hM0.1
        have m2 : N * N ≤ 1000 * 1000 := sq_mono (by omega) hN2
        obtain ⟨hbb0, hbb1, hbb2⟩ := backS_bd (up := up) (h := M) hM0.1 (show M ≤ N by omega) (Int.le_refl _)
        have hbkb : 0 ≤ backS up N M ∧ backS up N M ≤ 1000 := ⟨hbb2, by omega⟩
        replace hbkb := Lib.hid hbkb
        have hroot := fun W => Root_any (N * N - M * M) W (by omega) (by omega)
        have hrb := rootS_bd (show 0 ≤ N * N - M * M by omega)
        have hrr : rootS (N * N - M * M) ≤ 1000 := by
          rcases Int.lt_or_le 1000 (rootS (N * N - M * M)) with h | h
          · have := sq_mono (show (0 : Int) ≤ 1001 by omega) (show 1001 ≤ rootS (N * N - M * M) by omega)
            omega
          · exact h
        have hr0 : 0 ≤ rootS (N * N - M * M) * rootS (N * N - M * M) := Int.mul_nonneg hrb.1 hrb.1
        clear hbb0 hbb1 hbb2
        obtain ⟨r, hr⟩ : ∃ r, rootS (N * N - M * M) = r := ⟨_, rfl⟩
        simp only [hr] at hroot hrb hrr hr0
        replace hr := Lib.hid hr
        have hbkb := hbkb.out
        go_wp2_with fail
        refine (hmag _).mono ?_
        rintro e w' ⟨rfl, rfl⟩
        clear hmag
        go_wp2_with fail
        refine (hroot _).mono ?_
        rintro e w' ⟨rfl, rfl⟩
        clear hroot
        cases up with
        | false =>
          have hbk : backS false N M = r := by unfold backS; rw [if_neg (by simp)]; exact hr.out
          have hXs : Hid (laidX s o false (k + 1) = X - (r)) := by show laidX s o false k - backS false (s.sec k).len (bendAt s o k) = _; rw [hNs.out, hMs.out, hXk.out, hbk]
          have hbk2 : 0 ≤ r ∧ r ≤ 1000 := by rw [← hbk]; exact hbkb
          have u1 := IntWalk.i64_in (X - (r)) (by omega)
          replace hbk := Lib.hid hbk
          go_wp2_with fail
          clear c3 f3 l3
          refine wp_held_np (fun w' : World => w'.cell? ⟨bO, oO + k, none⟩ = some (.int .i64 y) ∧ True) (by kernel_rfl) ?_
          replace k3w := k3w.drew
          replace hown : wr.drew.ownsRow _ _ _ _ _ _ := hown
          replace hb := hb.drew
          replace hsz : w.heap.size + 1 ≤ wr.drew.heap.size := hsz
          have hS : (fun w' : World => w'.cell? ⟨bO, oO + k, none⟩ = some (.int .i64 y) ∧ True) wr.drew := ⟨e0, trivial⟩
          generalize wr.drew = wd at *
          refine held_take (i := 0) (v := ?_) 76 rfl rfl (by kernel_rfl) (by kernel_rfl) (by kernel_rfl) (fun _ _ _ h => h) (Or.inl ⟨by rfl, ?_⟩) hS ?_
          rotate_left 1
          · intro w' hSw
            try dsimp only at hSw
            obtain ⟨q1, q2⟩ := hSw
            go_simp
            all_goals with_reducible rfl
          try simp only [Act.put, List.setIfInBounds_toArray, List.set_cons_zero, List.set_cons_succ]
          refine held_take (i := 1) (v := ?_) 77 rfl rfl (by kernel_rfl) (by kernel_rfl) (by kernel_rfl) (fun _ _ _ h => h) (Or.inl ⟨by rfl, ?_⟩) hS ?_
          rotate_left 1
          · intro w' hSw
            try dsimp only at hSw
            obtain ⟨q1, q2⟩ := hSw
            go_simp
            all_goals with_reducible rfl
          try simp only [Act.put, List.setIfInBounds_toArray, List.set_cons_zero, List.set_cons_succ]
          refine held_take (i := 2) (v := ?_) 78 rfl rfl (by kernel_rfl) (by kernel_rfl) (by kernel_rfl) (fun _ _ _ h => h) (Or.inl ⟨by rfl, ?_⟩) hS ?_
          rotate_left 1
          · intro w' hSw
            try dsimp only at hSw
            obtain ⟨q1, q2⟩ := hSw
            go_simp
            all_goals with_reducible rfl
          try simp only [Act.put, List.setIfInBounds_toArray, List.set_cons_zero, List.set_cons_succ]
          refine held_take (i := 3) (v := ?_) 79 rfl rfl (by kernel_rfl) (by kernel_rfl) (by kernel_rfl) (fun _ _ _ h => h) (Or.inl ⟨by rfl, ?_⟩) hS ?_
          rotate_left 1
          · intro w' hSw
            try dsimp only at hSw
            obtain ⟨q1, q2⟩ := hSw
            go_simp
            all_goals with_reducible rfl
          try simp only [Act.put, List.setIfInBounds_toArray, List.set_cons_zero, List.set_cons_succ]
          refine held_take (i := 4) (v := ?_) 80 rfl rfl (by kernel_rfl) (by kernel_rfl) (by kernel_rfl) (fun _ _ _ h => h) (Or.inl ⟨by rfl, ?_⟩) hS ?_
          rotate_left 1
          · intro w' hSw
            try dsimp only at hSw
            obtain ⟨q1, q2⟩ := hSw
            go_simp
            all_goals with_reducible rfl
          try simp only [Act.put, List.setIfInBounds_toArray, List.set_cons_zero, List.set_cons_succ]
          refine held_take (i := 5) (v := ?_) 81 rfl rfl (by kernel_rfl) (by kernel_rfl) (by kernel_rfl) (fun _ _ _ h => h) (Or.inl ⟨by rfl, ?_⟩) hS ?_
          rotate_left 1
          · intro w' hSw
            try dsimp only at hSw
            obtain ⟨q1, q2⟩ := hSw
            go_simp
            all_goals with_reducible rfl
          try simp only [Act.put, List.setIfInBounds_toArray, List.set_cons_zero, List.set_cons_succ]
          refine held_take (i := 6) (v := ?_) 82 rfl rfl (by kernel_rfl) (by kernel_rfl) (by kernel_rfl) (fun _ _ _ h => h) (Or.inl ⟨by rfl, ?_⟩) hS ?_
          rotate_left 1
          · intro w' hSw
            try dsimp only at hSw
            obtain ⟨q1, q2⟩ := hSw
            go_simp
            all_goals with_reducible rfl
          try simp only [Act.put, List.setIfInBounds_toArray, List.set_cons_zero, List.set_cons_succ]
          refine held_take (i := 7) (v := ?_) 9 rfl rfl (by kernel_rfl) (by kernel_rfl) (by kernel_rfl) (fun _ _ _ h => h) (Or.inl ⟨by rfl, ?_⟩) hS ?_
          rotate_left 1
          · intro w' hSw
            try dsimp only at hSw
            obtain ⟨q1, q2⟩ := hSw
            go_simp
            all_goals with_reducible rfl
          try simp only [Act.put, List.setIfInBounds_toArray, List.set_cons_zero, List.set_cons_succ]
          refine held_take (i := 8) (v := ?_) 10 rfl rfl (by kernel_rfl) (by kernel_rfl) (by kernel_rfl) (fun _ _ _ h => h) (Or.inl ⟨by rfl, ?_⟩) hS ?_
          rotate_left 1
          · intro w' hSw
            try dsimp only at hSw
            obtain ⟨q1, q2⟩ := hSw
            go_simp
            all_goals with_reducible rfl
          try simp only [Act.put, List.setIfInBounds_toArray, List.set_cons_zero, List.set_cons_succ]
          refine wpAnyH_done (by kernel_rfl) (noPanic_normal ?_) _
          clear hS u1
          generalize hX1 : X - (r) = X1 at *
          have hbig1 : Hid (k + 1 ≤ maxLen) := by show k + 1 ≤ maxLen; unfold maxLen; omega
          have hbig2 : Hid ((k + 1) * 16 ≤ 140737488355328) := by show (k + 1) * 16 ≤ 140737488355328; omega
          obtain ⟨i0, hi0, hz0, hz1, hz2⟩ := info_parts Try.infoPnt
          have hnews : ∀ (j : Nat) (u : Value), ([.int .i64 X1, .int .i64 y] : List Value)[j]? = some u → (wd.alloc (.cells #[.int .i64 X1, .int .i64 y] 88)).cell? ((⟨wd.heap.size, 0, none⟩ : Addr).add j) = some u :=
            World.news_of_block (cs := #[.int .i64 X1, .int .i64 y]) (World.alloc_heap_new wd _)
          have hownf := hown.alloc (.cells #[.int .i64 X1, .int .i64 y] 88)
          have hbf := hb.alloc hb.size (.cells #[.int .i64 X1, .int .i64 y] 88)
          have hszf : w.heap.size + 1 ≤ (wd.alloc (.cells #[.int .i64 X1, .int .i64 y] 88)).heap.size := by rw [World.size_alloc]; omega
          have k3f := k3w.alloc (.cells #[.int .i64 X1, .int .i64 y] 88)
          replace hX1 := Lib.hid hX1
          go_wp2_with (at_builtin; refine wpList_append_lies _ rfl (.tmp 83) (.tmp 87) 81 rfl (w.heap.size + 1) 88 i0 (.agg #[.int .i64 0, .int .i64 0]) 2 16 Try.underlying81 hi0 hz0 hz1 hz2 rfl (by decide) u8 k ((laidTo s o false k).flatMap Pnt.cells) rfl hownf ⟨wd.heap.size, 0, none⟩ 1 1 [.int .i64 X1, .int .i64 y] rfl rfl hnews (by simp [Value.oneCell']) (by decide) hbig1.out hbig2.out hszf (wd.heap.size + 1) (by simp) ?_; intro g cap w7 hown7 hgrow hlies hlt7)
          have hbg : Below (w.heap.size + 1) _ w7 := ⟨hgrow.os, hgrow.tape, hgrow.output, hgrow.size, fun b hb2 => hgrow.block b (Nat.lt_of_lt_of_le hb2 hszf) (fun e => by have := (hownf.lt _ e.symm).1; omega)⟩
          have k3g := k3f.belowB hbg (by omega)
          have hbh := hbf.trans (hbg.mono (by omega))
          have hszg : w.heap.size + 1 ≤ w7.heap.size := Nat.le_trans hszf hbg.size
          go_roundw
          case rel =>
            refine ⟨k + 1, by go_num, by omega, ?_, ?_, hok2.out, k3g, ?_, hbh, hszg⟩
            · rw [hXs.out]
            · rw [hpk.out]
            · have hnx : (laidTo s o false (k + 1)).flatMap Pnt.cells = (laidTo s o false k).flatMap Pnt.cells ++ [.int .i64 X1, .int .i64 y] := by
                rw [laidTo_succ, List.flatMap_append, hXs.out, hyd.out]; simp [Pnt.cells]
              rw [hnx]
              exact hown7
          case measure => simp [intOf]; omega
        | true =>
          by_cases hlt2 : r * r < N * N - M * M
          · skip
            have hbk : backS true N M = r + 1 := by unfold backS; rw [hr.out, if_pos ⟨rfl, hlt2⟩]
            have hXs : Hid (laidX s o true (k + 1) = X - (r + 1)) := by show laidX s o true k - backS true (s.sec k).len (bendAt s o k) = _; rw [hNs.out, hMs.out, hXk.out, hbk]
            have hbk2 : 0 ≤ r + 1 ∧ r + 1 ≤ 1000 := by rw [← hbk]; exact hbkb
            have u1 := IntWalk.i64_in (X - (r + 1)) (by omega)
            replace hbk := Lib.hid hbk
            go_wp2_with fail
            clear c3 f3 l3
            refine wp_held_np (fun w' : World => w'.cell? ⟨bO, oO + k, none⟩ = some (.int .i64 y) ∧ True) (by kernel_rfl) ?_
            replace k3w := k3w.drew
            replace hown : wr.drew.ownsRow _ _ _ _ _ _ := hown
            replace hb := hb.drew
            replace hsz : w.heap.size + 1 ≤ wr.drew.heap.size := hsz
            have hS : (fun w' : World => w'.cell? ⟨bO, oO + k, none⟩ = some (.int .i64 y) ∧ True) wr.drew := ⟨e0, trivial⟩
            generalize wr.drew = wd at *
            refine held_take (i := 0) (v := ?_) 76 rfl rfl (by kernel_rfl) (by kernel_rfl) (by kernel_rfl) (fun _ _ _ h => h) (Or.inl ⟨by rfl, ?_⟩) hS ?_
            rotate_left 1
            · intro w' hSw
              try dsimp only at hSw
              obtain ⟨q1, q2⟩ := hSw
              go_simp
              all_goals with_reducible rfl
            try simp only [Act.put, List.setIfInBounds_toArray, List.set_cons_zero, List.set_cons_succ]
            refine held_take (i := 1) (v := ?_) 77 rfl rfl (by kernel_rfl) (by kernel_rfl) (by kernel_rfl) (fun _ _ _ h => h) (Or.inl ⟨by rfl, ?_⟩) hS ?_
            rotate_left 1
            · intro w' hSw
              try dsimp only at hSw
              obtain ⟨q1, q2⟩ := hSw
              go_simp
              all_goals with_reducible rfl
            try simp only [Act.put, List.setIfInBounds_toArray, List.set_cons_zero, List.set_cons_succ]
            refine held_take (i := 2) (v := ?_) 78 rfl rfl (by kernel_rfl) (by kernel_rfl) (by kernel_rfl) (fun _ _ _ h => h) (Or.inl ⟨by rfl, ?_⟩) hS ?_
            rotate_left 1
            · intro w' hSw
              try dsimp only at hSw
              obtain ⟨q1, q2⟩ := hSw
              go_simp
              all_goals with_reducible rfl
            try simp only [Act.put, List.setIfInBounds_toArray, List.set_cons_zero, List.set_cons_succ]
            refine held_take (i := 3) (v := ?_) 79 rfl rfl (by kernel_rfl) (by kernel_rfl) (by kernel_rfl) (fun _ _ _ h => h) (Or.inl ⟨by rfl, ?_⟩) hS ?_
            rotate_left 1
            · intro w' hSw
              try dsimp only at hSw
              obtain ⟨q1, q2⟩ := hSw
              go_simp
              all_goals with_reducible rfl
            try simp only [Act.put, List.setIfInBounds_toArray, List.set_cons_zero, List.set_cons_succ]
            refine held_take (i := 4) (v := ?_) 80 rfl rfl (by kernel_rfl) (by kernel_rfl) (by kernel_rfl) (fun _ _ _ h => h) (Or.inl ⟨by rfl, ?_⟩) hS ?_
            rotate_left 1
            · intro w' hSw
              try dsimp only at hSw
              obtain ⟨q1, q2⟩ := hSw
              go_simp
              all_goals with_reducible rfl
            try simp only [Act.put, List.setIfInBounds_toArray, List.set_cons_zero, List.set_cons_succ]
            refine held_take (i := 5) (v := ?_) 81 rfl rfl (by kernel_rfl) (by kernel_rfl) (by kernel_rfl) (fun _ _ _ h => h) (Or.inl ⟨by rfl, ?_⟩) hS ?_
            rotate_left 1
            · intro w' hSw
              try dsimp only at hSw
              obtain ⟨q1, q2⟩ := hSw
              go_simp
              all_goals with_reducible rfl
            try simp only [Act.put, List.setIfInBounds_toArray, List.set_cons_zero, List.set_cons_succ]
            refine held_take (i := 6) (v := ?_) 82 rfl rfl (by kernel_rfl) (by kernel_rfl) (by kernel_rfl) (fun _ _ _ h => h) (Or.inl ⟨by rfl, ?_⟩) hS ?_
            rotate_left 1
            · intro w' hSw
              try dsimp only at hSw
              obtain ⟨q1, q2⟩ := hSw
              go_simp
              all_goals with_reducible rfl
            try simp only [Act.put, List.setIfInBounds_toArray, List.set_cons_zero, List.set_cons_succ]
            refine held_take (i := 7) (v := ?_) 9 rfl rfl (by kernel_rfl) (by kernel_rfl) (by kernel_rfl) (fun _ _ _ h => h) (Or.inl ⟨by rfl, ?_⟩) hS ?_
            rotate_left 1
            · intro w' hSw
              try dsimp only at hSw
              obtain ⟨q1, q2⟩ := hSw
              go_simp
              all_goals with_reducible rfl
            try simp only [Act.put, List.setIfInBounds_toArray, List.set_cons_zero, List.set_cons_succ]
            refine held_take (i := 8) (v := ?_) 10 rfl rfl (by kernel_rfl) (by kernel_rfl) (by kernel_rfl) (fun _ _ _ h => h) (Or.inl ⟨by rfl, ?_⟩) hS ?_
            rotate_left 1
            · intro w' hSw
              try dsimp only at hSw
              obtain ⟨q1, q2⟩ := hSw
              go_simp
              all_goals with_reducible rfl
            try simp only [Act.put, List.setIfInBounds_toArray, List.set_cons_zero, List.set_cons_succ]
            refine wpAnyH_done (by kernel_rfl) (noPanic_normal ?_) _
            clear hS u1
            generalize hX1 : X - (r + 1) = X1 at *
            have hbig1 : Hid (k + 1 ≤ maxLen) := by show k + 1 ≤ maxLen; unfold maxLen; omega
            have hbig2 : Hid ((k + 1) * 16 ≤ 140737488355328) := by show (k + 1) * 16 ≤ 140737488355328; omega
            obtain ⟨i0, hi0, hz0, hz1, hz2⟩ := info_parts Try.infoPnt
            have hnews : ∀ (j : Nat) (u : Value), ([.int .i64 X1, .int .i64 y] : List Value)[j]? = some u → (wd.alloc (.cells #[.int .i64 X1, .int .i64 y] 88)).cell? ((⟨wd.heap.size, 0, none⟩ : Addr).add j) = some u :=
              World.news_of_block (cs := #[.int .i64 X1, .int .i64 y]) (World.alloc_heap_new wd _)
            have hownf := hown.alloc (.cells #[.int .i64 X1, .int .i64 y] 88)
            have hbf := hb.alloc hb.size (.cells #[.int .i64 X1, .int .i64 y] 88)
            have hszf : w.heap.size + 1 ≤ (wd.alloc (.cells #[.int .i64 X1, .int .i64 y] 88)).heap.size := by rw [World.size_alloc]; omega
            have k3f := k3w.alloc (.cells #[.int .i64 X1, .int .i64 y] 88)
            replace hX1 := Lib.hid hX1
            go_wp2_with (at_builtin; refine wpList_append_lies _ rfl (.tmp 83) (.tmp 87) 81 rfl (w.heap.size + 1) 88 i0 (.agg #[.int .i64 0, .int .i64 0]) 2 16 Try.underlying81 hi0 hz0 hz1 hz2 rfl (by decide) u8 k ((laidTo s o true k).flatMap Pnt.cells) rfl hownf ⟨wd.heap.size, 0, none⟩ 1 1 [.int .i64 X1, .int .i64 y] rfl rfl hnews (by simp [Value.oneCell']) (by decide) hbig1.out hbig2.out hszf (wd.heap.size + 1) (by simp) ?_; intro g cap w7 hown7 hgrow hlies hlt7)
            have hbg : Below (w.heap.size + 1) _ w7 := ⟨hgrow.os, hgrow.tape, hgrow.output, hgrow.size, fun b hb2 => hgrow.block b (Nat.lt_of_lt_of_le hb2 hszf) (fun e => by have := (hownf.lt _ e.symm).1; omega)⟩
            have k3g := k3f.belowB hbg (by omega)
            have hbh := hbf.trans (hbg.mono (by omega))
            have hszg : w.heap.size + 1 ≤ w7.heap.size := Nat.le_trans hszf hbg.size
            go_roundw
            case rel =>
              refine ⟨k + 1, by go_num, by omega, ?_, ?_, hok2.out, k3g, ?_, hbh, hszg⟩
              · rw [hXs.out]
              · rw [hpk.out]
              · have hnx : (laidTo s o true (k + 1)).flatMap Pnt.cells = (laidTo s o true k).flatMap Pnt.cells ++ [.int .i64 X1, .int .i64 y] := by
                  rw [laidTo_succ, List.flatMap_append, hXs.out, hyd.out]; simp [Pnt.cells]
                rw [hnx]
                exact hown7
            case measure => simp [intOf]; omega
          · skip
            have hbk : backS true N M = r := by unfold backS; rw [hr.out, if_neg (fun h => hlt2 h.2)]
            have hXs : Hid (laidX s o true (k + 1) = X - (r)) := by show laidX s o true k - backS true (s.sec k).len (bendAt s o k) = _; rw [hNs.out, hMs.out, hXk.out, hbk]
            have hbk2 : 0 ≤ r ∧ r ≤ 1000 := by rw [← hbk]; exact hbkb
            have u1 := IntWalk.i64_in (X - (r)) (by omega)
            replace hbk := Lib.hid hbk
            go_wp2_with fail
            clear c3 f3 l3
            refine wp_held_np (fun w' : World => w'.cell? ⟨bO, oO + k, none⟩ = some (.int .i64 y) ∧ True) (by kernel_rfl) ?_
            replace k3w := k3w.drew
            replace hown : wr.drew.ownsRow _ _ _ _ _ _ := hown
            replace hb := hb.drew
            replace hsz : w.heap.size + 1 ≤ wr.drew.heap.size := hsz
            have hS : (fun w' : World => w'.cell? ⟨bO, oO + k, none⟩ = some (.int .i64 y) ∧ True) wr.drew := ⟨e0, trivial⟩
            generalize wr.drew = wd at *
            refine held_take (i := 0) (v := ?_) 76 rfl rfl (by kernel_rfl) (by kernel_rfl) (by kernel_rfl) (fun _ _ _ h => h) (Or.inl ⟨by rfl, ?_⟩) hS ?_
            rotate_left 1
            · intro w' hSw
              try dsimp only at hSw
              obtain ⟨q1, q2⟩ := hSw
              go_simp
              all_goals with_reducible rfl
            try simp only [Act.put, List.setIfInBounds_toArray, List.set_cons_zero, List.set_cons_succ]
            refine held_take (i := 1) (v := ?_) 77 rfl rfl (by kernel_rfl) (by kernel_rfl) (by kernel_rfl) (fun _ _ _ h => h) (Or.inl ⟨by rfl, ?_⟩) hS ?_
            rotate_left 1
            · intro w' hSw
              try dsimp only at hSw
              obtain ⟨q1, q2⟩ := hSw
              go_simp
              all_goals with_reducible rfl
            try simp only [Act.put, List.setIfInBounds_toArray, List.set_cons_zero, List.set_cons_succ]
            refine held_take (i := 2) (v := ?_) 78 rfl rfl (by kernel_rfl) (by kernel_rfl) (by kernel_rfl) (fun _ _ _ h => h) (Or.inl ⟨by rfl, ?_⟩) hS ?_
            rotate_left 1
            · intro w' hSw
              try dsimp only at hSw
              obtain ⟨q1, q2⟩ := hSw
              go_simp
              all_goals with_reducible rfl
            try simp only [Act.put, List.setIfInBounds_toArray, List.set_cons_zero, List.set_cons_succ]
            refine held_take (i := 3) (v := ?_) 79 rfl rfl (by kernel_rfl) (by kernel_rfl) (by kernel_rfl) (fun _ _ _ h => h) (Or.inl ⟨by rfl, ?_⟩) hS ?_
            rotate_left 1
            · intro w' hSw
              try dsimp only at hSw
              obtain ⟨q1, q2⟩ := hSw
              go_simp
              all_goals with_reducible rfl
            try simp only [Act.put, List.setIfInBounds_toArray, List.set_cons_zero, List.set_cons_succ]
            refine held_take (i := 4) (v := ?_) 80 rfl rfl (by kernel_rfl) (by kernel_rfl) (by kernel_rfl) (fun _ _ _ h => h) (Or.inl ⟨by rfl, ?_⟩) hS ?_
            rotate_left 1
            · intro w' hSw
              try dsimp only at hSw
              obtain ⟨q1, q2⟩ := hSw
              go_simp
              all_goals with_reducible rfl
            try simp only [Act.put, List.setIfInBounds_toArray, List.set_cons_zero, List.set_cons_succ]
            refine held_take (i := 5) (v := ?_) 81 rfl rfl (by kernel_rfl) (by kernel_rfl) (by kernel_rfl) (fun _ _ _ h => h) (Or.inl ⟨by rfl, ?_⟩) hS ?_
            rotate_left 1
            · intro w' hSw
              try dsimp only at hSw
              obtain ⟨q1, q2⟩ := hSw
              go_simp
              all_goals with_reducible rfl
            try simp only [Act.put, List.setIfInBounds_toArray, List.set_cons_zero, List.set_cons_succ]
            refine held_take (i := 6) (v := ?_) 82 rfl rfl (by kernel_rfl) (by kernel_rfl) (by kernel_rfl) (fun _ _ _ h => h) (Or.inl ⟨by rfl, ?_⟩) hS ?_
            rotate_left 1
            · intro w' hSw
              try dsimp only at hSw
              obtain ⟨q1, q2⟩ := hSw
              go_simp
              all_goals with_reducible rfl
            try simp only [Act.put, List.setIfInBounds_toArray, List.set_cons_zero, List.set_cons_succ]
            refine held_take (i := 7) (v := ?_) 9 rfl rfl (by kernel_rfl) (by kernel_rfl) (by kernel_rfl) (fun _ _ _ h => h) (Or.inl ⟨by rfl, ?_⟩) hS ?_
            rotate_left 1
            · intro w' hSw
              try dsimp only at hSw
              obtain ⟨q1, q2⟩ := hSw
              go_simp
              all_goals with_reducible rfl
            try simp only [Act.put, List.setIfInBounds_toArray, List.set_cons_zero, List.set_cons_succ]
            refine held_take (i := 8) (v := ?_) 10 rfl rfl (by kernel_rfl) (by kernel_rfl) (by kernel_rfl) (fun _ _ _ h => h) (Or.inl ⟨by rfl, ?_⟩) hS ?_
            rotate_left 1
            · intro w' hSw
              try dsimp only at hSw
              obtain ⟨q1, q2⟩ := hSw
              go_simp
              all_goals with_reducible rfl
            try simp only [Act.put, List.setIfInBounds_toArray, List.set_cons_zero, List.set_cons_succ]
            refine wpAnyH_done (by kernel_rfl) (noPanic_normal ?_) _
            clear hS u1
            generalize hX1 : X - (r) = X1 at *
            have hbig1 : Hid (k + 1 ≤ maxLen) := by show k + 1 ≤ maxLen; unfold maxLen; omega
            have hbig2 : Hid ((k + 1) * 16 ≤ 140737488355328) := by show (k + 1) * 16 ≤ 140737488355328; omega
            obtain ⟨i0, hi0, hz0, hz1, hz2⟩ := info_parts Try.infoPnt
            have hnews : ∀ (j : Nat) (u : Value), ([.int .i64 X1, .int .i64 y] : List Value)[j]? = some u → (wd.alloc (.cells #[.int .i64 X1, .int .i64 y] 88)).cell? ((⟨wd.heap.size, 0, none⟩ : Addr).add j) = some u :=
              World.news_of_block (cs := #[.int .i64 X1, .int .i64 y]) (World.alloc_heap_new wd _)
            have hownf := hown.alloc (.cells #[.int .i64 X1, .int .i64 y] 88)
            have hbf := hb.alloc hb.size (.cells #[.int .i64 X1, .int .i64 y] 88)
            have hszf : w.heap.size + 1 ≤ (wd.alloc (.cells #[.int .i64 X1, .int .i64 y] 88)).heap.size := by rw [World.size_alloc]; omega
            have k3f := k3w.alloc (.cells #[.int .i64 X1, .int .i64 y] 88)
            replace hX1 := Lib.hid hX1
            go_wp2_with (at_builtin; refine wpList_append_lies _ rfl (.tmp 83) (.tmp 87) 81 rfl (w.heap.size + 1) 88 i0 (.agg #[.int .i64 0, .int .i64 0]) 2 16 Try.underlying81 hi0 hz0 hz1 hz2 rfl (by decide) u8 k ((laidTo s o true k).flatMap Pnt.cells) rfl hownf ⟨wd.heap.size, 0, none⟩ 1 1 [.int .i64 X1, .int .i64 y] rfl rfl hnews (by simp [Value.oneCell']) (by decide) hbig1.out hbig2.out hszf (wd.heap.size + 1) (by simp) ?_; intro g cap w7 hown7 hgrow hlies hlt7)
            have hbg : Below (w.heap.size + 1) _ w7 := ⟨hgrow.os, hgrow.tape, hgrow.output, hgrow.size, fun b hb2 => hgrow.block b (Nat.lt_of_lt_of_le hb2 hszf) (fun e => by have := (hownf.lt _ e.symm).1; omega)⟩
            have k3g := k3f.belowB hbg (by omega)
            have hbh := hbf.trans (hbg.mono (by omega))
            have hszg : w.heap.size + 1 ≤ w7.heap.size := Nat.le_trans hszf hbg.size
            go_roundw
            case rel =>
              refine ⟨k + 1, by go_num, by omega, ?_, ?_, hok2.out, k3g, ?_, hbh, hszg⟩
              · rw [hXs.out]
              · rw [hpk.out]
              · have hnx : (laidTo s o true (k + 1)).flatMap Pnt.cells = (laidTo s o true k).flatMap Pnt.cells ++ [.int .i64 X1, .int .i64 y] := by
                  rw [laidTo_succ, List.flatMap_append, hXs.out, hyd.out]; simp [Pnt.cells]
                rw [hnx]
                exact hown7
            case measure => simp [intOf]; omega
    · obtain rfl : k = n := by omega
      have hlb : laidB s o = true := laidB_yes (by rw [hln.out]; exact hok)
      have hll : laidTo s o up k = laidL s o up := by unfold laidL; rw [hln.out]
      rw [hll] at hown
      obtain ⟨P, pc, e2, h2⟩ := SlAt.of_own (enc := Pnt.cells) hown (by omega) (laidL s o up) rfl (fun _ => rfl) (by unfold laidL; rw [laidTo_len]; exact hln.out)
      subst e2
      replace hlb := Lib.hid hlb
      replace hll := Lib.hid hll
      replace hok := Lib.hid hok
      clear hown
      go_wp2
      go_ret2
      refine ⟨P, k, pc, by rw [hlb.out]; rfl, ?_, hb⟩
      rw [hlb.out, if_pos rfl]
      exact h2.mono (by omega)
end Go.Proofs.Ytjiaepphnddpoaa
