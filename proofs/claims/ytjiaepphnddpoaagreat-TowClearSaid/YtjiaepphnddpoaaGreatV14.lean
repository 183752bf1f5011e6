/-
  Own texts for one claim, joined: H4 M11.
-/
import Derived.Deep.AppendLies
import Derived.WalkMore
import Derived.Maps.Own
import Derived.Maps.Views
import Derived.WideKeyPair
import Derived.Carry
import Derived.Deep.RegionHeld3
import Derived.Deep.RegionWith
import Derived.BigRegionIn
import Derived.Deep.QuietTactic
import Derived.BigQuiet
import Derived.Deep.RegionHeld3
import Derived.StillTailTactics
import Derived.Shelf.Abstract
import Derived.Test.YtjiaepphnddpoaaGreatChecked
import Derived.Shelf.Abstract
import Derived.Deep.QuietTactic
import Derived.BigQuiet
import Derived.Deep.RegionHeld3
import Derived.StillTailTactics
import Derived.Deep.AppendLies
import Derived.WalkMore
import Derived.WalkKit
import Derived.WalkSpells
import Derived.WalkLawsBesides
import Derived.Lib.Hide
import Derived.OrdersHeld
import Derived.StillTail
import Derived.StillTailTactics
import Derived.RangeFuncNested
import Derived.RangeFuncBound
import Derived.RangeFuncCalls
import Derived.RangeFuncLeaves
import Derived.Shelf.Abstract
import Derived.Shelf.RegionOpen
import Derived.OwnWalkIn
import Derived.TacticsInMore
import Derived.LoopNIn
import Derived.LoopIn
import Derived.OrdersIn
import Derived.Deep.Quiet
import Derived.Deep.QuietTactic
import Derived.BigQuiet
import Derived.Deep.AppendLies
import Derived.Deep.QuietTactic
import Derived.LoopN
import Derived.Deep.RegionWith
import Derived.BigQuiet
import Derived.Deep.AppendLies
import Derived.ChangeKeysEq
import Derived.Laws.AppendOwnNone
import Derived.Test.YtjiaepphnddpoaaGreatV01
import Derived.Test.YtjiaepphnddpoaaGreatV02
import Derived.Test.YtjiaepphnddpoaaGreatV03
import Derived.Test.YtjiaepphnddpoaaGreatV04
import Derived.Test.YtjiaepphnddpoaaGreatV05
import Derived.Test.YtjiaepphnddpoaaGreatV06
import Derived.Test.YtjiaepphnddpoaaGreatV07
import Derived.Test.YtjiaepphnddpoaaGreatV08
import Derived.Test.YtjiaepphnddpoaaGreatV09
import Derived.Test.YtjiaepphnddpoaaGreatV10
import Derived.Test.YtjiaepphnddpoaaGreatV11
import Derived.Test.YtjiaepphnddpoaaGreatV12
import Derived.Test.YtjiaepphnddpoaaGreatV13
namespace Go.Proofs.YtjiaepphnddpoaaGreat
open Go.RowKit Go.Shelf
set_option linter.unusedSimpArgs false
set_option linter.unusedVariables false
def RetLaid (s : Strm) (o : List Int) (up : Bool) (w : World) (e : Ending) (w' : World) : Prop :=
  ∃ P m pc, e = .returned (.tuple #[.slice P m pc, .bool (laidB s o)]) ∧ SlAt w' w.heap.size 2 Pnt.cells P m pc (if laidB s o = true then laidL s o up else []) ∧ Below w.heap.size w w'
def laidOK (s : Strm) (o : List Int) (k : Nat) : Prop := ∀ i, i < k → bendAt s o i ≤ (s.sec i).len
theorem Tryz.infoPnt : (Tryz.prog.info? 59).map (fun i => (i.zero, i.size, i.bytes)) = some (some (.agg #[.int .i64 0, .int .i64 0]), 2, 16) := by kernel_rfl
set_option maxRecDepth 100000 in
set_option maxHeartbeats 4000000 in
theorem laid_any (s : Strm) (A O : Option Addr) (n c co B1 B : Nat) (o : List Int) (up : Bool) (w : World) (ho : okStrm s = true) (hob : ∀ x ∈ o, -16384 ≤ x ∧ x ≤ 16384) (hss : SlAt w B1 5 Sec.cells A n c s.secs) (hs : SlAt w B 1 ivs O n co o) :
    Calls Tryz.prog 35 #[.agg #[.int .i64 s.head, .slice A n c, .int .i64 s.lane.lo, .int .i64 s.lane.hi, .int .i64 s.bend], .slice O n co, .bool up] w (RetLaid s o up w) := by
  have hh := ok_head ho
  have hln := Lib.hid hs.len
  have hsl := Lib.hid hss.len
  have hn8 : n ≤ 8 := by unfold headOk at hh; have := hss.len; omega
  have hXb := fun hk => laidX_neg (s := s) (o := o) up ho (by rw [hln.out, hsl.out]) (laidB_yes hk)
  have hbX : ∀ k, k ≤ n → laidOK s o k → -8000 ≤ laidX s o up k ∧ laidX s o up k ≤ 0 := by
    intro k hk hok
    have : ∀ j, j ≤ k → 0 ≤ -laidX s o up j ∧ -laidX s o up j ≤ 1000 * j := by
      intro j
      induction j with
      | zero => intro _; simp [laidX]
      | succ j ih =>
        intro hj
        have ih := ih (by omega)
        have hl := sec_len ho j
        have := backS_bd (up := up) (h := bendAt s o j) (bend_nonneg s o j) (hok j (by omega)) (Int.le_refl _)
        show 0 ≤ -(laidX s o up j - backS up _ _) ∧ -(laidX s o up j - backS up _ _) ≤ 1000 * ((j + 1 : Nat) : Int)
        omega
    have := this k (Nat.le_refl _)
    omega
  have hprev : ∀ k, -16384 ≤ prev s.head o k ∧ prev s.head o k ≤ 16384 := by
    intro k
    cases k with
    | zero => unfold headOk at hh; show -16384 ≤ s.head ∧ s.head ≤ 16384; omega
    | succ k =>
      show -16384 ≤ o.getD k s.head ∧ o.getD k s.head ≤ 16384
      by_cases hk : k < o.length
      · exact hob _ (List.mem_of_getElem? (getD_get s.head hk))
      · rw [List.getD_eq_getElem?_getD, List.getElem?_eq_none (by omega)]; unfold headOk at hh; simp; omega
  replace hbX := Lib.hid hbX
  replace hprev := Lib.hid hprev
  replace hob := Lib.hid hob
  clear hXb
  replace hh := Lib.hid hh
  have k3 := Blk.new w 26 #[.int .i64 s.head, .slice A n c, .int .i64 s.lane.lo, .int .i64 s.lane.hi, .int .i64 s.bend]
  have hb0 := (Below.refl w.heap.size w).alloc (Nat.le_refl _) (.cells #[.int .i64 s.head, .slice A n c, .int .i64 s.lane.lo, .int .i64 s.lane.hi, .int .i64 s.bend] 26)
  have hsz0 : w.heap.size + 1 ≤ (w.alloc (.cells #[.int .i64 s.head, .slice A n c, .int .i64 s.lane.lo, .int .i64 s.lane.hi, .int .i64 s.bend] 26)).heap.size := by rw [World.size_alloc]; exact Nat.le_refl _
  go_enter Tryz.func35, Tryz.ntmps35
  go_wp2_with fail
  generalize w.alloc (.cells #[.int .i64 s.head, .slice A n c, .int .i64 s.lane.lo, .int .i64 s.lane.hi, .int .i64 s.bend] 26) = w1 at *
  refine wp_held_np (fun w' : World => (∀ j, w'.cell? ⟨w.heap.size, j, none⟩ = #[Value.int .i64 s.head, .slice A n c, .int .i64 s.lane.lo, .int .i64 s.lane.hi, .int .i64 s.bend][j]?) ∧ True) (by kernel_rfl) ?_
  replace k3 := k3.drew
  replace hb0 := hb0.drew
  replace hsz0 : w.heap.size + 1 ≤ w1.drew.heap.size := hsz0
  generalize w1.drew = W at *
  have hS : (fun w' : World => (∀ j, w'.cell? ⟨w.heap.size, j, none⟩ = #[Value.int .i64 s.head, .slice A n c, .int .i64 s.lane.lo, .int .i64 s.lane.hi, .int .i64 s.bend][j]?) ∧ True) W := ⟨k3.cell, trivial⟩
  refine held_take (i := 0) (v := ?_) 16 rfl rfl (by kernel_rfl) (by kernel_rfl) (by kernel_rfl) (fun _ _ _ h => h) (Or.inl ⟨by rfl, ?_⟩) hS ?_
  rotate_left 1
  · intro w' hSw
    try dsimp only at hSw
    obtain ⟨q1, q2⟩ := hSw
    go_simp
    all_goals with_reducible rfl
  try simp only [Act.put, List.setIfInBounds_toArray, List.set_cons_zero, List.set_cons_succ]
  refine held_take (i := 1) (v := ?_) 17 rfl rfl (by kernel_rfl) (by kernel_rfl) (by kernel_rfl) (fun _ _ _ h => h) (Or.inl ⟨by rfl, ?_⟩) hS ?_
  rotate_left 1
  · intro w' hSw
    try dsimp only at hSw
    obtain ⟨q1, q2⟩ := hSw
    go_simp
    all_goals with_reducible rfl
  try simp only [Act.put, List.setIfInBounds_toArray, List.set_cons_zero, List.set_cons_succ]
  refine held_take (i := 2) (v := ?_) 9 rfl rfl (by kernel_rfl) (by kernel_rfl) (by kernel_rfl) (fun _ _ _ h => h) (Or.inl ⟨by rfl, ?_⟩) hS ?_
  rotate_left 1
  · intro w' hSw
    try dsimp only at hSw
    obtain ⟨q1, q2⟩ := hSw
    go_simp
    all_goals with_reducible rfl
  try simp only [Act.put, List.setIfInBounds_toArray, List.set_cons_zero, List.set_cons_succ]
  refine held_take (i := 3) (v := ?_) 10 rfl rfl (by kernel_rfl) (by kernel_rfl) (by kernel_rfl) (fun _ _ _ h => h) (Or.inl ⟨by rfl, ?_⟩) hS ?_
  rotate_left 1
  · intro w' hSw
    try dsimp only at hSw
    obtain ⟨q1, q2⟩ := hSw
    go_simp
    all_goals with_reducible rfl
  try simp only [Act.put, List.setIfInBounds_toArray, List.set_cons_zero, List.set_cons_succ]
  refine wpAnyH_done (by kernel_rfl) (noPanic_normal ?_) _
  clear hS
  go_wp2_with fail
  go_loopw [8, 9, 10, 11] (fun v x la i wr => ∃ k : Nat, i = .int .i64 k ∧ k ≤ n ∧ x = .int .i64 (laidX s o up k) ∧ la = .int .i64 (prev s.head o k) ∧ laidOK s o k ∧ Blk wr w.heap.size 26 #[.int .i64 s.head, .slice A n c, .int .i64 s.lane.lo, .int .i64 s.lane.hi, .int .i64 s.bend] ∧ wr.ownsRow (w.heap.size + 1) 59 2 v k ((laidTo s o up k).flatMap Pnt.cells) ∧ Below w.heap.size w wr ∧ w.heap.size + 1 ≤ wr.heap.size) (fun v x la i wr => n - (intOf i).toNat)
  case atStart => exact ⟨0, rfl, Nat.zero_le _, rfl, rfl, fun i hi => by omega, k3, ⟨rfl, .inl ⟨rfl, rfl⟩⟩, hb0, hsz0⟩
  case round =>
    obtain ⟨k, rfl, hk, rfl, rfl, hok, k3w, hown, hb, hsz⟩ := hrel
    by_cases hlt : k < n
    · have hok9 := Lib.hid hok
      have hXr := hbX.out k hk hok
      have hpr := hprev.out k
      obtain ⟨y, hy⟩ := some_of_lt hln.out hlt
      have hyb := hob.out y (List.mem_of_getElem? hy)
      have hyd : Hid (o.getD k s.head = y) := getD_of _ hy
      have hpk : Hid (prev s.head o (k + 1) = y) := hyd.out
      have hsc := sec_at s (i := k) (by rw [hsl.out]; exact hlt)
      have hso := of_decide_eq_true (ok_sec ho (i := k) (by rw [hsl.out]; exact hlt))
      obtain ⟨bS, oS, hA, -, hbSl, g0, -, -, -, -⟩ := hss.sec hsc
      obtain ⟨bO, oO, hO, -, hbOl, e0⟩ := hs.int hy
      replace g0 := (hb.cell (p := ⟨bS, oS + k * 5, none⟩) hbSl).trans g0
      replace e0 := (hb.cell (p := ⟨bO, oO + k, none⟩) hbOl).trans e0
      have hMs0 : bendAt s o k = magS (y - prev s.head o k) := by unfold bendAt; rw [hyd.out]
      obtain ⟨N, hN⟩ : ∃ N, (s.sec k).len = N := ⟨_, rfl⟩
      obtain ⟨X, hX⟩ : ∃ X, laidX s o up k = X := ⟨_, rfl⟩
      obtain ⟨p, hp⟩ : ∃ p, prev s.head o k = p := ⟨_, rfl⟩
      rw [hp] at hMs0 hpr
      rw [hN] at g0 hso
      rw [hX] at hXr
      simp only [hX, hp]
      obtain ⟨M, hM⟩ : ∃ M, magS (y - p) = M := ⟨_, rfl⟩
      rw [hM] at hMs0
      have hM0 : 0 ≤ M ∧ M ≤ 32768 := by subst hM; unfold magS; omega
      have hmag := fun W => Mag_any (y - p) W (by omega) (by omega)
      simp only [hM] at hmag
      have hNs := Lib.hid hN
      have hMs := Lib.hid hMs0
      have hXk := Lib.hid hX
      have hno : N < M → laidB s o = false := fun h => laidB_no (i := k) (by rw [hln.out]; exact hlt) (by rw [hN, hMs0]; exact h)
      have hok2 : M ≤ N → laidOK s o (k + 1) := fun h i hi => by
        by_cases h2 : i < k
        · exact hok i h2
        · obtain rfl : i = k := by omega
          rw [hN, hMs0]; exact h
      replace hno := Lib.hid hno
      replace hok2 := Lib.hid hok2
      replace hM := Lib.hid hM
      replace hp := Lib.hid hp
      replace hy := Lib.hid hy
      replace hsc := Lib.hid hsc
      obtain ⟨hN1, hN2, -⟩ := hso
      clear hX hN hMs0 hok
      have hk0 : (0 : Int) ≤ (k : Int) := by omega
      have hk1 : (k : Int) < (n : Int) := by omega
      subst hA
      subst hO
      obtain ⟨c3, f3, l3⟩ := k3w.rules
      by_cases hbig : N < M
      · have hv := hno.out hbig
        go_wp2_with fail
        refine (hmag _).mono ?_
        rintro e w' ⟨rfl, rfl⟩
        clear hmag
        replace hv := Lib.hid hv
        go_wp2
        go_ret2
        refine ⟨none, 0, 0, by rw [hv.out]; rfl, ?_, hb⟩
        rw [hv.out]
        exact SlAt.nil _ _ _ _
      · replace hok2 := Lib.hid (hok2.out (by omega))
        have m1 : M * M ≤ N * N := sq_mono hM0.1 (by omega)
        have m0 : 0 ≤ M * M := Int.mul_nonneg hM0.1 hM0.1
        have m2 : N * N ≤ 1000 * 1000 := sq_mono (by omega) hN2
        obtain ⟨hbb0, hbb1, hbb2⟩ := backS_bd (up := up) (h := M) hM0.1 (show M ≤ N by omega) (Int.le_refl _)
        have hbkb : 0 ≤ backS up N M ∧ backS up N M ≤ 1000 := ⟨hbb2, by omega⟩
        replace hbkb := Lib.hid hbkb
        have hroot := fun W => Root_any (N * N - M * M) W (by omega) (by omega)
        have hrb := rootS_bd (show 0 ≤ N * N - M * M by omega)
        have hrr : rootS (N * N - M * M) ≤ 1000 := by
          rcases Int.lt_or_le 1000 (rootS (N * N - M * M)) with h | h
          · have := sq_mono (show (0 : Int) ≤ 1001 by omega) (show 1001 ≤ rootS (N * N - M * M) by omega)
            omega
          · exact h
        have hr0 : 0 ≤ rootS (N * N - M * M) * rootS (N * N - M * M) := Int.mul_nonneg hrb.1 hrb.1
        clear hbb0 hbb1 hbb2
        obtain ⟨r, hr⟩ : ∃ r, rootS (N * N - M * M) = r := ⟨_, rfl⟩
        simp only [hr] at hroot hrb hrr hr0
        replace hr := Lib.hid hr
        have hbkb := hbkb.out
        go_wp2_with fail
        refine (hmag _).mono ?_
        rintro e w' ⟨rfl, rfl⟩
        clear hmag
        go_wp2_with fail
        refine (hroot _).mono ?_
        rintro e w' ⟨rfl, rfl⟩
        clear hroot
        cases up with
        | false =>
          have hbk : backS false N M = r := by unfold backS; rw [if_neg (by simp)]; exact hr.out
          have hXs : Hid (laidX s o false (k + 1) = X - (r)) := by show laidX s o false k - backS false (s.sec k).len (bendAt s o k) = _; rw [hNs.out, hMs.out, hXk.out, hbk]
          have hbk2 : 0 ≤ r ∧ r ≤ 1000 := by rw [← hbk]; exact hbkb
          have u1 := IntWalk.i64_in (X - (r)) (by omega)
          replace hbk := Lib.hid hbk
          go_wp2_with fail
          clear c3 f3 l3
          refine wp_held_np (fun w' : World => w'.cell? ⟨bO, oO + k, none⟩ = some (.int .i64 y) ∧ True) (by kernel_rfl) ?_
          replace k3w := k3w.drew
          replace hown : wr.drew.ownsRow _ _ _ _ _ _ := hown
          replace hb := hb.drew
          replace hsz : w.heap.size + 1 ≤ wr.drew.heap.size := hsz
          have hS : (fun w' : World => w'.cell? ⟨bO, oO + k, none⟩ = some (.int .i64 y) ∧ True) wr.drew := ⟨e0, trivial⟩
          generalize wr.drew = wd at *
          refine held_take (i := 0) (v := ?_) 76 rfl rfl (by kernel_rfl) (by kernel_rfl) (by kernel_rfl) (fun _ _ _ h => h) (Or.inl ⟨by rfl, ?_⟩) hS ?_
          rotate_left 1
          · intro w' hSw
            try dsimp only at hSw
            obtain ⟨q1, q2⟩ := hSw
            go_simp
            all_goals with_reducible rfl
          try simp only [Act.put, List.setIfInBounds_toArray, List.set_cons_zero, List.set_cons_succ]
          refine held_take (i := 1) (v := ?_) 77 rfl rfl (by kernel_rfl) (by kernel_rfl) (by kernel_rfl) (fun _ _ _ h => h) (Or.inl ⟨by rfl, ?_⟩) hS ?_
          rotate_left 1
          · intro w' hSw
            try dsimp only at hSw
            obtain ⟨q1, q2⟩ := hSw
            go_simp
            all_goals with_reducible rfl
          try simp only [Act.put, List.setIfInBounds_toArray, List.set_cons_zero, List.set_cons_succ]
          refine held_take (i := 2) (v := ?_) 78 rfl rfl (by kernel_rfl) (by kernel_rfl) (by kernel_rfl) (fun _ _ _ h => h) (Or.inl ⟨by rfl, ?_⟩) hS ?_
          rotate_left 1
          · intro w' hSw
            try dsimp only at hSw
            obtain ⟨q1, q2⟩ := hSw
            go_simp
            all_goals with_reducible rfl
          try simp only [Act.put, List.setIfInBounds_toArray, List.set_cons_zero, List.set_cons_succ]
          refine held_take (i := 3) (v := ?_) 79 rfl rfl (by kernel_rfl) (by kernel_rfl) (by kernel_rfl) (fun _ _ _ h => h) (Or.inl ⟨by rfl, ?_⟩) hS ?_
          rotate_left 1
          · intro w' hSw
            try dsimp only at hSw
            obtain ⟨q1, q2⟩ := hSw
            go_simp
            all_goals with_reducible rfl
          try simp only [Act.put, List.setIfInBounds_toArray, List.set_cons_zero, List.set_cons_succ]
          refine held_take (i := 4) (v := ?_) 80 rfl rfl (by kernel_rfl) (by kernel_rfl) (by kernel_rfl) (fun _ _ _ h => h) (Or.inl ⟨by rfl, ?_⟩) hS ?_
          rotate_left 1
          · intro w' hSw
            try dsimp only at hSw
            obtain ⟨q1, q2⟩ := hSw
            go_simp
            all_goals with_reducible rfl
          try simp only [Act.put, List.setIfInBounds_toArray, List.set_cons_zero, List.set_cons_succ]
          refine held_take (i := 5) (v := ?_) 81 rfl rfl (by kernel_rfl) (by kernel_rfl) (by kernel_rfl) (fun _ _ _ h => h) (Or.inl ⟨by rfl, ?_⟩) hS ?_
          rotate_left 1
          · intro w' hSw
            try dsimp only at hSw
            obtain ⟨q1, q2⟩ := hSw
            go_simp
            all_goals with_reducible rfl
          try simp only [Act.put, List.setIfInBounds_toArray, List.set_cons_zero, List.set_cons_succ]
          refine held_take (i := 6) (v := ?_) 82 rfl rfl (by kernel_rfl) (by kernel_rfl) (by kernel_rfl) (fun _ _ _ h => h) (Or.inl ⟨by rfl, ?_⟩) hS ?_
          rotate_left 1
          · intro w' hSw
            try dsimp only at hSw
            obtain ⟨q1, q2⟩ := hSw
            go_simp
            all_goals with_reducible rfl
          try simp only [Act.put, List.setIfInBounds_toArray, List.set_cons_zero, List.set_cons_succ]
          refine held_take (i := 7) (v := ?_) 9 rfl rfl (by kernel_rfl) (by kernel_rfl) (by kernel_rfl) (fun _ _ _ h => h) (Or.inl ⟨by rfl, ?_⟩) hS ?_
          rotate_left 1
          · intro w' hSw
            try dsimp only at hSw
            obtain ⟨q1, q2⟩ := hSw
            go_simp
            all_goals with_reducible rfl
          try simp only [Act.put, List.setIfInBounds_toArray, List.set_cons_zero, List.set_cons_succ]
          refine held_take (i := 8) (v := ?_) 10 rfl rfl (by kernel_rfl) (by kernel_rfl) (by kernel_rfl) (fun _ _ _ h => h) (Or.inl ⟨by rfl, ?_⟩) hS ?_
          rotate_left 1
          · intro w' hSw
            try dsimp only at hSw
            obtain ⟨q1, q2⟩ := hSw
            go_simp
            all_goals with_reducible rfl
          try simp only [Act.put, List.setIfInBounds_toArray, List.set_cons_zero, List.set_cons_succ]
          refine wpAnyH_done (by kernel_rfl) (noPanic_normal ?_) _
          clear hS u1
          generalize hX1 : X - (r) = X1 at *
          have hbig1 : Hid (k + 1 ≤ maxLen) := by show k + 1 ≤ maxLen; unfold maxLen; omega
          have hbig2 : Hid ((k + 1) * 16 ≤ 140737488355328) := by show (k + 1) * 16 ≤ 140737488355328; omega
          obtain ⟨i0, hi0, hz0, hz1, hz2⟩ := info_parts Tryz.infoPnt
          have hnews : ∀ (j : Nat) (u : Value), ([.int .i64 X1, .int .i64 y] : List Value)[j]? = some u → (wd.alloc (.cells #[.int .i64 X1, .int .i64 y] 59)).cell? ((⟨wd.heap.size, 0, none⟩ : Addr).add j) = some u :=
            World.news_of_block (cs := #[.int .i64 X1, .int .i64 y]) (World.alloc_heap_new wd _)
          have hownf := hown.alloc (.cells #[.int .i64 X1, .int .i64 y] 59)
          have hbf := hb.alloc hb.size (.cells #[.int .i64 X1, .int .i64 y] 59)
          have hszf : w.heap.size + 1 ≤ (wd.alloc (.cells #[.int .i64 X1, .int .i64 y] 59)).heap.size := by rw [World.size_alloc]; omega
          have k3f := k3w.alloc (.cells #[.int .i64 X1, .int .i64 y] 59)
          replace hX1 := Lib.hid hX1
          go_wp2_with (at_builtin; refine wpList_append_lies _ rfl (.tmp 83) (.tmp 87) 77 rfl (w.heap.size + 1) 59 i0 (.agg #[.int .i64 0, .int .i64 0]) 2 16 Tryz.underlying77 hi0 hz0 hz1 hz2 rfl (by decide) u8 k ((laidTo s o false k).flatMap Pnt.cells) rfl hownf ⟨wd.heap.size, 0, none⟩ 1 1 [.int .i64 X1, .int .i64 y] rfl rfl hnews (by simp [Value.oneCell']) (by decide) hbig1.out hbig2.out hszf (wd.heap.size + 1) (by simp) ?_; intro g cap w7 hown7 hgrow hlies hlt7)
          have hbg : Below (w.heap.size + 1) _ w7 := ⟨hgrow.os, hgrow.tape, hgrow.output, hgrow.size, fun b hb2 => hgrow.block b (Nat.lt_of_lt_of_le hb2 hszf) (fun e => by have := (hownf.lt _ e.symm).1; omega)⟩
          have k3g := k3f.belowB hbg (by omega)
          have hbh := hbf.trans (hbg.mono (by omega))
          have hszg : w.heap.size + 1 ≤ w7.heap.size := Nat.le_trans hszf hbg.size
          go_roundw
          case rel =>
            refine ⟨k + 1, by go_num, by omega, ?_, ?_, hok2.out, k3g, ?_, hbh, hszg⟩
            · rw [hXs.out]
            · rw [hpk.out]
            · have hnx : (laidTo s o false (k + 1)).flatMap Pnt.cells = (laidTo s o false k).flatMap Pnt.cells ++ [.int .i64 X1, .int .i64 y] := by
                rw [laidTo_succ, List.flatMap_append, hXs.out, hyd.out]; simp [Pnt.cells]
              rw [hnx]
              exact hown7
          case measure => simp [intOf]; omega
        | true =>
          by_cases hlt2 : r * r < N * N - M * M
          · skip
            have hbk : backS true N M = r + 1 := by unfold backS; rw [hr.out, if_pos ⟨rfl, hlt2⟩]
            have hXs : Hid (laidX s o true (k + 1) = X - (r + 1)) := by show laidX s o true k - backS true (s.sec k).len (bendAt s o k) = _; rw [hNs.out, hMs.out, hXk.out, hbk]
            have hbk2 : 0 ≤ r + 1 ∧ r + 1 ≤ 1000 := by rw [← hbk]; exact hbkb
            have u1 := IntWalk.i64_in (X - (r + 1)) (by omega)
            replace hbk := Lib.hid hbk
            go_wp2_with fail
            clear c3 f3 l3
            refine wp_held_np (fun w' : World => w'.cell? ⟨bO, oO + k, none⟩ = some (.int .i64 y) ∧ True) (by kernel_rfl) ?_
            replace k3w := k3w.drew
            replace hown : wr.drew.ownsRow _ _ _ _ _ _ := hown
            replace hb := hb.drew
            replace hsz : w.heap.size + 1 ≤ wr.drew.heap.size := hsz
            have hS : (fun w' : World => w'.cell? ⟨bO, oO + k, none⟩ = some (.int .i64 y) ∧ True) wr.drew := ⟨e0, trivial⟩
            generalize wr.drew = wd at *
            refine held_take (i := 0) (v := ?_) 76 rfl rfl (by kernel_rfl) (by kernel_rfl) (by kernel_rfl) (fun _ _ _ h => h) (Or.inl ⟨by rfl, ?_⟩) hS ?_
            rotate_left 1
            · intro w' hSw
              try dsimp only at hSw
              obtain ⟨q1, q2⟩ := hSw
              go_simp
              all_goals with_reducible rfl
            try simp only [Act.put, List.setIfInBounds_toArray, List.set_cons_zero, List.set_cons_succ]
            refine held_take (i := 1) (v := ?_) 77 rfl rfl (by kernel_rfl) (by kernel_rfl) (by kernel_rfl) (fun _ _ _ h => h) (Or.inl ⟨by rfl, ?_⟩) hS ?_
            rotate_left 1
            · intro w' hSw
              try dsimp only at hSw
              obtain ⟨q1, q2⟩ := hSw
              go_simp
              all_goals with_reducible rfl
            try simp only [Act.put, List.setIfInBounds_toArray, List.set_cons_zero, List.set_cons_succ]
            refine held_take (i := 2) (v := ?_) 78 rfl rfl (by kernel_rfl) (by kernel_rfl) (by kernel_rfl) (fun _ _ _ h => h) (Or.inl ⟨by rfl, ?_⟩) hS ?_
            rotate_left 1
            · intro w' hSw
              try dsimp only at hSw
              obtain ⟨q1, q2⟩ := hSw
              go_simp
              all_goals with_reducible rfl
            try simp only [Act.put, List.setIfInBounds_toArray, List.set_cons_zero, List.set_cons_succ]
            refine held_take (i := 3) (v := ?_) 79 rfl rfl (by kernel_rfl) (by kernel_rfl) (by kernel_rfl) (fun _ _ _ h => h) (Or.inl ⟨by rfl, ?_⟩) hS ?_
            rotate_left 1
            · intro w' hSw
              try dsimp only at hSw
              obtain ⟨q1, q2⟩ := hSw
              go_simp
              all_goals with_reducible rfl
            try simp only [Act.put, List.setIfInBounds_toArray, List.set_cons_zero, List.set_cons_succ]
            refine held_take (i := 4) (v := ?_) 80 rfl rfl (by kernel_rfl) (by kernel_rfl) (by kernel_rfl) (fun _ _ _ h => h) (Or.inl ⟨by rfl, ?_⟩) hS ?_
            rotate_left 1
            · intro w' hSw
              try dsimp only at hSw
              obtain ⟨q1, q2⟩ := hSw
              go_simp
              all_goals with_reducible rfl
            try simp only [Act.put, List.setIfInBounds_toArray, List.set_cons_zero, List.set_cons_succ]
            refine held_take (i := 5) (v := ?_) 81 rfl rfl (by kernel_rfl) (by kernel_rfl) (by kernel_rfl) (fun _ _ _ h => h) (Or.inl ⟨by rfl, ?_⟩) hS ?_
            rotate_left 1
            · intro w' hSw
              try dsimp only at hSw
              obtain ⟨q1, q2⟩ := hSw
              go_simp
              all_goals with_reducible rfl
            try simp only [Act.put, List.setIfInBounds_toArray, List.set_cons_zero, List.set_cons_succ]
            refine held_take (i := 6) (v := ?_) 82 rfl rfl (by kernel_rfl) (by kernel_rfl) (by kernel_rfl) (fun _ _ _ h => h) (Or.inl ⟨by rfl, ?_⟩) hS ?_
            rotate_left 1
            · intro w' hSw
              try dsimp only at hSw
              obtain ⟨q1, q2⟩ := hSw
              go_simp
              all_goals with_reducible rfl
            try simp only [Act.put, List.setIfInBounds_toArray, List.set_cons_zero, List.set_cons_succ]
            refine held_take (i := 7) (v := ?_) 9 rfl rfl (by kernel_rfl) (by kernel_rfl) (by kernel_rfl) (fun _ _ _ h => h) (Or.inl ⟨by rfl, ?_⟩) hS ?_
            rotate_left 1
            · intro w' hSw
              try dsimp only at hSw
              obtain ⟨q1, q2⟩ := hSw
              go_simp
              all_goals with_reducible rfl
            try simp only [Act.put, List.setIfInBounds_toArray, List.set_cons_zero, List.set_cons_succ]
            refine held_take (i := 8) (v := ?_) 10 rfl rfl (by kernel_rfl) (by kernel_rfl) (by kernel_rfl) (fun _ _ _ h => h) (Or.inl ⟨by rfl, ?_⟩) hS ?_
            rotate_left 1
            · intro w' hSw
              try dsimp only at hSw
              obtain ⟨q1, q2⟩ := hSw
              go_simp
              all_goals with_reducible rfl
            try simp only [Act.put, List.setIfInBounds_toArray, List.set_cons_zero, List.set_cons_succ]
            refine wpAnyH_done (by kernel_rfl) (noPanic_normal ?_) _
            clear hS u1
            generalize hX1 : X - (r + 1) = X1 at *
            have hbig1 : Hid (k + 1 ≤ maxLen) := by show k + 1 ≤ maxLen; unfold maxLen; omega
            have hbig2 : Hid ((k + 1) * 16 ≤ 140737488355328) := by show (k + 1) * 16 ≤ 140737488355328; omega
            obtain ⟨i0, hi0, hz0, hz1, hz2⟩ := info_parts Tryz.infoPnt
            have hnews : ∀ (j : Nat) (u : Value), ([.int .i64 X1, .int .i64 y] : List Value)[j]? = some u → (wd.alloc (.cells #[.int .i64 X1, .int .i64 y] 59)).cell? ((⟨wd.heap.size, 0, none⟩ : Addr).add j) = some u :=
              World.news_of_block (cs := #[.int .i64 X1, .int .i64 y]) (World.alloc_heap_new wd _)
            have hownf := hown.alloc (.cells #[.int .i64 X1, .int .i64 y] 59)
            have hbf := hb.alloc hb.size (.cells #[.int .i64 X1, .int .i64 y] 59)
            have hszf : w.heap.size + 1 ≤ (wd.alloc (.cells #[.int .i64 X1, .int .i64 y] 59)).heap.size := by rw [World.size_alloc]; omega
            have k3f := k3w.alloc (.cells #[.int .i64 X1, .int .i64 y] 59)
            replace hX1 := Lib.hid hX1
            go_wp2_with (at_builtin; refine wpList_append_lies _ rfl (.tmp 83) (.tmp 87) 77 rfl (w.heap.size + 1) 59 i0 (.agg #[.int .i64 0, .int .i64 0]) 2 16 Tryz.underlying77 hi0 hz0 hz1 hz2 rfl (by decide) u8 k ((laidTo s o true k).flatMap Pnt.cells) rfl hownf ⟨wd.heap.size, 0, none⟩ 1 1 [.int .i64 X1, .int .i64 y] rfl rfl hnews (by simp [Value.oneCell']) (by decide) hbig1.out hbig2.out hszf (wd.heap.size + 1) (by simp) ?_; intro g cap w7 hown7 hgrow hlies hlt7)
            have hbg : Below (w.heap.size + 1) _ w7 := ⟨hgrow.os, hgrow.tape, hgrow.output, hgrow.size, fun b hb2 => hgrow.block b (Nat.lt_of_lt_of_le hb2 hszf) (fun e => by have := (hownf.lt _ e.symm).1; omega)⟩
            have k3g := k3f.belowB hbg (by omega)
            have hbh := hbf.trans (hbg.mono (by omega))
            have hszg : w.heap.size + 1 ≤ w7.heap.size := Nat.le_trans hszf hbg.size
            go_roundw
            case rel =>
              refine ⟨k + 1, by go_num, by omega, ?_, ?_, hok2.out, k3g, ?_, hbh, hszg⟩
              · rw [hXs.out]
              · rw [hpk.out]
              · have hnx : (laidTo s o true (k + 1)).flatMap Pnt.cells = (laidTo s o true k).flatMap Pnt.cells ++ [.int .i64 X1, .int .i64 y] := by
                  rw [laidTo_succ, List.flatMap_append, hXs.out, hyd.out]; simp [Pnt.cells]
                rw [hnx]
                exact hown7
            case measure => simp [intOf]; omega
          · skip
            have hbk : backS true N M = r := by unfold backS; rw [hr.out, if_neg (fun h => hlt2 h.2)]
            have hXs : Hid (laidX s o true (k + 1) = X - (r)) := by show laidX s o true k - backS true (s.sec k).len (bendAt s o k) = _; rw [hNs.out, hMs.out, hXk.out, hbk]
            have hbk2 : 0 ≤ r ∧ r ≤ 1000 := by rw [← hbk]; exact hbkb
            have u1 := IntWalk.i64_in (X - (r)) (by omega)
            replace hbk := Lib.hid hbk
            go_wp2_with fail
            clear c3 f3 l3
            refine wp_held_np (fun w' : World => w'.cell? ⟨bO, oO + k, none⟩ = some (.int .i64 y) ∧ True) (by kernel_rfl) ?_
            replace k3w := k3w.drew
            replace hown : wr.drew.ownsRow _ _ _ _ _ _ := hown
            replace hb := hb.drew
            replace hsz : w.heap.size + 1 ≤ wr.drew.heap.size := hsz
            have hS : (fun w' : World => w'.cell? ⟨bO, oO + k, none⟩ = some (.int .i64 y) ∧ True) wr.drew := ⟨e0, trivial⟩
            generalize wr.drew = wd at *
            refine held_take (i := 0) (v := ?_) 76 rfl rfl (by kernel_rfl) (by kernel_rfl) (by kernel_rfl) (fun _ _ _ h => h) (Or.inl ⟨by rfl, ?_⟩) hS ?_
            rotate_left 1
            · intro w' hSw
              try dsimp only at hSw
              obtain ⟨q1, q2⟩ := hSw
              go_simp
              all_goals with_reducible rfl
            try simp only [Act.put, List.setIfInBounds_toArray, List.set_cons_zero, List.set_cons_succ]
            refine held_take (i := 1) (v := ?_) 77 rfl rfl (by kernel_rfl) (by kernel_rfl) (by kernel_rfl) (fun _ _ _ h => h) (Or.inl ⟨by rfl, ?_⟩) hS ?_
            rotate_left 1
            · intro w' hSw
              try dsimp only at hSw
              obtain ⟨q1, q2⟩ := hSw
              go_simp
              all_goals with_reducible rfl
            try simp only [Act.put, List.setIfInBounds_toArray, List.set_cons_zero, List.set_cons_succ]
            refine held_take (i := 2) (v := ?_) 78 rfl rfl (by kernel_rfl) (by kernel_rfl) (by kernel_rfl) (fun _ _ _ h => h) (Or.inl ⟨by rfl, ?_⟩) hS ?_
            rotate_left 1
            · intro w' hSw
              try dsimp only at hSw
              obtain ⟨q1, q2⟩ := hSw
              go_simp
              all_goals with_reducible rfl
            try simp only [Act.put, List.setIfInBounds_toArray, List.set_cons_zero, List.set_cons_succ]
            refine held_take (i := 3) (v := ?_) 79 rfl rfl (by kernel_rfl) (by kernel_rfl) (by kernel_rfl) (fun _ _ _ h => h) (Or.inl ⟨by rfl, ?_⟩) hS ?_
            rotate_left 1
            · intro w' hSw
              try dsimp only at hSw
              obtain ⟨q1, q2⟩ := hSw
              go_simp
              all_goals with_reducible rfl
            try simp only [Act.put, List.setIfInBounds_toArray, List.set_cons_zero, List.set_cons_succ]
            refine held_take (i := 4) (v := ?_) 80 rfl rfl (by kernel_rfl) (by kernel_rfl) (by kernel_rfl) (fun _ _ _ h => h) (Or.inl ⟨by rfl, ?_⟩) hS ?_
            rotate_left 1
            · intro w' hSw
              try dsimp only at hSw
              obtain ⟨q1, q2⟩ := hSw
              go_simp
              all_goals with_reducible rfl
            try simp only [Act.put, List.setIfInBounds_toArray, List.set_cons_zero, List.set_cons_succ]
            refine held_take (i := 5) (v := ?_) 81 rfl rfl (by kernel_rfl) (by kernel_rfl) (by kernel_rfl) (fun _ _ _ h => h) (Or.inl ⟨by rfl, ?_⟩) hS ?_
            rotate_left 1
            · intro w' hSw
              try dsimp only at hSw
              obtain ⟨q1, q2⟩ := hSw
              go_simp
              all_goals with_reducible rfl
            try simp only [Act.put, List.setIfInBounds_toArray, List.set_cons_zero, List.set_cons_succ]
            refine held_take (i := 6) (v := ?_) 82 rfl rfl (by kernel_rfl) (by kernel_rfl) (by kernel_rfl) (fun _ _ _ h => h) (Or.inl ⟨by rfl, ?_⟩) hS ?_
            rotate_left 1
            · intro w' hSw
              try dsimp only at hSw
              obtain ⟨q1, q2⟩ := hSw
              go_simp
              all_goals with_reducible rfl
            try simp only [Act.put, List.setIfInBounds_toArray, List.set_cons_zero, List.set_cons_succ]
            refine held_take (i := 7) (v := ?_) 9 rfl rfl (by kernel_rfl) (by kernel_rfl) (by kernel_rfl) (fun _ _ _ h => h) (Or.inl ⟨by rfl, ?_⟩) hS ?_
            rotate_left 1
            · intro w' hSw
              try dsimp only at hSw
              obtain ⟨q1, q2⟩ := hSw
              go_simp
              all_goals with_reducible rfl
            try simp only [Act.put, List.setIfInBounds_toArray, List.set_cons_zero, List.set_cons_succ]
            refine held_take (i := 8) (v := ?_) 10 rfl rfl (by kernel_rfl) (by kernel_rfl) (by kernel_rfl) (fun _ _ _ h => h) (Or.inl ⟨by rfl, ?_⟩) hS ?_
            rotate_left 1
            · intro w' hSw
              try dsimp only at hSw
              obtain ⟨q1, q2⟩ := hSw
              go_simp
              all_goals with_reducible rfl
            try simp only [Act.put, List.setIfInBounds_toArray, List.set_cons_zero, List.set_cons_succ]
            refine wpAnyH_done (by kernel_rfl) (noPanic_normal ?_) _
            clear hS u1
            generalize hX1 : X - (r) = X1 at *
            have hbig1 : Hid (k + 1 ≤ maxLen) := by show k + 1 ≤ maxLen; unfold maxLen; omega
            have hbig2 : Hid ((k + 1) * 16 ≤ 140737488355328) := by show (k + 1) * 16 ≤ 140737488355328; omega
            obtain ⟨i0, hi0, hz0, hz1, hz2⟩ := info_parts Tryz.infoPnt
            have hnews : ∀ (j : Nat) (u : Value), ([.int .i64 X1, .int .i64 y] : List Value)[j]? = some u → (wd.alloc (.cells #[.int .i64 X1, .int .i64 y] 59)).cell? ((⟨wd.heap.size, 0, none⟩ : Addr).add j) = some u :=
              World.news_of_block (cs := #[.int .i64 X1, .int .i64 y]) (World.alloc_heap_new wd _)
            have hownf := hown.alloc (.cells #[.int .i64 X1, .int .i64 y] 59)
            have hbf := hb.alloc hb.size (.cells #[.int .i64 X1, .int .i64 y] 59)
            have hszf : w.heap.size + 1 ≤ (wd.alloc (.cells #[.int .i64 X1, .int .i64 y] 59)).heap.size := by rw [World.size_alloc]; omega
            have k3f := k3w.alloc (.cells #[.int .i64 X1, .int .i64 y] 59)
            replace hX1 := Lib.hid hX1
            go_wp2_with (at_builtin; refine wpList_append_lies _ rfl (.tmp 83) (.tmp 87) 77 rfl (w.heap.size + 1) 59 i0 (.agg #[.int .i64 0, .int .i64 0]) 2 16 Tryz.underlying77 hi0 hz0 hz1 hz2 rfl (by decide) u8 k ((laidTo s o true k).flatMap Pnt.cells) rfl hownf ⟨wd.heap.size, 0, none⟩ 1 1 [.int .i64 X1, .int .i64 y] rfl rfl hnews (by simp [Value.oneCell']) (by decide) hbig1.out hbig2.out hszf (wd.heap.size + 1) (by simp) ?_; intro g cap w7 hown7 hgrow hlies hlt7)
            have hbg : Below (w.heap.size + 1) _ w7 := ⟨hgrow.os, hgrow.tape, hgrow.output, hgrow.size, fun b hb2 => hgrow.block b (Nat.lt_of_lt_of_le hb2 hszf) (fun e => by have := (hownf.lt _ e.symm).1; omega)⟩
            have k3g := k3f.belowB hbg (by omega)
            have hbh := hbf.trans (hbg.mono (by omega))
            have hszg : w.heap.size + 1 ≤ w7.heap.size := Nat.le_trans hszf hbg.size
            go_roundw
            case rel =>
              refine ⟨k + 1, by go_num, by omega, ?_, ?_, hok2.out, k3g, ?_, hbh, hszg⟩
              · rw [hXs.out]
              · rw [hpk.out]
              · have hnx : (laidTo s o true (k + 1)).flatMap Pnt.cells = (laidTo s o true k).flatMap Pnt.cells ++ [.int .i64 X1, .int .i64 y] := by
                  rw [laidTo_succ, List.flatMap_append, hXs.out, hyd.out]; simp [Pnt.cells]
                rw [hnx]
                exact hown7
            case measure => simp [intOf]; omega
    · obtain rfl : k = n := by omega
      have hlb : laidB s o = true := laidB_yes (by rw [hln.out]; exact hok)
      have hll : laidTo s o up k = laidL s o up := by unfold laidL; rw [hln.out]
      rw [hll] at hown
      obtain ⟨P, pc, e2, h2⟩ := SlAt.of_own (enc := Pnt.cells) hown (by omega) (laidL s o up) rfl (fun _ => rfl) (by unfold laidL; rw [laidTo_len]; exact hln.out)
      subst e2
      replace hlb := Lib.hid hlb
      replace hll := Lib.hid hll
      replace hok := Lib.hid hok
      clear hown
      go_wp2
      go_ret2
      refine ⟨P, k, pc, by rw [hlb.out]; rfl, ?_, hb⟩
      rw [hlb.out, if_pos rfl]
      exact h2.mono (by omega)
end Go.Proofs.YtjiaepphnddpoaaGreat
namespace Go.Proofs.YtjiaepphnddpoaaGreat
open Go.RowKit Go.Shelf
set_option linter.unusedSimpArgs false
set_option linter.unusedVariables false
structure IlD where
  xs : List Int
  O : Option Addr
  n : Nat
  c : Nat
def IlD.cells (d : IlD) : List Value := [.slice d.O d.n d.c]
def IlOk (w : World) (d : IlD) : Prop := SlAt w 0 1 ivs d.O d.n d.c d.xs
theorem SlAt.ild {w : World} {B n c k : Nat} {A : Option Addr} {xs : List IlD} {d : IlD} (h : SlAt w B 1 IlD.cells A n c xs) (hk : xs[k]? = some d) :
    ∃ b off, A = some ⟨b, off, none⟩ ∧ B ≤ b ∧ b < w.heap.size ∧ w.cell? ⟨b, off + k, none⟩ = some (.slice d.O d.n d.c) := by
  obtain ⟨b, off, hA, hB, hb, hc⟩ := h.at_ hk
  refine ⟨b, off, hA, hB, hb, ?_⟩
  have := hc 0 _ rfl
  simpa using this
def LiT (bss : List (List Bnd)) (tr : List IlD) : Prop := tr.length = bss.length ∧ ∀ (i : Nat) (o : IlD) (b : List Bnd), tr[i]? = some o → bss[i]? = some b → Lies o.xs b
theorem LiT.set {b1 b0 : List (List Bnd)} {tr : List IlD} {i : Nat} {b : List Bnd} {o : IlD} (hl : b1.length = b0.length) (h : LiT (b1.take i ++ b0.drop i) tr) (hb : b1[i]? = some b) (ho : Lies o.xs b) : LiT (b1.take (i + 1) ++ b0.drop (i + 1)) (tr.set i o) := by
  have hi : i < b1.length := (List.getElem?_eq_some_iff.1 hb).1
  have hlen : tr.length = b1.length := by rw [h.1]; simp; omega
  refine ⟨by rw [List.length_set, hlen]; simp; omega, fun k q c hq hc => ?_⟩
  rw [List.getElem?_set] at hq
  by_cases e : i = k
  · subst e
    rw [if_pos rfl, if_pos (by omega)] at hq
    simp only [Option.some.injEq] at hq
    subst hq
    rw [List.getElem?_append_left (by simp; omega), List.getElem?_take_of_lt (by omega), hb] at hc
    simp only [Option.some.injEq] at hc
    subst hc
    exact ho
  · rw [if_neg e] at hq
    refine h.2 k q c hq ?_
    by_cases hk : k < i
    · rw [List.getElem?_append_left (by simp; omega), List.getElem?_take_of_lt (by omega)] at hc
      rw [List.getElem?_append_left (by simp; omega), List.getElem?_take_of_lt hk]
      exact hc
    · rw [List.getElem?_append_right (by simp; omega), List.getElem?_drop, List.length_take] at hc
      rw [List.getElem?_append_right (by simp; omega), List.getElem?_drop, List.length_take]
      rw [show i + (k - min i b1.length) = k by omega]
      rw [show i + 1 + (k - min (i + 1) b1.length) = k by omega] at hc
      exact hc
theorem LiT.all {b1 b0 : List (List Bnd)} {tr : List IlD} {n : Nat} (hl : b1.length = n) (hl2 : b0.length = n) (h : LiT (b1.take n ++ b0.drop n) tr) : LiT b1 tr := by
  rw [List.take_of_length_le (by omega), List.drop_eq_nil_of_le (by omega), List.append_nil] at h; exact h
theorem fstN_at {p : Nat → Bool} : ∀ k, 0 ≤ fstN p k → p (fstN p k).toNat = true
  | 0, h => by simp [fstN] at h
  | k + 1, h => by
    rw [fstN_step] at *
    by_cases h0 : 0 ≤ fstN p k
    · rw [if_pos h0] at *; exact fstN_at k h0
    · rw [if_neg h0] at *
      cases hp : p k with
      | true => rw [hp] at h; simp [hp]
      | false => rw [hp] at h; simp at h
theorem fstN_mono {p q : Nat → Bool} {k : Nat} (h : ∀ t, p t = true → q t = true) (h0 : 0 ≤ fstN p k) : 0 ≤ fstN q k ∧ fstN q k ≤ fstN p k := by
  have h1 := h _ (fstN_at k h0)
  have h2 := fstN_bd p k
  have h3 := fstN_hit h1 k (by omega)
  omega
theorem fstN_before {p : Nat → Bool} {k t : Nat} (ht : t < k) (h : fstN p k < 0 ∨ (t : Int) < fstN p k) : p t = false := by
  cases hp : p t with
  | false => rfl
  | true => have := fstN_hit hp k ht; omega
theorem hit_mono {ds : List StD} {bss : List (List Bnd)} {v u : Int} (h0 : 0 ≤ v) (h : v ≤ u) (hh : hitJ ds v bss = true) : hitJ ds u bss = true := by
  unfold hitJ at *
  obtain ⟨a, ha, h1⟩ := List.any_eq_true.1 hh
  obtain ⟨k, hk, h2⟩ := List.any_eq_true.1 h1
  refine List.any_eq_true.2 ⟨a, ha, List.any_eq_true.2 ⟨k, hk, ?_⟩⟩
  unfold pairH at *
  have := of_decide_eq_true h2
  have := sq_mono h0 h
  exact decide_eq_true (by omega)
theorem tanS_bd (ds : List StD) (bss : List (List Bnd)) (ws : List Wat) (v : Int) : -1 ≤ tanS ds bss ws v ∧ tanS ds bss ws v ≤ ws.length := by
  have := fstN_bd (fun j => hitJ ds v (stAt ds bss ws j)) (ws.length + 1)
  unfold tanS; omega
theorem tanS_mono {ds : List StD} {bss : List (List Bnd)} {ws : List Wat} {v u : Int} (h0 : 0 ≤ v) (h : v ≤ u) (hn : 0 ≤ tanS ds bss ws v) : 0 ≤ tanS ds bss ws u ∧ tanS ds bss ws u ≤ tanS ds bss ws v :=
  fstN_mono (fun t ht => hit_mono h0 h ht) hn
theorem tanS_before {ds : List StD} {bss : List (List Bnd)} {ws : List Wat} {v : Int} {t : Nat} (ht : t ≤ ws.length) (h : tanS ds bss ws v < 0 ∨ (t : Int) < tanS ds bss ws v) : hitJ ds v (stAt ds bss ws t) = false :=
  fstN_before (by omega) h
theorem tangR_err {ds : List StD} {es : List BdD} {ws : List Wat} {v : Int} (h : (tangR ds es ws v).2 ≠ 0) : (tangR ds es ws v).1 = 0 := by
  unfold tangR at *
  split
  · split
    · split
      · rename_i h1 h2 h3
        rw [if_pos h1, if_pos h2, if_pos h3] at h; exact absurd rfl h
      · rfl
    · rfl
  · rfl
theorem tangR_ok {ds : List StD} {es : List BdD} {ws : List Wat} {v : Int} (h : (tangR ds es ws v).2 = 0) : sprOk ds es = true ∧ chkWats ws = 0 ∧ (0 ≤ v ∧ v ≤ 32768) ∧ tangR ds es ws v = (tanS ds (es.map (·.bs)) ws v, 0) := by
  unfold tangR at *
  by_cases h1 : sprOk ds es = true
  · by_cases h2 : chkWats ws = 0
    · by_cases h3 : 0 ≤ v ∧ v ≤ 32768
      · rw [if_pos h1, if_pos h2, if_pos h3]; exact ⟨h1, h2, h3, rfl⟩
      · rw [if_pos h1, if_pos h2, if_neg h3] at h; cases h
    · rw [if_pos h1, if_neg h2] at h; exact absurd h h2
  · rw [if_neg h1] at h; cases h
theorem tangR_more {ds : List StD} {es : List BdD} {ws : List Wat} {v : Int} (h : (tangR ds es ws v).2 = 0) : tangR ds es ws (min 32768 (v + 1)) = (tanS ds (es.map (·.bs)) ws (min 32768 (v + 1)), 0) := by
  obtain ⟨h1, h2, h3, -⟩ := tangR_ok h
  unfold tangR
  rw [if_pos h1, if_pos h2, if_pos (by omega)]
theorem okWats_acr {ws : List Wat} {x : Wat} {j : Nat} (h : chkWats ws = 0) (hx : ws[j]? = some x) : okBnd 100 x.acr = true := by
  have hww : okWats ws = true := by unfold chkWats at h; split at h; assumption; cases h
  unfold okWats at hww
  simp only [Bool.and_eq_true] at hww
  have := List.all_eq_true.1 hww.2 x (List.mem_of_getElem? hx)
  unfold okWat at this
  simp only [Bool.and_eq_true] at this
  exact this.1
theorem okT_get {ds : List StD} {bss : List (List Bnd)} {i : Nat} {d : StD} (h : okT ds bss) (hd : ds[i]? = some d) : ∃ b, bss[i]? = some b ∧ okStrm d.s = true ∧ okOffs d.s b = true := by
  obtain ⟨b, hb⟩ := some_of_lt h.1 (List.getElem?_eq_some_iff.1 hd).1
  exact ⟨b, hb, h.2 i d b hd hb⟩
theorem nAt_get {ds : List StD} {bss : List (List Bnd)} {i : Nat} {d : StD} {b : List Bnd} (hd : ds[i]? = some d) (hb : bss[i]? = some b) : nAt ds bss i = nodesL d.s b := by
  unfold nAt; rw [hd, hb]
theorem laid_at {s : Strm} {o : List Int} {bs : List Bnd} {up : Bool} {i : Nat} {p : Pnt} (hs : okStrm s = true) (hb : okOffs s bs = true) (hL : Lies o bs) (hd : laidB s o = true) (hp : (laidL s o up)[i]? = some p) :
    okPnt p = true ∧ ∃ x ∈ nodesL s bs, inR p x := by
  have hi : i < o.length := by have := (List.getElem?_eq_some_iff.1 hp).1; unfold laidL at this; rwa [laidTo_len] at this
  obtain ⟨-, h2, h3⟩ := laid_node up hs hb hL hd hi
  rw [laidL_at s o up hi] at hp
  simp only [Option.some.injEq] at hp
  subst hp
  exact ⟨h2, _, List.mem_of_getElem? (nodesL_at s bs (by have := hL.1; omega)), h3⟩
theorem clear_said {ds : List StD} {bss : List (List Bnd)} {v : Int} {a k i j : Nat} {d1 d2 : StD} {b1 b2 : List Bnd} {o1 o2 : List Int} {p q : Pnt} (hn : hitJ ds v bss = false) (hk : k < a)
    (hd1 : ds[a]? = some d1) (hd2 : ds[k]? = some d2) (hb1 : bss[a]? = some b1) (hb2 : bss[k]? = some b2) (hok : okT ds bss) (hL1 : Lies o1 b1) (hL2 : Lies o2 b2)
    (hl1 : laidB d1.s o1 = true) (hl2 : laidB d2.s o2 = true) (hp : (laidL d1.s o1 false)[i]? = some p) (hq : (laidL d2.s o2 false)[j]? = some q) : ¬ dist2 p q < v * v := by
  intro hlt
  obtain ⟨h1, h2⟩ := hok.2 a d1 b1 hd1 hb1
  obtain ⟨h3, h4⟩ := hok.2 k d2 b2 hd2 hb2
  obtain ⟨-, x, hx, hpx⟩ := laid_at h1 h2 hL1 hl1 hp
  obtain ⟨-, y, hy, hqy⟩ := laid_at h3 h4 hL2 hl2 hq
  have hh : hitJ ds v bss = true := by
    refine hit_true (List.getElem?_eq_some_iff.1 hd1).1 hk ?_
    unfold pairH
    rw [nAt_get hd1 hb1, nAt_get hd2 hb2]
    have := app_lo hx hy
    have := (gap_holds hpx hqy).1
    exact decide_eq_true (by omega)
  rw [hn] at hh; cases hh
theorem clear_step {d : StD} {b : List Bnd} {o bits : List Int} {x : Bnd} (fr : Int) (hs : okStrm d.s = true) (hb : okOffs d.s b = true) (hx : okBnd 100 x = true) (hL : Lies o b) :
    stepR d.s o (drTo x bits fr d.s.secs.length) = (stepL d.s o (drTo x bits fr d.s.secs.length), 0) ∧ Lies (stepL d.s o (drTo x bits fr d.s.secs.length)) (encL d.s b x) ∧ (stepL d.s o (drTo x bits fr d.s.secs.length)).length = d.s.secs.length := by
  have hn := okOffs_len hb
  refine ⟨stepR_ok hs (okNums_of_lies hn hL (okOffs_all hb)) (drTo_ok bits fr hx), hL.step hs hn fun i hi => drTo_in bits fr _ (by omega) hx (by omega), ?_⟩
  rw [stepL_length, hL.1, hn]
theorem stepB_at {ds : List StD} {bss : List (List Bnd)} {x : Bnd} {i : Nat} {d : StD} {b : List Bnd} (hd : ds[i]? = some d) (hb : bss[i]? = some b) : (stepB ds bss x)[i]? = some (encL d.s b x) := by
  unfold stepB; rw [List.getElem?_zipWith, hd, hb]
theorem stepB_len {ds : List StD} {bss : List (List Bnd)} (x : Bnd) (h : okT ds bss) : (stepB ds bss x).length = bss.length := by
  unfold stepB; rw [List.length_zipWith, h.1]; omega
end Go.Proofs.YtjiaepphnddpoaaGreat
