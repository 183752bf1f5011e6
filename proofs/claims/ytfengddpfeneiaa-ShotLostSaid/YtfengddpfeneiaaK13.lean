/-
  The law ShotLost.
-/
import Derived.Test.YtfengddpfeneiaaS25
import Derived.Test.YtfengddpfeneiaaS28
import Derived.Test.YtfengddpfeneiaaS30
import Derived.Test.YtfengddpfeneiaaQ16
import Derived.Test.YtfengddpfeneiaaQ17
import Derived.Deep.Cut
namespace Go.Proofs.Ytfengddpfeneiaa
open Go.RowKit Go.Shelf
set_option linter.unusedSimpArgs false
set_option linter.unusedVariables false

theorem Try.infoGun : (Try.prog.info? 74).map (fun i => (i.zero, i.size, i.bytes)) = some (some (.agg #[.int .i64 0, .int .i64 0, .int .i64 0, .int .i64 0]), 4, 32) := by kernel_rfl
theorem LLs.at_ {W : World} {B : Nat} {O : Option Addr} {no co : Nat} {L : List (List Int)} (h : LLs W B O no co L) {i : Nat} {l : List Int} (hi : L[i]? = some l) :
    ∃ b off A m d, O = some ⟨b, off, none⟩ ∧ b < W.heap.size ∧ W.cell? ⟨b, off + i, none⟩ = some (.slice A m d) ∧ SlAt W B 1 ivs A m d l := by
  obtain ⟨h1, vs, h2, h3⟩ := h
  have hl := (List.getElem?_eq_some_iff.1 hi).1
  obtain ⟨v, hv⟩ := some_of_lt (xs := vs) h2.len (show i < no by omega)
  obtain ⟨A, m, d, rfl, hA⟩ := h3 i v l hv hi
  obtain ⟨b, off, hO, hB, hb, hc⟩ := h2.at_ hv
  have h0 := hc 0 _ rfl
  exact ⟨b, off, A, m, d, hO, hb, by simpa using h0, hA⟩
theorem loss_new {a : Arr} {l0 : Int} {i : Nat} {x : List Int} (hi : (lossS a l0 3)[i]? = some x) : 1 ≤ (x.length : Int) ∧ (x.length : Int) ≤ min 3 ((a.gs.length : Int) - 1) := by
  have := (loss_found a l0 (min 3 ((a.gs.length : Int) - 1)).toNat).new x (List.mem_of_getElem? hi)
  omega
theorem loss_apart {a : Arr} {l0 : Int} {i k : Nat} {x y : List Int} (hi : (lossS a l0 3)[i]? = some x) (hk : (lossS a l0 3)[k]? = some y) (hne : i ≠ k) : hasAll x y = false :=
  found_apart (loss_found a l0 _) hi hk hne
theorem loss_more {a : Arr} {l1 l2 : Int} (hl : l1 ≤ l2) {i : Nat} {y : List Int} (hy : (lossS a l2 3)[i]? = some y) : holdsOne (lossS a l1 3) y = true :=
  found_more (loss_found a l1 _) (loss_found a l2 _) hl (List.mem_of_getElem? hy)
set_option maxRecDepth 100000 in
set_option maxHeartbeats 8000000 in
theorem ShotLost_any (a : Arr) (l0 l1 : Int) (S G O : Option Addr) (ns cs ng cg no co : Nat) (loss : List Int) (w : World) (hS : SlAt w 0 1 ivs S ns cs a.sh) (hG : SlAt w 0 4 Gun.cells G ng cg a.gs) (ho : SlAt w 0 1 ivs O no co loss) :
    Calls Try.prog 10 #[.agg #[.slice S ns cs, .slice G ng cg], .agg #[.int .i64 l0, .int .i64 l1], .slice O no co] w fun e w' => e = .returned (.bool true) ∧ Below w.heap.size w w' := by
  have h1 := fun W h h' => Losses_any a l0 3 S G ns cs ng cg W h h'
  unfold RetLo at h1
  have hsl := Lib.hid hS.len
  have hgl := Lib.hid hG.len
  have hol := Lib.hid ho.len
  have hob := ho.le
  obtain ⟨w1, hw1⟩ : ∃ w1, w1 = (w.alloc (.cells #[.slice S ns cs, .slice G ng cg] 25)).alloc (.cells #[.int .i64 l0, .int .i64 l1] 79) := ⟨_, rfl⟩
  have k3 : Blk w1 w.heap.size 25 #[.slice S ns cs, .slice G ng cg] := by rw [hw1]; exact (Blk.new _ _ _).alloc _
  have k4 : Blk w1 (w.heap.size + 1) 79 #[.int .i64 l0, .int .i64 l1] := by rw [hw1]; have := Blk.new (w.alloc (.cells #[.slice S ns cs, .slice G ng cg] 25)) 79 #[.int .i64 l0, .int .i64 l1]; simpa using this
  have b : Below w.heap.size w w1 := by rw [hw1]; exact ((Below.refl _ _).alloc (Nat.le_refl _) _).alloc (by simp) _
  have hS1 : SlAt w1 0 1 ivs S ns cs a.sh := by rw [hw1]; exact (hS.alloc _).alloc _
  have hG1 : SlAt w1 0 4 Gun.cells G ng cg a.gs := by rw [hw1]; exact (hG.alloc _).alloc _
  have ho1 : SlAt w1 0 1 ivs O no co loss := by rw [hw1]; exact (ho.alloc _).alloc _
  clear hS hG ho
  by_cases hc : okArr a = true ∧ 0 ≤ l0
  · obtain ⟨ha, hl0⟩ := hc
    have hv1 : lossR a l0 3 = (lossS a l0 3, 0) := by unfold lossR; rw [if_pos ha, if_pos (by omega)]
    simp only [hv1] at h1
    clear hv1
    have har := okArr_len ha
    unfold arrLen at har
    rw [hsl.out, hgl.out] at har
    obtain ⟨r1, r2, r3, r4⟩ := har
    have hnew := Lib.hid (fun (i : Nat) (x : List Int) (h : (lossS a l0 3)[i]? = some x) => show 1 ≤ (x.length : Int) ∧ (x.length : Int) ≤ min 3 ((ng : Int) - 1) by have := loss_new h; rw [hgl.out] at this; exact this)
    have hapt := Lib.hid (fun (i k : Nat) (x y : List Int) (h : (lossS a l0 3)[i]? = some x) (h' : (lossS a l0 3)[k]? = some y) (hn : i ≠ k) => loss_apart h h' hn)
    have hmin := min2_int
    have u1 := IntWalk.i64_in ((ng : Int) - 1) (by omega)
    go_enter Try.func10, Try.ntmps10
    go_upto_region 1 with fail
    rw [← hw1]
    clear hw1
    obtain ⟨c3, f3, l3⟩ := k3.rules
    obtain ⟨c4, f4, l4⟩ := k4.rules
    go_wp2_with fail
    refine (h1 _ hS1 hG1).mono ?_
    rintro e W ⟨L, nl, cl, rfl, hL, hb⟩
    clear c3 f3 l3 c4 f4 l4 h1
    replace k3 := k3.below hb
    replace k4 := k4.below hb
    replace b := b.trans (hb.mono b.size)
    replace hS1 := hS1.below hb
    replace hG1 := hG1.below hb
    replace ho1 := ho1.below hb
    clear hb
    have hLl := Lib.hid hL.1
    have hLn := hL.le
    replace hL := hL.mono (Nat.zero_le _)
    go_wp2_with fail
    go_loopw [9] (fun i wr => ∃ k : Nat, i = .int .i64 (k : Int) ∧ k ≤ nl ∧ Below W.heap.size W wr) (fun i wr => nl - (intOf i).toNat)
    case atStart => exact ⟨0, rfl, Nat.zero_le _, Below.refl _ _⟩
    case round =>
      obtain ⟨i, rfl, hi, hb9⟩ := hrel
      by_cases hlt : i < nl
      · have hi0 : (0 : Int) ≤ (i : Int) := by omega
        have hi1 : (i : Int) < (nl : Int) := by omega
        obtain ⟨x, hx⟩ := some_of_lt hLl.out hlt
        obtain ⟨bq, oq, A, m, d, hA, -, x0, hX⟩ := (hL.below hb9).at_ hx
        have hxm := hX.len
        have hn := hnew.out i x hx
        rw [hxm] at hn
        have k3r := k3.below hb9
        obtain ⟨c3, f3, l3⟩ := k3r.rules
        have hmn := fun ats ty => min2_int ats ty 3 ((ng : Int) - 1)
        generalize min (3 : Int) ((ng : Int) - 1) = mm at *
        have hB := fun W => flip_w (show Calls _ _ _ _ _ from by have := Between_any (m : Int) 1 mm W; rw [decide_eq_true hn] at this; exact this)
        replace hx := Lib.hid hx
        subst hA
        clear hn hxm hmin
        go_wp2_with fail
        go_quiet ((go_at_call 54; with_reducible exact Calls.quiet_of_same (hB _)))
        replace hX := hX.drewN nq
        replace hb9 := below_drewN hb9 nq
        clear c3 f3 l3 k3r x0 hB hmn
        generalize wr.drewN nq = V at *
        clear wr
        go_wp2_with fail
        go_loopw [10] (fun k wr => ∃ j : Nat, k = .int .i64 (j : Int) ∧ j ≤ nl ∧ Below V.heap.size V wr) (fun k wr => nl - (intOf k).toNat)
        case atStart => exact ⟨0, rfl, Nat.zero_le _, Below.refl _ _⟩
        case round =>
          obtain ⟨j, rfl, hj, hb10⟩ := hrel
          by_cases hlt2 : j < nl
          · have hj0 : (0 : Int) ≤ (j : Int) := by omega
            have hj1 : (j : Int) < (nl : Int) := by omega
            obtain ⟨y, hy⟩ := some_of_lt hLl.out hlt2
            have hL2 := (hL.below hb9).below hb10
            obtain ⟨bq1, oq1, A1, m1, d1, hA1, -, x1, hX1⟩ := hL2.at_ hx.out
            obtain ⟨bq2, oq2, A2, m2, d2, hA2, -, y1, hY⟩ := hL2.at_ hy
            cases hA1
            cases hA2
            by_cases hij : i = j
            · have g1 : ((i : Int) = (j : Int)) = True := eq_true (by omega)
              have g2 : ((i : Int) == (j : Int)) = true := by rw [beq_iff_eq]; omega
              replace hij := Lib.hid hij
              replace hy := Lib.hid hy
              go_wp2_with fail
              go_quiet ((go_at_call 56; with_reducible exact Calls.quiet_of_same (hW _)))
              go_wp2_with fail
              go_roundw
              case rel => exact ⟨j + 1, by go_num, by omega, below_drewN hb10 _⟩
              case measure => simp [intOf]; omega
            · have g1 : ((i : Int) = (j : Int)) = False := eq_false (by omega)
              have g2 : ((i : Int) == (j : Int)) = false := by rw [beq_eq_false_iff_ne]; omega
              have hap := hapt.out i j x y hx.out hy hij
              have hW := fun n => flip_w (within_any A1 A2 m1 d1 m2 d2 0 0 x y (wr.drewN n) (hX1.drewN n) (hY.drewN n))
              rw [hap] at hW
              replace hij := Lib.hid hij
              replace hy := Lib.hid hy
              clear hap
              go_wp2_with fail
              go_quiet ((go_at_call 56; with_reducible exact Calls.quiet_of_same (hW _)))
              go_wp2_with fail
              go_roundw
              case rel => exact ⟨j + 1, by go_num, by omega, below_drewN hb10 _⟩
              case measure => simp [intOf]; omega
          · obtain rfl : j = nl := by omega
            go_wp2_with fail
            go_roundw
            case rel => exact ⟨i + 1, by go_num, by omega, hb9.trans (hb10.mono hb9.size)⟩
            case measure => simp [intOf]; omega
      · obtain rfl : i = nl := by omega
        have hb := hb9
        replace hL := hL.below hb9
        replace k3 := k3.below hb
        replace k4 := k4.below hb
        replace b := b.trans (hb.mono b.size)
        replace hS1 := hS1.below hb
        replace hG1 := hG1.below hb
        replace ho1 := ho1.below hb
        clear hb hb9 hnew hapt hlt hi
        go_wp2_with fail
        have hrb := restS_bd l1 (many := 1000) (by omega)
        have hRr := fun W => Rest_any l1 1000 W (by omega)
        have hmn2 := fun ats ty => min2_int ats ty 1099511627776 l0
        obtain ⟨l2, hl2⟩ : ∃ l2, l2 = min 1099511627776 l0 + restS l1 1000 := ⟨_, rfl⟩
        have hl2p : 0 ≤ l2 := by omega
        have hl2q : l0 ≤ 1099511627776 → l0 ≤ l2 := fun h => by omega
        have h2 := fun W h h' => Losses_any a l2 3 S G ns cs ng cg W h h'
        have hv2 : lossR a l2 3 = (lossS a l2 3, 0) := by unfold lossR; rw [if_pos ha, if_pos (by omega)]
        unfold RetLo at h2
        simp only [hv2] at h2
        have u2 : IntKind.i64.wrap (min 1099511627776 l0 + restS l1 1000) = l2 := by rw [hl2]; exact IntWalk.i64_in _ (by omega)
        have hmor := Lib.hid (fun (hh : l0 ≤ 1099511627776) (i : Nat) (y : List Int) (h : (lossS a l2 3)[i]? = some y) => loss_more (hl2q hh) h)
        clear hv2 hrb hl2 hl2q
        generalize restS l1 1000 = rr at *
        refine wp_held_np (fun w' : World => (∀ j, w'.cell? ⟨w.heap.size, j, none⟩ = #[Value.slice S ns cs, .slice G ng cg][j]?) ∧ (∀ j, w'.cell? ⟨w.heap.size + 1, j, none⟩ = #[Value.int .i64 l0, .int .i64 l1][j]?)) (by kernel_rfl) ?_
        replace k3 := k3.drew
        replace k4 := k4.drew
        replace b := b.drew
        replace hS1 := hS1.drew
        replace hG1 := hG1.drew
        replace ho1 := ho1.drew
        replace hL : LLs wr.drew _ _ _ _ _ := hL
        generalize wr.drew = wd at *
        have hSx : (fun w' : World => (∀ j, w'.cell? ⟨w.heap.size, j, none⟩ = #[Value.slice S ns cs, .slice G ng cg][j]?) ∧ (∀ j, w'.cell? ⟨w.heap.size + 1, j, none⟩ = #[Value.int .i64 l0, .int .i64 l1][j]?)) wd := ⟨k3.cell, k4.cell⟩
        refine held_take (i := 0) (v := ?_) 78 rfl rfl (by kernel_rfl) (by kernel_rfl) (by kernel_rfl) (fun _ _ _ h => h) (Or.inl ⟨by rfl, ?_⟩) hSx ?_
        rotate_left 1
        · intro w' hSw
          try dsimp only at hSw
          obtain ⟨q1, q2⟩ := hSw
          go_simp
          all_goals with_reducible rfl
        try simp only [Act.put, List.setIfInBounds_toArray, List.set_cons_zero, List.set_cons_succ]
        refine held_take (i := 1) (v := ?_) 79 rfl rfl (by kernel_rfl) (by kernel_rfl) (by kernel_rfl) (fun _ _ _ h => h) (Or.inl ⟨by rfl, ?_⟩) hSx ?_
        rotate_left 1
        · intro w' hSw
          try dsimp only at hSw
          obtain ⟨q1, q2⟩ := hSw
          go_simp
          all_goals with_reducible rfl
        try simp only [Act.put, List.setIfInBounds_toArray, List.set_cons_zero, List.set_cons_succ]
        refine held_take (i := 2) (v := ?_) 80 rfl rfl (by kernel_rfl) (by kernel_rfl) (by kernel_rfl) (fun _ _ _ h => h) (Or.inl ⟨by rfl, ?_⟩) hSx ?_
        rotate_left 1
        · intro w' hSw
          try dsimp only at hSw
          obtain ⟨q1, q2⟩ := hSw
          go_simp
          all_goals with_reducible rfl
        try simp only [Act.put, List.setIfInBounds_toArray, List.set_cons_zero, List.set_cons_succ]
        refine held_take (i := 3) (v := ?_) 81 rfl rfl (by kernel_rfl) (by kernel_rfl) (by kernel_rfl) (fun _ _ _ h => h) (Or.inl ⟨by rfl, ?_⟩) hSx ?_
        rotate_left 1
        · intro w' hSw
          try dsimp only at hSw
          obtain ⟨q1, q2⟩ := hSw
          go_simp
          all_goals with_reducible rfl
        try simp only [Act.put, List.setIfInBounds_toArray, List.set_cons_zero, List.set_cons_succ]
        refine held_take (i := 4) (v := ?_) 82 rfl rfl (by kernel_rfl) (by kernel_rfl) (by kernel_rfl) (fun _ _ _ h => h) (Or.inl ⟨by rfl, ?_⟩) hSx ?_
        rotate_left 1
        · intro w' hSw
          try dsimp only at hSw
          obtain ⟨q1, q2⟩ := hSw
          go_simp
          all_goals with_reducible rfl
        try simp only [Act.put, List.setIfInBounds_toArray, List.set_cons_zero, List.set_cons_succ]
        refine held_take (i := 5) (v := ?_) 83 rfl rfl (by kernel_rfl) (by kernel_rfl) (by kernel_rfl) (fun _ _ _ h => h) (Or.inl ⟨by rfl, ?_⟩) hSx ?_
        rotate_left 1
        · intro w' hSw
          try dsimp only at hSw
          obtain ⟨q1, q2⟩ := hSw
          go_simp
          all_goals with_reducible rfl
        try simp only [Act.put, List.setIfInBounds_toArray, List.set_cons_zero, List.set_cons_succ]
        refine held_one (i := 6) (by kernel_rfl) rfl rfl (fun K hK => ?_)
        go_simp
        refine (hRr _).mono ?_
        rintro e w' ⟨rfl, rfl⟩
        refine hK _ _ hSx ?_
        clear hK K hRr
        try simp only [Act.put, List.setIfInBounds_toArray, List.set_cons_zero, List.set_cons_succ]
        refine held_take (i := 7) (v := ?_) 85 rfl rfl (by kernel_rfl) (by kernel_rfl) (by kernel_rfl) (fun _ _ _ h => h) (Or.inl ⟨by rfl, ?_⟩) hSx ?_
        rotate_left 1
        · intro w' hSw
          try dsimp only at hSw
          obtain ⟨q1, q2⟩ := hSw
          go_simp
          all_goals with_reducible rfl
        try simp only [Act.put, List.setIfInBounds_toArray, List.set_cons_zero, List.set_cons_succ]
        clear hSx
        refine held_one (i := 8) (by kernel_rfl) rfl rfl (fun K hK => ?_)
        go_simp
        refine (h2 _ hS1 hG1).mono ?_
        rintro e W3 ⟨M, nm, cm, rfl, hM, hb⟩
        replace hM := hM.mono (Nat.zero_le _)
        replace hL := hL.below hb
        replace k3 := k3.below hb
        replace k4 := k4.below hb
        replace b := b.trans (hb.mono b.size)
        replace hS1 := hS1.below hb
        replace hG1 := hG1.below hb
        replace ho1 := ho1.below hb
        clear hb h2
        refine hK _ _ ⟨k3.cell, k4.cell⟩ ?_
        clear hK K
        try simp only [Act.put, List.setIfInBounds_toArray, List.set_cons_zero, List.set_cons_succ]
        have hSx : (fun w' : World => (∀ j, w'.cell? ⟨w.heap.size, j, none⟩ = #[Value.slice S ns cs, .slice G ng cg][j]?) ∧ (∀ j, w'.cell? ⟨w.heap.size + 1, j, none⟩ = #[Value.int .i64 l0, .int .i64 l1][j]?)) W3 := ⟨k3.cell, k4.cell⟩
        refine held_take (i := 9) (v := ?_) 77 rfl rfl (by kernel_rfl) (by kernel_rfl) (by kernel_rfl) (fun _ _ _ h => h) (Or.inl ⟨by rfl, ?_⟩) hSx ?_
        rotate_left 1
        · intro w' hSw
          try dsimp only at hSw
          obtain ⟨q1, q2⟩ := hSw
          go_simp
          all_goals with_reducible rfl
        try simp only [Act.put, List.setIfInBounds_toArray, List.set_cons_zero, List.set_cons_succ]
        refine held_take (i := 10) (v := ?_) 87 rfl rfl (by kernel_rfl) (by kernel_rfl) (by kernel_rfl) (fun _ _ _ h => h) (Or.inl ⟨by rfl, ?_⟩) hSx ?_
        rotate_left 1
        · intro w' hSw
          try dsimp only at hSw
          obtain ⟨q1, q2⟩ := hSw
          go_simp
          all_goals with_reducible rfl
        try simp only [Act.put, List.setIfInBounds_toArray, List.set_cons_zero, List.set_cons_succ]
        refine held_take (i := 11) (v := ?_) 88 rfl rfl (by kernel_rfl) (by kernel_rfl) (by kernel_rfl) (fun _ _ _ h => h) (Or.inl ⟨by rfl, ?_⟩) hSx ?_
        rotate_left 1
        · intro w' hSw
          try dsimp only at hSw
          obtain ⟨q1, q2⟩ := hSw
          go_simp
          all_goals with_reducible rfl
        try simp only [Act.put, List.setIfInBounds_toArray, List.set_cons_zero, List.set_cons_succ]
        refine held_take (i := 12) (v := ?_) 11 rfl rfl (by kernel_rfl) (by kernel_rfl) (by kernel_rfl) (fun _ _ _ h => h) (Or.inl ⟨by rfl, ?_⟩) hSx ?_
        rotate_left 1
        · intro w' hSw
          try dsimp only at hSw
          obtain ⟨q1, q2⟩ := hSw
          go_simp
          all_goals with_reducible rfl
        try simp only [Act.put, List.setIfInBounds_toArray, List.set_cons_zero, List.set_cons_succ]
        refine held_take (i := 13) (v := ?_) 8 rfl rfl (by kernel_rfl) (by kernel_rfl) (by kernel_rfl) (fun _ _ _ h => h) (Or.inl ⟨by rfl, ?_⟩) hSx ?_
        rotate_left 1
        · intro w' hSw
          try dsimp only at hSw
          obtain ⟨q1, q2⟩ := hSw
          go_simp
          all_goals with_reducible rfl
        try simp only [Act.put, List.setIfInBounds_toArray, List.set_cons_zero, List.set_cons_succ]
        refine wpAnyH_done (by kernel_rfl) (noPanic_normal ?_) _
        clear hSx hmn2 u2
        try simp only [Act.put, List.setIfInBounds_toArray, List.set_cons_zero, List.set_cons_succ]
        have hMl := Lib.hid hM.1
        have hMn := hM.le
        go_wp2_with fail
        go_loopw [12] (fun i wr => ∃ k : Nat, i = .int .i64 (k : Int) ∧ k ≤ nm ∧ Below W3.heap.size W3 wr) (fun i wr => nm - (intOf i).toNat)
        case atStart => exact ⟨0, rfl, Nat.zero_le _, Below.refl _ _⟩
        case round =>
          obtain ⟨p, rfl, hp, hb9⟩ := hrel
          by_cases hlt : p < nm
          · have hp0 : (0 : Int) ≤ (p : Int) := by omega
            have hp1 : (p : Int) < (nm : Int) := by omega
            obtain ⟨y, hy⟩ := some_of_lt hMl.out hlt
            have hmy := Lib.hid (fun h => hmor.out h p y hy)
            generalize wr = V at *
            clear wr
            replace hy := Lib.hid hy
            go_wp2_with fail
            go_loopw [13, 14] (fun f k wr => ∃ j : Nat, k = .int .i64 (j : Int) ∧ f = .bool (holdsOne ((lossS a l0 3).take j) y) ∧ j ≤ i ∧ Below V.heap.size V wr) (fun f k wr => i - (intOf k).toNat)
            case atStart => exact ⟨0, rfl, rfl, Nat.zero_le _, Below.refl _ _⟩
            case round =>
              obtain ⟨j, rfl, rfl, hj, hb10⟩ := hrel
              by_cases hlt2 : j < i
              · have hj0 : (0 : Int) ≤ (j : Int) := by omega
                have hj1 : (j : Int) < (i : Int) := by omega
                obtain ⟨x, hx⟩ := some_of_lt hLl.out hlt2
                obtain ⟨bq1, oq1, A1, m1, d1, hA1, -, x1, hX1⟩ := ((hL.below hb9).below hb10).at_ hx
                obtain ⟨bq2, oq2, A2, m2, d2, hA2, -, y1, hY⟩ := ((hM.below hb9).below hb10).at_ hy.out
                subst hA1 hA2
                have htk : holdsOne ((lossS a l0 3).take (j + 1)) y = (holdsOne ((lossS a l0 3).take j) y || hasAll x y) := by unfold holdsOne; rw [List.take_add_one, hx, List.any_append]; simp
                have hW := fun n => flip_w (within_any A1 A2 m1 d1 m2 d2 0 0 x y (wr.drewN n) (hX1.drewN n) (hY.drewN n))
                replace hx := Lib.hid hx
                cases hz : holdsOne ((lossS a l0 3).take j) y with
                | true =>
                  rw [hz, Bool.true_or] at htk
                  replace htk := Lib.hid htk
                  clear hW hz
                  go_wp2_with fail
                  go_quiet (fail)
                  go_wp2_with fail
                  go_roundw
                  case rel => exact ⟨j + 1, by go_num, by rw [htk.out], by omega, below_drewN hb10 _⟩
                  case measure => simp [intOf]; omega
                | false =>
                  rw [hz, Bool.false_or] at htk
                  replace htk := Lib.hid htk
                  clear hz
                  generalize hasAll x y = ha2 at *
                  go_wp2_with fail
                  go_quiet ((go_at_call 56; with_reducible exact Calls.quiet_of_same (hW _)))
                  go_wp2_with fail
                  go_roundw
                  case rel => exact ⟨j + 1, by go_num, by rw [htk.out], by omega, below_drewN hb10 _⟩
                  case measure => simp [intOf]; omega
              · obtain rfl : j = i := by omega
                rw [List.take_of_length_le (by rw [hLl.out]; exact Nat.le_refl _)]
                have k4r := (k4.below hb9).below hb10
                obtain ⟨c4, f4, l4⟩ := k4r.rules
                by_cases hle : l0 ≤ 1099511627776
                · rw [hmy.out hle]
                  have hle2 : (l0 ≤ 1099511627776) = True := eq_true hle
                  clear hmy hle
                  go_wp2_with fail
                  go_roundw
                  case rel => exact ⟨p + 1, by go_num, by omega, hb9.trans (hb10.mono hb9.size)⟩
                  case measure => simp [intOf]; omega
                · have hle2 : (l0 ≤ 1099511627776) = False := eq_false hle
                  clear hle hmy
                  cases holdsOne (lossS a l0 3) y with
                  | true =>
                    go_wp2_with fail
                    go_roundw
                    case rel => exact ⟨p + 1, by go_num, by omega, hb9.trans (hb10.mono hb9.size)⟩
                    case measure => simp [intOf]; omega
                  | false =>
                    go_wp2_with fail
                    go_roundw
                    case rel => exact ⟨p + 1, by go_num, by omega, hb9.trans (hb10.mono hb9.size)⟩
                    case measure => simp [intOf]; omega
          · obtain rfl : p = nm := by omega
            have hb := hb9
            replace hL := hL.below hb9
            replace k3 := k3.below hb
            replace k4 := k4.below hb
            replace b := b.trans (hb.mono b.size)
            replace hS1 := hS1.below hb
            replace hG1 := hG1.below hb
            replace ho1 := ho1.below hb
            clear hb hb9 hM hMl hMn hmor hp hlt
            generalize wr = V at *
            clear wr
            obtain ⟨c3, f3, l3⟩ := k3.rules
            by_cases hbt : 1 ≤ (no : Int) ∧ (no : Int) ≤ min 3 ((ng : Int) - 1)
            · have hB := fun W => show Calls _ _ _ _ _ from by have := Between_any (no : Int) 1 (min 3 ((ng : Int) - 1)) W; rw [decide_eq_true hbt] at this; exact this
              replace hbt := Lib.hid hbt
              go_wp2_with fail
              refine (hB _).mono ?_
              rintro e w' ⟨rfl, rfl⟩
              clear hB
              go_upto_region 30 with fail
              clear c3 f3 l3
              have h35_ := Lib.hid k3.lt
              have k5 := Blk.new V 25 #[Value.slice S ns cs, .slice none 0 0]
              have hb0 : Below V.heap.size V _ := (Below.refl V.heap.size V).alloc (Nat.le_refl _) (.cells #[Value.slice S ns cs, .slice none 0 0] 25)
              obtain ⟨i0, hi0, hz0, hz1, hz2⟩ := info_parts Try.infoGun
              go_wp2_with fail
              go_loopw [16] (fun i wr => ∃ k : Nat, ∃ v : Value, i = .int .i64 (k : Int) ∧ k ≤ ng ∧ Blk wr V.heap.size 25 #[.slice S ns cs, v] ∧ wr.ownsRow (V.heap.size + 1) 74 4 v (leftTo a loss k).length ((leftTo a loss k).flatMap Gun.cells) ∧ Below V.heap.size V wr) (fun i wr => ng - (intOf i).toNat)
              case atStart => exact ⟨0, _, rfl, Nat.zero_le _, k5, ⟨rfl, .inl ⟨rfl, rfl⟩⟩, hb0⟩
              case round =>
                obtain ⟨k, v, rfl, hk, k5r, hown, hb⟩ := hrel
                have k3r := k3.below hb
                obtain ⟨c3, f3, l3⟩ := k3r.rules
                have hln := left_lost a loss k
                clear hb0 k5
                by_cases hlt : k < ng
                · have hk0 : (0 : Int) ≤ (k : Int) := by omega
                  have hk1 : (k : Int) < (ng : Int) := by omega
                  obtain ⟨x, hx⟩ := some_of_lt hgl.out hlt
                  obtain ⟨bq, oq, hA, -, -, e0, e1, e2, e3⟩ := (hG1.below hb).gun hx
                  have hI := Index_any (k : Int) O no co 0 loss wr (ho1.below hb)
                  have hil := idx_lt (k : Int) loss
                  generalize idxf (fun x => decide (x = (k : Int))) loss 0 = qi at *
                  cases hcn : loss.contains (k : Int) with
                  | true =>
                    have hll : Hid (leftTo a loss (k + 1) = leftTo a loss k) := by show _ = _; rw [leftTo, if_pos hcn]
                    have hq1 : (qi < 0) = False := eq_false (fun h => by have := hil.1 h; rw [hcn] at this; cases this)
                    clear hil hcn hx e0 e1 e2 e3
                    replace hA := Lib.hid hA
                    go_wp2_with fail
                    refine hI.mono ?_
                    rintro e w' ⟨rfl, rfl⟩
                    go_wp2_with fail
                    go_roundw
                    case rel => exact ⟨k + 1, v, by go_num, by omega, k5r, by rw [hll.out]; exact hown, hb⟩
                    case measure => simp [intOf]; omega
                  | false =>
                    have hll : Hid (leftTo a loss (k + 1) = leftTo a loss k ++ [x]) := by show _ = _; rw [leftTo, if_neg (by rw [hcn]; decide), List.getD_eq_getElem?_getD, hx]; rfl
                    have hq1 : (qi < 0) = True := eq_true (hil.2 hcn)
                    have hxx := Lib.hid hx
                    clear hil hcn hx
                    subst hA
                    go_wp2_with fail
                    refine hI.mono ?_
                    rintro e w' ⟨rfl, rfl⟩
                    clear hI
                    go_wp2_with fail
                    clear c3 f3 l3
                    refine wp_till_npS (fun w' : World => ((∀ j, w'.cell? ⟨w.heap.size, j, none⟩ = #[Value.slice S ns cs, .slice (some ⟨bq, oq, none⟩) ng cg][j]?) ∧ (∀ j, w'.cell? ⟨V.heap.size, j, none⟩ = #[Value.slice S ns cs, v][j]?)) ∧ w'.cell? ⟨bq, oq + k * 4, none⟩ = some (.int .i64 x.vol) ∧ w'.cell? ⟨bq, oq + k * 4 + 1, none⟩ = some (.int .i64 x.time) ∧ w'.cell? ⟨bq, oq + k * 4 + 2, none⟩ = some (.int .i64 x.late.lo) ∧ w'.cell? ⟨bq, oq + k * 4 + 3, none⟩ = some (.int .i64 x.late.hi)) 10 (by kernel_rfl) ?_
                    have hgq : Below V.heap.size V wr := hb
                    have hGd := (hG1.below hb).drew
                    have hko : Hid (bq < V.heap.size) := by obtain ⟨b9, o9, h9, -, h10, -⟩ := hG1.at_ hxx.out; cases h9; exact h10
                    replace k3r := k3r.drew
                    replace k5r := k5r.drew
                    replace hb := hb.drew
                    replace hown : wr.drew.ownsRow _ _ _ _ _ _ := hown
                    have hSx : (fun w' : World => ((∀ j, w'.cell? ⟨w.heap.size, j, none⟩ = #[Value.slice S ns cs, .slice (some ⟨bq, oq, none⟩) ng cg][j]?) ∧ (∀ j, w'.cell? ⟨V.heap.size, j, none⟩ = #[Value.slice S ns cs, v][j]?)) ∧ w'.cell? ⟨bq, oq + k * 4, none⟩ = some (.int .i64 x.vol) ∧ w'.cell? ⟨bq, oq + k * 4 + 1, none⟩ = some (.int .i64 x.time) ∧ w'.cell? ⟨bq, oq + k * 4 + 2, none⟩ = some (.int .i64 x.late.lo) ∧ w'.cell? ⟨bq, oq + k * 4 + 3, none⟩ = some (.int .i64 x.late.hi)) wr.drew := ⟨⟨k3r.cell, k5r.cell⟩, e0, e1, e2, e3⟩
                    clear hgq hGd e0 e1 e2 e3
                    generalize wr.drew = W5 at *
                    clear wr
                    obtain ⟨-, e0, e1, e2, e3⟩ := id hSx
                    refine till_taked (i := 0) (v := ?_) 146 rfl rfl (by kernel_rfl) (by kernel_rfl) (by kernel_rfl) (by kernel_rfl) (by kernel_rfl) (by kernel_rfl) (fun _ _ _ h => h) (Or.inl ⟨by rfl, ?_⟩) hSx ?_
                    rotate_left 1
                    · intro w' hSw
                      try dsimp only at hSw
                      obtain ⟨⟨q1, q2⟩, q3, q4, q5, q6⟩ := hSw
                      go_simp
                      all_goals with_reducible rfl
                    try simp only [Act.put, List.setIfInBounds_toArray, List.set_cons_zero, List.set_cons_succ]
                    refine till_taked (i := 1) (v := ?_) 147 rfl rfl (by kernel_rfl) (by kernel_rfl) (by kernel_rfl) (by kernel_rfl) (by kernel_rfl) (by kernel_rfl) (fun _ _ _ h => h) (Or.inl ⟨by rfl, ?_⟩) hSx ?_
                    rotate_left 1
                    · intro w' hSw
                      try dsimp only at hSw
                      obtain ⟨⟨q1, q2⟩, q3, q4, q5, q6⟩ := hSw
                      go_simp
                      all_goals with_reducible rfl
                    try simp only [Act.put, List.setIfInBounds_toArray, List.set_cons_zero, List.set_cons_succ]
                    refine till_taked (i := 2) (v := ?_) 148 rfl rfl (by kernel_rfl) (by kernel_rfl) (by kernel_rfl) (by kernel_rfl) (by kernel_rfl) (by kernel_rfl) (fun _ _ _ h => h) (Or.inl ⟨by rfl, ?_⟩) hSx ?_
                    rotate_left 1
                    · intro w' hSw
                      try dsimp only at hSw
                      obtain ⟨⟨q1, q2⟩, q3, q4, q5, q6⟩ := hSw
                      go_simp
                      all_goals with_reducible rfl
                    try simp only [Act.put, List.setIfInBounds_toArray, List.set_cons_zero, List.set_cons_succ]
                    refine till_taked (i := 3) (v := ?_) 149 rfl rfl (by kernel_rfl) (by kernel_rfl) (by kernel_rfl) (by kernel_rfl) (by kernel_rfl) (by kernel_rfl) (fun _ _ _ h => h) (Or.inl ⟨by rfl, ?_⟩) hSx ?_
                    rotate_left 1
                    · intro w' hSw
                      try dsimp only at hSw
                      obtain ⟨⟨q1, q2⟩, q3, q4, q5, q6⟩ := hSw
                      go_simp
                      all_goals with_reducible rfl
                    try simp only [Act.put, List.setIfInBounds_toArray, List.set_cons_zero, List.set_cons_succ]
                    refine till_taked (i := 4) (v := ?_) 150 rfl rfl (by kernel_rfl) (by kernel_rfl) (by kernel_rfl) (by kernel_rfl) (by kernel_rfl) (by kernel_rfl) (fun _ _ _ h => h) (Or.inl ⟨by rfl, ?_⟩) hSx ?_
                    rotate_left 1
                    · intro w' hSw
                      try dsimp only at hSw
                      obtain ⟨⟨q1, q2⟩, q3, q4, q5, q6⟩ := hSw
                      go_simp
                      all_goals with_reducible rfl
                    try simp only [Act.put, List.setIfInBounds_toArray, List.set_cons_zero, List.set_cons_succ]
                    refine till_taked (i := 5) (v := ?_) 151 rfl rfl (by kernel_rfl) (by kernel_rfl) (by kernel_rfl) (by kernel_rfl) (by kernel_rfl) (by kernel_rfl) (fun _ _ _ h => h) (Or.inl ⟨by rfl, ?_⟩) hSx ?_
                    rotate_left 1
                    · intro w' hSw
                      try dsimp only at hSw
                      obtain ⟨⟨q1, q2⟩, q3, q4, q5, q6⟩ := hSw
                      go_simp
                      all_goals with_reducible rfl
                    try simp only [Act.put, List.setIfInBounds_toArray, List.set_cons_zero, List.set_cons_succ]
                    refine till_taked (i := 6) (v := ?_) 152 rfl rfl (by kernel_rfl) (by kernel_rfl) (by kernel_rfl) (by kernel_rfl) (by kernel_rfl) (by kernel_rfl) (fun _ _ _ h => h) (Or.inl ⟨by rfl, ?_⟩) hSx ?_
                    rotate_left 1
                    · intro w' hSw
                      try dsimp only at hSw
                      obtain ⟨⟨q1, q2⟩, q3, q4, q5, q6⟩ := hSw
                      go_simp
                      all_goals with_reducible rfl
                    try simp only [Act.put, List.setIfInBounds_toArray, List.set_cons_zero, List.set_cons_succ]
                    clear hSx
                    have hlo := hown.lt
                    have hg5 := k3r.lt
                    have hk5l := k5r.lt
                    have hsz5 := hb.size
                    have h35 : w.heap.size < V.heap.size := h35_.out
                    have hba := (Below.refl W5.heap.size W5).alloc (Nat.le_refl _) (.cells #[.int .i64 x.vol, .int .i64 x.time, .int .i64 x.late.lo, .int .i64 x.late.hi] 74)
                    have k3a := k3r.below hba
                    have k5a := k5r.below hba
                    have hownA := hown.alloc (.cells #[.int .i64 x.vol, .int .i64 x.time, .int .i64 x.late.lo, .int .i64 x.late.hi] 74)
                    have hbA := hb.alloc hb.size (.cells #[.int .i64 x.vol, .int .i64 x.time, .int .i64 x.late.lo, .int .i64 x.late.hi] 74)
                    have hbl : bq < W5.heap.size := by have := hko.out; omega
                    have hnews : ∀ (j : Nat) (u : Value), ([.int .i64 x.vol, .int .i64 x.time, .int .i64 x.late.lo, .int .i64 x.late.hi] : List Value)[j]? = some u → (W5.alloc (.cells #[.int .i64 x.vol, .int .i64 x.time, .int .i64 x.late.lo, .int .i64 x.late.hi] 74)).cell? ((⟨W5.heap.size, 0, none⟩ : Addr).add j) = some u :=
                      World.news_of_block (cs := #[.int .i64 x.vol, .int .i64 x.time, .int .i64 x.late.lo, .int .i64 x.late.hi]) (World.alloc_heap_new W5 _)
                    refine till_one (i := 7) (by kernel_rfl) rfl rfl (fun K hK => ?_)
                    go_simp
                    refine hK _ _ (fun _ => ⟨⟨k3a.cell, k5a.cell⟩, (hba.cell hbl).trans e0, (hba.cell hbl).trans e1, (hba.cell hbl).trans e2, (hba.cell hbl).trans e3⟩) ?_
                    clear hK K
                    try simp only [Act.put, List.setIfInBounds_toArray, List.set_cons_zero, List.set_cons_succ]
                    have hbig1 : Hid ((leftTo a loss k).length + 1 ≤ maxLen) := by show _ ≤ maxLen; unfold maxLen; omega
                    have hbig2 : Hid (((leftTo a loss k).length + 1) * 32 ≤ 140737488355328) := by show _ ≤ 140737488355328; omega
                    have hbase : V.heap.size + 1 ≤ (W5.alloc (.cells #[.int .i64 x.vol, .int .i64 x.time, .int .i64 x.late.lo, .int .i64 x.late.hi] 74)).heap.size := by simp; omega
                    refine till_one (i := 8) (by kernel_rfl) rfl rfl (fun K hK => ?_)
                    refine wp_append_lies _ _ _ 23 (by rfl) (V.heap.size + 1) 74 i0 (.agg #[.int .i64 0, .int .i64 0, .int .i64 0, .int .i64 0]) 4 32 Try.underlying23 hi0 hz0 hz1 hz2 rfl (by omega) v (leftTo a loss k).length ((leftTo a loss k).flatMap Gun.cells) (by rfl) hownA ⟨W5.heap.size, 0, none⟩ 1 1 [.int .i64 x.vol, .int .i64 x.time, .int .i64 x.late.lo, .int .i64 x.late.hi] (by rfl) rfl hnews (by simp [Value.oneCell']) (by omega) hbig1.out hbig2.out hbase (W5.heap.size + 1) (by simp) ?_
                    intro g10 cap2 w7 hown7 hgrow hlies hlt7
                    have k3g := k3a.grown hgrow (fun e => by have := (hownA.lt _ e.symm).1; omega)
                    have k5g := k5a.grown hgrow (fun e => by have := (hownA.lt _ e.symm).1; omega)
                    have hbg : Below V.heap.size _ w7 := ⟨hgrow.os, hgrow.tape, hgrow.output, hgrow.size, fun b hb2 => hgrow.block b (by simp; omega) (fun e => by have := (hownA.lt _ e.symm).1; omega)⟩
                    have hbG := hbA.trans hbg
                    have hkq := hko.out
                    refine hK _ _ (fun _ => ⟨⟨k3g.cell, k5g.cell⟩, (hbg.cell hkq).trans ((hba.cell hbl).trans e0), (hbg.cell hkq).trans ((hba.cell hbl).trans e1), (hbg.cell hkq).trans ((hba.cell hbl).trans e2), (hbg.cell hkq).trans ((hba.cell hbl).trans e3)⟩) ?_
                    clear hK K
                    try simp only [Act.put, List.setIfInBounds_toArray, List.set_cons_zero, List.set_cons_succ]
                    have hSx : (fun w' : World => ((∀ j, w'.cell? ⟨w.heap.size, j, none⟩ = #[Value.slice S ns cs, .slice (some ⟨bq, oq, none⟩) ng cg][j]?) ∧ (∀ j, w'.cell? ⟨V.heap.size, j, none⟩ = #[Value.slice S ns cs, v][j]?)) ∧ w'.cell? ⟨bq, oq + k * 4, none⟩ = some (.int .i64 x.vol) ∧ w'.cell? ⟨bq, oq + k * 4 + 1, none⟩ = some (.int .i64 x.time) ∧ w'.cell? ⟨bq, oq + k * 4 + 2, none⟩ = some (.int .i64 x.late.lo) ∧ w'.cell? ⟨bq, oq + k * 4 + 3, none⟩ = some (.int .i64 x.late.hi)) w7 := ⟨⟨k3g.cell, k5g.cell⟩, (hbg.cell hkq).trans ((hba.cell hbl).trans e0), (hbg.cell hkq).trans ((hba.cell hbl).trans e1), (hbg.cell hkq).trans ((hba.cell hbl).trans e2), (hbg.cell hkq).trans ((hba.cell hbl).trans e3)⟩
                    refine till_taked (i := 9) (v := ?_) 155 rfl rfl (by kernel_rfl) (by kernel_rfl) (by kernel_rfl) (by kernel_rfl) (by kernel_rfl) (by kernel_rfl) (fun _ _ _ h => h) (Or.inl ⟨by rfl, ?_⟩) hSx ?_
                    rotate_left 1
                    · intro w' hSw
                      try dsimp only at hSw
                      obtain ⟨⟨q1, q2⟩, q3, q4, q5, q6⟩ := hSw
                      go_simp
                      all_goals with_reducible rfl
                    try simp only [Act.put, List.setIfInBounds_toArray, List.set_cons_zero, List.set_cons_succ]
                    clear hSx
                    refine till_one (i := 10) (by kernel_rfl) rfl rfl (fun K hK => ?_)
                    obtain ⟨x7, y7, z7⟩ := k5g.rules
                    go_simp
                    clear x7 y7 z7
                    have k5z := k5g.set_ 1 (.slice (some ⟨g10, 0, none⟩) ((leftTo a loss k).length + 1) cap2)
                    simp only [List.setIfInBounds_toArray, List.set_cons_zero, List.set_cons_succ] at k5z
                    have hownz := ownsRow_setCell hown7 (p := ⟨V.heap.size, 1, none⟩) (fun e => by have := (hown7.lt _ e).1; dsimp only at this; omega) (.slice (some ⟨g10, 0, none⟩) ((leftTo a loss k).length + 1) cap2)
                    have hbz := hbG.setCell (p := ⟨V.heap.size, 1, none⟩) (Nat.le_refl _) (.slice (some ⟨g10, 0, none⟩) ((leftTo a loss k).length + 1) cap2)
                    refine hK _ _ (fun h => nomatch (show true = false from h)) ?_
                    clear hK K
                    try simp only [Act.put, List.setIfInBounds_toArray, List.set_cons_zero, List.set_cons_succ]
                    refine till_done (by kernel_rfl) (noPanic_normal ?_) _
                    generalize w7.setCell ⟨V.heap.size, 1, none⟩ (.slice (some ⟨g10, 0, none⟩) ((leftTo a loss k).length + 1) cap2) = Wz at *
                    clear hlo hownA hbA hba hbase hown7 k5g k3g k3a k5a hgrow hlies hbg hbG
                    go_wp2_with fail
                    go_roundw
                    case rel => exact ⟨k + 1, _, by go_num, by omega, k5z, by rw [hll.out, List.length_append, List.flatMap_append]; exact hownz, hbz⟩
                    case measure => simp [intOf]; omega
                · obtain rfl : k = ng := by omega
                  obtain ⟨X, xc, rfl, hX⟩ := SlAt.of_own (enc := Gun.cells) hown (by omega) (leftTo a loss k) rfl (fun _ => rfl) rfl
                  replace hX := hX.mono (Nat.zero_le _)
                  obtain ⟨LG, hLG⟩ : ∃ LG, LG = leftTo a loss k := ⟨_, rfl⟩
                  have hG0 : leftTo a loss a.gs.length = LG := by rw [hgl.out]; exact hLG.symm
                  have hls := left_sig a loss
                  have hlk := fun h => left_ok ha loss h
                  have hsd := fun h3 => lost_said (loss_found a l0 (min 3 ((a.gs.length : Int) - 1)).toNat) loss (by have := hbt.out; rw [hol.out]; omega) (by have := hbt.out; rw [hol.out, hgl.out]; omega) h3
                  rw [hG0] at hls hlk hsd
                  rw [← hLG] at hX k5r hln
                  obtain ⟨nx, hnx⟩ : ∃ nx, nx = LG.length := ⟨_, rfl⟩
                  rw [← hnx] at hX k5r hln hlk hsd
                  have hnk : nx ≤ k := by omega
                  clear hLG hG0 hown hln hk hlt
                  have k5 := k5r
                  replace hL := hL.below hb
                  replace k3 := k3.below hb
                  replace k4 := k4.below hb
                  replace b := b.trans (hb.mono b.size)
                  replace hS1 := hS1.below hb
                  replace hG1 := hG1.below hb
                  replace ho1 := ho1.below hb
                  clear hb k5r k3r c3 f3 l3
                  have hnx2 := Lib.hid hnx
                  clear hnx
                  clear h35_
                  generalize V.heap.size = g5 at k5 ⊢
                  generalize wr = Y at *
                  clear wr
                  obtain ⟨c3, f3, l3⟩ := k3.rules
                  obtain ⟨c5, f5, l5⟩ := k5.rules
                  have u5 := IntWalk.i64_in ((nx : Int) + (no : Int)) (by omega)
                  by_cases h35 : nx + no = k
                  · have g1 : ((nx : Int) + (no : Int) = (k : Int)) = True := eq_true (by omega)
                    have g2 : ((nx : Int) + (no : Int) == (k : Int)) = true := by rw [beq_iff_eq]; omega
                    have g3 : ((nx : Int) + (no : Int) != (k : Int)) = false := by rw [bne, g2]; rfl
                    have hnx1 : 1 ≤ nx := by have := hbt.out; omega
                    have hok2 := hlk hnx1
                    have hsd2 := hsd (by rw [hol.out, hgl.out]; exact h35)
                    replace h35 := Lib.hid h35
                    clear hlk hsd
                    have hC1 := fun P pc W h h' h'' => Signature_any a S G P ns cs k cg k pc (onL a) W h h' h''
                    have hC2 := fun P pc W h h' h'' => Signature_any ⟨a.sh, LG⟩ S X P ns cs nx xc nx pc (onL ⟨a.sh, LG⟩) W h h' h''
                    have hv3 : sigR a (onL a) = (sigL a (onL a) [], 0) := by unfold sigR; rw [if_pos (errA_ok ha (onL_ok a))]
                    have hv4 : sigR ⟨a.sh, LG⟩ (onL ⟨a.sh, LG⟩) = (sigL a (onL a) loss, 0) := by unfold sigR; rw [if_pos (errA_ok hok2 (onL_ok _)), hls]
                    unfold RetSl at hC1 hC2
                    simp only [hv3] at hC1
                    simp only [hv4] at hC2
                    have hon1 : Hid (onL a = List.replicate k 0) := by show _ = _; unfold onL; rw [hgl.out]
                    have hon2 : Hid (onL ⟨a.sh, LG⟩ = List.replicate nx 0) := by show _ = _; unfold onL; rw [hnx2.out]
                    obtain ⟨i1, hi1, hy0, hy1, hy2⟩ := info_parts Try.infoInt
                    have hc1 := Lib.hid (show i1.bytes * k ≤ 281474976710656 by rw [hy2]; omega)
                    have hd1 := Lib.hid (show k ≤ maxLen by unfold maxLen; omega)
                    have hc2 := Lib.hid (show i1.bytes * nx ≤ 281474976710656 by rw [hy2]; omega)
                    have hd2 := Lib.hid (show nx ≤ maxLen by unfold maxLen; omega)
                    have hxl0 := Lib.hid (show (sigL a (onL a) []).length = ns + 48 by rw [sigL_len, hsl.out])
                    have hyl0 := Lib.hid (show (sigL a (onL a) loss).length = ns + 48 by rw [sigL_len, hsl.out])
                    rw [hsl.out] at hsd2
                    have hxb := Lib.hid (fun k => sigL_bd ha (onL a) [] k)
                    have hyb := Lib.hid (fun k => sigL_bd ha (onL a) loss k)
                    have hbm := Lib.hid (fun k => misTo_bd (B := 8000000) (fun t => sigL_bd ha (onL a) [] t) (fun t => sigL_bd ha (onL a) loss t) k)
                    clear hls hv3 hv4 hok2
                    go_wp2_with fail
                    clear c3 f3 l3 c5 f5 l5 u5 g1 g2 g3
                    refine wp_held_np (fun w' : World => (∀ j, w'.cell? ⟨w.heap.size, j, none⟩ = #[Value.slice S ns cs, .slice G k cg][j]?) ∧ (∀ j, w'.cell? ⟨g5, j, none⟩ = #[Value.slice S ns cs, .slice X nx xc][j]?)) (by kernel_rfl) ?_
                    have hb := (Below.refl Y.heap.size Y).drew
                    replace k3 := k3.below hb
                    replace k4 := k4.below hb
                    replace k5 := k5.below hb
                    replace b := b.trans (hb.mono b.size)
                    replace hS1 := hS1.below hb
                    replace hG1 := hG1.below hb
                    replace hX := hX.below hb
                    replace ho1 := ho1.below hb
                    replace hL := hL.below hb
                    skip
                    clear hb
                    generalize Y.drew = Y1 at *
                    have hSx : (fun w' : World => (∀ j, w'.cell? ⟨w.heap.size, j, none⟩ = #[Value.slice S ns cs, .slice G k cg][j]?) ∧ (∀ j, w'.cell? ⟨g5, j, none⟩ = #[Value.slice S ns cs, .slice X nx xc][j]?)) Y1 := ⟨k3.cell, k5.cell⟩
                    refine held_take (i := 0) (v := ?_) 168 rfl rfl (by kernel_rfl) (by kernel_rfl) (by kernel_rfl) (fun _ _ _ h => h) (Or.inl ⟨by rfl, ?_⟩) hSx ?_
                    rotate_left 1
                    · intro w' hSw
                      try dsimp only at hSw
                      obtain ⟨q1, q2⟩ := hSw
                      go_simp
                      all_goals with_reducible rfl
                    try simp only [Act.put, List.setIfInBounds_toArray, List.set_cons_zero, List.set_cons_succ]
                    refine held_take (i := 1) (v := ?_) 169 rfl rfl (by kernel_rfl) (by kernel_rfl) (by kernel_rfl) (fun _ _ _ h => h) (Or.inl ⟨by rfl, ?_⟩) hSx ?_
                    rotate_left 1
                    · intro w' hSw
                      try dsimp only at hSw
                      obtain ⟨q1, q2⟩ := hSw
                      go_simp
                      all_goals with_reducible rfl
                    try simp only [Act.put, List.setIfInBounds_toArray, List.set_cons_zero, List.set_cons_succ]
                    refine held_take (i := 2) (v := ?_) 170 rfl rfl (by kernel_rfl) (by kernel_rfl) (by kernel_rfl) (fun _ _ _ h => h) (Or.inl ⟨by rfl, ?_⟩) hSx ?_
                    rotate_left 1
                    · intro w' hSw
                      try dsimp only at hSw
                      obtain ⟨q1, q2⟩ := hSw
                      go_simp
                      all_goals with_reducible rfl
                    try simp only [Act.put, List.setIfInBounds_toArray, List.set_cons_zero, List.set_cons_succ]
                    refine held_take (i := 3) (v := ?_) 171 rfl rfl (by kernel_rfl) (by kernel_rfl) (by kernel_rfl) (fun _ _ _ h => h) (Or.inl ⟨by rfl, ?_⟩) hSx ?_
                    rotate_left 1
                    · intro w' hSw
                      try dsimp only at hSw
                      obtain ⟨q1, q2⟩ := hSw
                      go_simp
                      all_goals with_reducible rfl
                    try simp only [Act.put, List.setIfInBounds_toArray, List.set_cons_zero, List.set_cons_succ]
                    clear hSx
                    refine held_one (i := 4) (by kernel_rfl) rfl rfl (fun K hK => ?_)
                    refine wp_make_fullQ Y1 _ _ 22 rfl Y1.heap.size 3 i1 (.int .i64 0) 1 Try.underlying22 hi1 hy0 hy1 _ _ _ _ k rfl rfl rfl rfl hc1.out hd1.out (Nat.le_refl _) ?_
                    intro Y2 r8 hgrow
                    obtain ⟨O8, co8, e8, hM⟩ := ownsOf r8 (by omega)
                    simp only [Value.slice.injEq, true_and] at e8
                    obtain ⟨rfl, rfl⟩ := e8
                    rw [← hon1.out] at hM
                    replace hM := hM.mono (Nat.zero_le _)
                    have hb := (Below.refl Y1.heap.size Y1).grown hgrow (Nat.le_refl _) (fun k e => by cases e)
                    replace k3 := k3.below hb
                    replace k4 := k4.below hb
                    replace k5 := k5.below hb
                    replace b := b.trans (hb.mono b.size)
                    replace hS1 := hS1.below hb
                    replace hG1 := hG1.below hb
                    replace hX := hX.below hb
                    replace ho1 := ho1.below hb
                    replace hL := hL.below hb
                    skip
                    clear hb
                    clear hgrow r8
                    refine hK _ _ ⟨k3.cell, k5.cell⟩ ?_
                    clear hK K
                    try simp only [Act.put, List.setIfInBounds_toArray, List.set_cons_zero, List.set_cons_succ]
                    refine held_one (i := 5) (by kernel_rfl) rfl rfl (fun K hK => ?_)
                    go_simp
                    refine (hC1 _ _ _ hS1 hG1 hM).mono ?_
                    rintro e Y3 ⟨U1, n1, cu1, rfl, hU1, hb⟩
                    have hn1e := Lib.hid (show n1 = ns + 48 from hU1.len.symm.trans hxl0.out)
                    have hn1b : n1 ≤ 80 := by have := hn1e.out; omega
                    replace hU1 := hU1.mono (Nat.zero_le _)
                    clear hM
                    replace k3 := k3.below hb
                    replace k4 := k4.below hb
                    replace k5 := k5.below hb
                    replace b := b.trans (hb.mono b.size)
                    replace hS1 := hS1.below hb
                    replace hG1 := hG1.below hb
                    replace hX := hX.below hb
                    replace ho1 := ho1.below hb
                    replace hL := hL.below hb
                    skip
                    clear hb
                    refine hK _ _ ⟨k3.cell, k5.cell⟩ ?_
                    clear hK K
                    try simp only [Act.put, List.setIfInBounds_toArray, List.set_cons_zero, List.set_cons_succ]
                    have hSx : (fun w' : World => (∀ j, w'.cell? ⟨w.heap.size, j, none⟩ = #[Value.slice S ns cs, .slice G k cg][j]?) ∧ (∀ j, w'.cell? ⟨g5, j, none⟩ = #[Value.slice S ns cs, .slice X nx xc][j]?)) Y3 := ⟨k3.cell, k5.cell⟩
                    refine held_take (i := 6) (v := ?_) 167 rfl rfl (by kernel_rfl) (by kernel_rfl) (by kernel_rfl) (fun _ _ _ h => h) (Or.inl ⟨by rfl, ?_⟩) hSx ?_
                    rotate_left 1
                    · intro w' hSw
                      try dsimp only at hSw
                      obtain ⟨q1, q2⟩ := hSw
                      go_simp
                      all_goals with_reducible rfl
                    try simp only [Act.put, List.setIfInBounds_toArray, List.set_cons_zero, List.set_cons_succ]
                    refine held_take (i := 7) (v := ?_) 174 rfl rfl (by kernel_rfl) (by kernel_rfl) (by kernel_rfl) (fun _ _ _ h => h) (Or.inl ⟨by rfl, ?_⟩) hSx ?_
                    rotate_left 1
                    · intro w' hSw
                      try dsimp only at hSw
                      obtain ⟨q1, q2⟩ := hSw
                      go_simp
                      all_goals with_reducible rfl
                    try simp only [Act.put, List.setIfInBounds_toArray, List.set_cons_zero, List.set_cons_succ]
                    refine held_take (i := 8) (v := ?_) 175 rfl rfl (by kernel_rfl) (by kernel_rfl) (by kernel_rfl) (fun _ _ _ h => h) (Or.inl ⟨by rfl, ?_⟩) hSx ?_
                    rotate_left 1
                    · intro w' hSw
                      try dsimp only at hSw
                      obtain ⟨q1, q2⟩ := hSw
                      go_simp
                      all_goals with_reducible rfl
                    try simp only [Act.put, List.setIfInBounds_toArray, List.set_cons_zero, List.set_cons_succ]
                    refine held_take (i := 9) (v := ?_) 17 rfl rfl (by kernel_rfl) (by kernel_rfl) (by kernel_rfl) (fun _ _ _ h => h) (Or.inl ⟨by rfl, ?_⟩) hSx ?_
                    rotate_left 1
                    · intro w' hSw
                      try dsimp only at hSw
                      obtain ⟨q1, q2⟩ := hSw
                      go_simp
                      all_goals with_reducible rfl
                    try simp only [Act.put, List.setIfInBounds_toArray, List.set_cons_zero, List.set_cons_succ]
                    refine held_take (i := 10) (v := ?_) 8 rfl rfl (by kernel_rfl) (by kernel_rfl) (by kernel_rfl) (fun _ _ _ h => h) (Or.inl ⟨by rfl, ?_⟩) hSx ?_
                    rotate_left 1
                    · intro w' hSw
                      try dsimp only at hSw
                      obtain ⟨q1, q2⟩ := hSw
                      go_simp
                      all_goals with_reducible rfl
                    try simp only [Act.put, List.setIfInBounds_toArray, List.set_cons_zero, List.set_cons_succ]
                    refine wpAnyH_done (by kernel_rfl) (noPanic_normal ?_) _
                    clear hSx hC1
                    try simp only [Act.put, List.setIfInBounds_toArray, List.set_cons_zero, List.set_cons_succ]
                    go_wp2_with fail
                    refine wp_held_np (fun w' : World => (∀ j, w'.cell? ⟨w.heap.size, j, none⟩ = #[Value.slice S ns cs, .slice G k cg][j]?) ∧ (∀ j, w'.cell? ⟨g5, j, none⟩ = #[Value.slice S ns cs, .slice X nx xc][j]?)) (by kernel_rfl) ?_
                    have hb := (Below.refl Y3.heap.size Y3).drew
                    replace k3 := k3.below hb
                    replace k4 := k4.below hb
                    replace k5 := k5.below hb
                    replace b := b.trans (hb.mono b.size)
                    replace hS1 := hS1.below hb
                    replace hG1 := hG1.below hb
                    replace hX := hX.below hb
                    replace ho1 := ho1.below hb
                    replace hL := hL.below hb
                    replace hU1 := hU1.below hb
                    clear hb
                    generalize Y3.drew = Y4 at *
                    have hSx : (fun w' : World => (∀ j, w'.cell? ⟨w.heap.size, j, none⟩ = #[Value.slice S ns cs, .slice G k cg][j]?) ∧ (∀ j, w'.cell? ⟨g5, j, none⟩ = #[Value.slice S ns cs, .slice X nx xc][j]?)) Y4 := ⟨k3.cell, k5.cell⟩
                    refine held_take (i := 0) (v := ?_) 177 rfl rfl (by kernel_rfl) (by kernel_rfl) (by kernel_rfl) (fun _ _ _ h => h) (Or.inl ⟨by rfl, ?_⟩) hSx ?_
                    rotate_left 1
                    · intro w' hSw
                      try dsimp only at hSw
                      obtain ⟨q1, q2⟩ := hSw
                      go_simp
                      all_goals with_reducible rfl
                    try simp only [Act.put, List.setIfInBounds_toArray, List.set_cons_zero, List.set_cons_succ]
                    refine held_take (i := 1) (v := ?_) 178 rfl rfl (by kernel_rfl) (by kernel_rfl) (by kernel_rfl) (fun _ _ _ h => h) (Or.inl ⟨by rfl, ?_⟩) hSx ?_
                    rotate_left 1
                    · intro w' hSw
                      try dsimp only at hSw
                      obtain ⟨q1, q2⟩ := hSw
                      go_simp
                      all_goals with_reducible rfl
                    try simp only [Act.put, List.setIfInBounds_toArray, List.set_cons_zero, List.set_cons_succ]
                    refine held_take (i := 2) (v := ?_) 179 rfl rfl (by kernel_rfl) (by kernel_rfl) (by kernel_rfl) (fun _ _ _ h => h) (Or.inl ⟨by rfl, ?_⟩) hSx ?_
                    rotate_left 1
                    · intro w' hSw
                      try dsimp only at hSw
                      obtain ⟨q1, q2⟩ := hSw
                      go_simp
                      all_goals with_reducible rfl
                    try simp only [Act.put, List.setIfInBounds_toArray, List.set_cons_zero, List.set_cons_succ]
                    refine held_take (i := 3) (v := ?_) 180 rfl rfl (by kernel_rfl) (by kernel_rfl) (by kernel_rfl) (fun _ _ _ h => h) (Or.inl ⟨by rfl, ?_⟩) hSx ?_
                    rotate_left 1
                    · intro w' hSw
                      try dsimp only at hSw
                      obtain ⟨q1, q2⟩ := hSw
                      go_simp
                      all_goals with_reducible rfl
                    try simp only [Act.put, List.setIfInBounds_toArray, List.set_cons_zero, List.set_cons_succ]
                    clear hSx
                    refine held_one (i := 4) (by kernel_rfl) rfl rfl (fun K hK => ?_)
                    refine wp_make_fullQ Y4 _ _ 22 rfl Y4.heap.size 3 i1 (.int .i64 0) 1 Try.underlying22 hi1 hy0 hy1 _ _ _ _ nx rfl rfl rfl rfl hc2.out hd2.out (Nat.le_refl _) ?_
                    intro Y5 r8 hgrow
                    obtain ⟨O8, co8, e8, hM⟩ := ownsOf r8 (by omega)
                    simp only [Value.slice.injEq, true_and] at e8
                    obtain ⟨rfl, rfl⟩ := e8
                    rw [← hon2.out] at hM
                    replace hM := hM.mono (Nat.zero_le _)
                    have hb := (Below.refl Y4.heap.size Y4).grown hgrow (Nat.le_refl _) (fun k e => by cases e)
                    replace k3 := k3.below hb
                    replace k4 := k4.below hb
                    replace k5 := k5.below hb
                    replace b := b.trans (hb.mono b.size)
                    replace hS1 := hS1.below hb
                    replace hG1 := hG1.below hb
                    replace hX := hX.below hb
                    replace ho1 := ho1.below hb
                    replace hL := hL.below hb
                    replace hU1 := hU1.below hb
                    clear hb
                    clear hgrow r8
                    refine hK _ _ ⟨k3.cell, k5.cell⟩ ?_
                    clear hK K
                    try simp only [Act.put, List.setIfInBounds_toArray, List.set_cons_zero, List.set_cons_succ]
                    refine held_one (i := 5) (by kernel_rfl) rfl rfl (fun K hK => ?_)
                    go_simp
                    refine (hC2 _ _ _ hS1 hX hM).mono ?_
                    rintro e Y6 ⟨U2, n2, cu2, rfl, hU2, hb⟩
                    obtain rfl : n1 = n2 := hn1e.out.trans (hyl0.out.symm.trans hU2.len)
                    replace hU2 := hU2.mono (Nat.zero_le _)
                    clear hM
                    replace k3 := k3.below hb
                    replace k4 := k4.below hb
                    replace k5 := k5.below hb
                    replace b := b.trans (hb.mono b.size)
                    replace hS1 := hS1.below hb
                    replace hG1 := hG1.below hb
                    replace hX := hX.below hb
                    replace ho1 := ho1.below hb
                    replace hL := hL.below hb
                    replace hU1 := hU1.below hb
                    clear hb
                    refine hK _ _ ⟨k3.cell, k5.cell⟩ ?_
                    clear hK K
                    try simp only [Act.put, List.setIfInBounds_toArray, List.set_cons_zero, List.set_cons_succ]
                    have hSx : (fun w' : World => (∀ j, w'.cell? ⟨w.heap.size, j, none⟩ = #[Value.slice S ns cs, .slice G k cg][j]?) ∧ (∀ j, w'.cell? ⟨g5, j, none⟩ = #[Value.slice S ns cs, .slice X nx xc][j]?)) Y6 := ⟨k3.cell, k5.cell⟩
                    refine held_take (i := 6) (v := ?_) 176 rfl rfl (by kernel_rfl) (by kernel_rfl) (by kernel_rfl) (fun _ _ _ h => h) (Or.inl ⟨by rfl, ?_⟩) hSx ?_
                    rotate_left 1
                    · intro w' hSw
                      try dsimp only at hSw
                      obtain ⟨q1, q2⟩ := hSw
                      go_simp
                      all_goals with_reducible rfl
                    try simp only [Act.put, List.setIfInBounds_toArray, List.set_cons_zero, List.set_cons_succ]
                    refine held_take (i := 7) (v := ?_) 183 rfl rfl (by kernel_rfl) (by kernel_rfl) (by kernel_rfl) (fun _ _ _ h => h) (Or.inl ⟨by rfl, ?_⟩) hSx ?_
                    rotate_left 1
                    · intro w' hSw
                      try dsimp only at hSw
                      obtain ⟨q1, q2⟩ := hSw
                      go_simp
                      all_goals with_reducible rfl
                    try simp only [Act.put, List.setIfInBounds_toArray, List.set_cons_zero, List.set_cons_succ]
                    refine held_take (i := 8) (v := ?_) 184 rfl rfl (by kernel_rfl) (by kernel_rfl) (by kernel_rfl) (fun _ _ _ h => h) (Or.inl ⟨by rfl, ?_⟩) hSx ?_
                    rotate_left 1
                    · intro w' hSw
                      try dsimp only at hSw
                      obtain ⟨q1, q2⟩ := hSw
                      go_simp
                      all_goals with_reducible rfl
                    try simp only [Act.put, List.setIfInBounds_toArray, List.set_cons_zero, List.set_cons_succ]
                    refine held_take (i := 9) (v := ?_) 18 rfl rfl (by kernel_rfl) (by kernel_rfl) (by kernel_rfl) (fun _ _ _ h => h) (Or.inl ⟨by rfl, ?_⟩) hSx ?_
                    rotate_left 1
                    · intro w' hSw
                      try dsimp only at hSw
                      obtain ⟨q1, q2⟩ := hSw
                      go_simp
                      all_goals with_reducible rfl
                    try simp only [Act.put, List.setIfInBounds_toArray, List.set_cons_zero, List.set_cons_succ]
                    refine held_take (i := 10) (v := ?_) 19 rfl rfl (by kernel_rfl) (by kernel_rfl) (by kernel_rfl) (fun _ _ _ h => h) (Or.inl ⟨by rfl, ?_⟩) hSx ?_
                    rotate_left 1
                    · intro w' hSw
                      try dsimp only at hSw
                      obtain ⟨q1, q2⟩ := hSw
                      go_simp
                      all_goals with_reducible rfl
                    try simp only [Act.put, List.setIfInBounds_toArray, List.set_cons_zero, List.set_cons_succ]
                    refine wpAnyH_done (by kernel_rfl) (noPanic_normal ?_) _
                    clear hSx hC2 k3 k5 hX hS1 hG1
                    try simp only [Act.put, List.setIfInBounds_toArray, List.set_cons_zero, List.set_cons_succ]
                    generalize sigL a (onL a) [] = xs at *
                    generalize sigL a (onL a) loss = ys at *
                    go_wp2_with fail
                    go_loopw [20, 21] (fun v i wr => ∃ t : Nat, i = .int .i64 (t : Int) ∧ t ≤ n1 ∧ v = .int .i64 (misTo xs ys t) ∧ Below Y6.heap.size Y6 wr) (fun v i wr => n1 - (intOf i).toNat)
                    case atStart => exact ⟨0, rfl, Nat.zero_le _, rfl, Below.refl _ _⟩
                    case round =>
                      obtain ⟨t, rfl, ht, rfl, hb9⟩ := hrel
                      by_cases hlt : t < n1
                      · have hyk := get_getD (l := ys) (i := t) 0 (by rw [hyl0.out, ← hn1e.out]; exact hlt)
                        have hxk := get_getD (l := xs) (i := t) 0 (by rw [hxl0.out, ← hn1e.out]; exact hlt)
                        obtain ⟨bP, oP, hA, -, hbP, y0⟩ := (hU2.below hb9).int hyk
                        obtain ⟨bM, oM, hA2, -, hbM, x0⟩ := (hU1.below hb9).int hxk
                        have hms : Hid (misTo xs ys (t + 1) = misTo xs ys t + magI (xs.getD t 0 - ys.getD t 0)) := rfl
                        have b1 := hxb.out t
                        have b2 := hyb.out t
                        have b3 := hbm.out t
                        have hmg := magI_bd (n := xs.getD t 0 - ys.getD t 0) (B := 16000000) (by omega) (by omega)
                        have hM := fun W => flip_w (Mag_any (xs.getD t 0 - ys.getD t 0) W (by omega) (by omega))
                        rw [show magS (xs.getD t 0 - ys.getD t 0) = magI (xs.getD t 0 - ys.getD t 0) from rfl] at hM
                        generalize xs.getD t 0 = p1 at *
                        generalize ys.getD t 0 = q1 at *
                        generalize misTo xs ys t = m1 at *
                        subst hA hA2
                        clear hyk hxk
                        have u1 := IntWalk.i64_in (p1 - q1) (by omega)
                        have hk0 : (0 : Int) ≤ (t : Int) := by omega
                        have hk1 : (t : Int) < (n1 : Int) := by omega
                        have u3 := IntWalk.i64_in (m1 + magI (p1 - q1)) (by omega)
                        have hw64 : Hid (wrap64 (m1 + magI (p1 - q1)) = m1 + magI (p1 - q1)) := by show _ = _; unfold wrap64; omega
                        generalize hg : magI (p1 - q1) = gg at *
                        clear hg hmg
                        go_wp2_with fail
                        go_quiet ((go_at_call 58; with_reducible exact Calls.quiet_of_same (hM _)))
                        go_wp2_with fail
                        go_roundw
                        case rel => exact ⟨t + 1, by go_num, by omega, by first | (rw [hms.out]; done) | (rw [hms.out, hw64.out]), below_drewN hb9 _⟩
                        case measure => simp [intOf]; omega
                      · obtain rfl : t = n1 := by omega
                        rw [← hn1e.out] at hsd2
                        replace b := b.trans (hb9.mono b.size)
                        replace hL := hL.below hb9
                        replace ho1 := ho1.below hb9
                        replace k4 := k4.below hb9
                        clear hb9 hU1 hU2 hxb hyb hbm hxl0 hyl0 ht hlt
                        generalize misTo xs ys t = mv at *
                        generalize wr = Y7 at *
                        clear wr
                        go_wp2_with fail
                        replace hsd2 := Lib.hid hsd2
                        go_loopw [22, 23] (fun f k wr => ∃ j : Nat, k = .int .i64 (j : Int) ∧ f = .bool (holdsOne ((lossS a l0 3).take j) loss) ∧ j ≤ i ∧ Below Y7.heap.size Y7 wr) (fun f k wr => i - (intOf k).toNat)
                        case atStart => exact ⟨0, rfl, rfl, Nat.zero_le _, Below.refl _ _⟩
                        case round =>
                          obtain ⟨j, rfl, rfl, hj, hb10⟩ := hrel
                          by_cases hlt2 : j < i
                          · have hj0 : (0 : Int) ≤ (j : Int) := by omega
                            have hj1 : (j : Int) < (i : Int) := by omega
                            obtain ⟨x, hx⟩ := some_of_lt hLl.out hlt2
                            obtain ⟨bq1, oq1, A1, m1, d1, hA1, -, x1, hX1⟩ := (hL.below hb10).at_ hx
                            subst hA1
                            have htk : holdsOne ((lossS a l0 3).take (j + 1)) loss = (holdsOne ((lossS a l0 3).take j) loss || hasAll x loss) := by unfold holdsOne; rw [List.take_add_one, hx, List.any_append]; simp
                            have hW := within_any A1 O m1 d1 no co 0 0 x loss wr hX1 (ho1.below hb10)
                            replace hx := Lib.hid hx
                            cases hz : holdsOne ((lossS a l0 3).take j) loss with
                            | true =>
                              rw [hz, Bool.true_or] at htk
                              replace htk := Lib.hid htk
                              clear hW hz
                              go_wp2_with fail
                              go_roundw
                              case rel => exact ⟨j + 1, by go_num, by rw [htk.out], by omega, hb10⟩
                              case measure => simp [intOf]; omega
                            | false =>
                              rw [hz, Bool.false_or] at htk
                              replace htk := Lib.hid htk
                              clear hz
                              generalize hasAll x loss = ha2 at *
                              go_wp2_with fail
                              refine hW.mono ?_
                              rintro e w' ⟨rfl, rfl⟩
                              go_wp2_with fail
                              go_roundw
                              case rel => exact ⟨j + 1, by go_num, by rw [htk.out], by omega, hb10⟩
                              case measure => simp [intOf]; omega
                          · obtain rfl : j = i := by omega
                            rw [List.take_of_length_le (by rw [hLl.out]; exact Nat.le_refl _)]
                            have k4r := k4.below hb10
                            replace b := b.trans (hb10.mono b.size)
                            obtain ⟨c4, f4, l4⟩ := k4r.rules
                            have hsd2 : holdsOne (lossS a l0 3) loss = true ∨ mv ≤ l0 := hsd2.out
                            cases hz : holdsOne (lossS a l0 3) loss with
                            | true =>
                              clear hsd2
                              go_wp2_with fail
                              refine (works_any _).mono ?_
                              rintro e Wz ⟨rfl, hb⟩
                              go_wp2_with fail
                              go_ret
                              exact ⟨rfl, b.trans (hb.mono b.size)⟩
                            | false =>
                              rw [hz] at hsd2
                              have hmv : mv ≤ l0 := hsd2.resolve_left (by decide)
                              have hmv2 : (mv ≤ l0) = True := eq_true hmv
                              clear hsd2 hmv
                              go_wp2_with fail
                              refine (works_any _).mono ?_
                              rintro e Wz ⟨rfl, hb⟩
                              go_wp2_with fail
                              go_ret
                              exact ⟨rfl, b.trans (hb.mono b.size)⟩
                  · have g1 : ((nx : Int) + (no : Int) = (k : Int)) = False := eq_false (by omega)
                    have g2 : ((nx : Int) + (no : Int) == (k : Int)) = false := by rw [beq_eq_false_iff_ne]; omega
                    have g3 : ((nx : Int) + (no : Int) != (k : Int)) = true := by rw [bne, g2]; rfl
                    replace h35 := Lib.hid h35
                    clear hls hlk hsd
                    go_wp2_with fail
                    refine (works_any _).mono ?_
                    rintro e Wz ⟨rfl, hb⟩
                    go_wp2_with fail
                    go_ret
                    exact ⟨rfl, b.trans (hb.mono b.size)⟩
            · have hB := fun W => show Calls _ _ _ _ _ from by have := Between_any (no : Int) 1 (min 3 ((ng : Int) - 1)) W; rw [decide_eq_false hbt] at this; exact this
              replace hbt := Lib.hid hbt
              go_wp2_with fail
              refine (hB _).mono ?_
              rintro e w' ⟨rfl, rfl⟩
              go_wp2_with fail
              refine (works_any _).mono ?_
              rintro e Wz ⟨rfl, hb⟩
              go_wp2_with fail
              go_ret
              exact ⟨rfl, b.trans (hb.mono b.size)⟩
  · have hv1 : ∃ er : Int, lossR a l0 3 = ([], er) ∧ (er != 0) = true := by
      unfold lossR
      by_cases ha : okArr a = true
      · rw [if_pos ha, if_neg (by intro h; exact hc ⟨ha, h.1⟩)]; exact ⟨7, rfl, rfl⟩
      · rw [if_neg ha]; exact ⟨50, rfl, rfl⟩
    obtain ⟨er, hv1, hz⟩ := hv1
    simp only [hv1] at h1
    have hz2 : (er = 0) = False := eq_false (by intro h; rw [h] at hz; simp at hz)
    have hz3 : (er == 0) = false := by rw [beq_eq_false_iff_ne]; intro h; rw [h] at hz; simp at hz
    clear hv1 hc
    go_enter Try.func10, Try.ntmps10
    go_upto_region 1 with fail
    rw [← hw1]
    clear hw1
    obtain ⟨c3, f3, l3⟩ := k3.rules
    obtain ⟨c4, f4, l4⟩ := k4.rules
    go_wp2_with fail
    refine (h1 _ hS1 hG1).mono ?_
    rintro e W ⟨L, nl, cl, rfl, hL, hb⟩
    clear c3 f3 l3 c4 f4 l4 h1
    replace k3 := k3.below hb
    replace k4 := k4.below hb
    replace b := b.trans (hb.mono b.size)
    replace hS1 := hS1.below hb
    replace hG1 := hG1.below hb
    replace ho1 := ho1.below hb
    clear hb
    obtain rfl : nl = 0 := hL.1.symm
    clear hL
    go_wp2_with fail
    refine (works_any _).mono ?_
    rintro e Wz ⟨rfl, hb⟩
    go_wp2_with fail
    go_ret
    exact ⟨rfl, b.trans (hb.mono b.size)⟩
end Go.Proofs.Ytfengddpfeneiaa
