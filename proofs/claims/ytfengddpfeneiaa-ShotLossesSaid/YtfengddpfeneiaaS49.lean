/-
  Shots, walks: Losses of the specification.
-/
import Derived.Test.YtfengddpfeneiaaS25
import Derived.Test.YtfengddpfeneiaaS48
namespace Go.Proofs.Ytfengddpfeneiaa
open Go.RowKit Go.Shelf
set_option linter.unusedSimpArgs false
set_option linter.unusedVariables false

set_option maxRecDepth 100000 in
set_option maxHeartbeats 4000000 in
theorem RLosses_any (a : Arr) (limit most : Int) (S G : Option Addr) (ns cs ng cg : Nat) (w : World) (hS : SlAt w 0 1 ivs S ns cs a.sh) (hG : SlAt w 0 4 Gun.cells G ng cg a.gs) :
    Calls Try.prog 26 #[.agg #[.slice S ns cs, .slice G ng cg], .int .i64 limit, .int .i64 most] w (RetLo (lossR a limit most) w) := by
  have hsl := Lib.hid hS.len
  have hgl := Lib.hid hG.len
  have hck := fun W h1 h2 => RCheckA_any a S G ns cs ng cg W h1 h2
  obtain ⟨w1, hw1⟩ : ∃ w1, w1 = w.alloc (.cells #[.slice S ns cs, .slice G ng cg] 25) := ⟨_, rfl⟩
  have k3 : Blk w1 w.heap.size 25 #[.slice S ns cs, .slice G ng cg] := by rw [hw1]; exact Blk.new _ _ _
  have b : Below w.heap.size w w1 := by rw [hw1]; exact (Below.refl _ _).alloc (Nat.le_refl _) _
  have hS1 : SlAt w1 0 1 ivs S ns cs a.sh := by rw [hw1]; exact hS.alloc _
  have hG1 : SlAt w1 0 4 Gun.cells G ng cg a.gs := by rw [hw1]; exact hG.alloc _
  clear hS hG
  unfold lossR
  by_cases ha : okArr a = true
  · rw [if_pos ha]
    rw [show chkArr a = 0 from by unfold chkArr; rw [if_pos ha]] at hck
    have har := okArr_len ha
    unfold arrLen at har
    rw [hsl.out, hgl.out] at har
    obtain ⟨r1, r2, r3, r4⟩ := har
    by_cases hr : 0 ≤ limit ∧ 1 ≤ most ∧ most ≤ 3
    · rw [if_pos hr]
      obtain ⟨hr1, hr2, hr3⟩ := hr
      have hl1 : (limit < 0) = False := eq_false (by omega)
      have hB := fun W => (show Calls _ _ _ _ _ from by have := Between_any most 1 3 W; rw [decide_eq_true ⟨hr2, hr3⟩] at this; exact this)
      obtain ⟨M, hM⟩ : ∃ M, (min most ((a.gs.length : Int) - 1)).toNat = M := ⟨_, rfl⟩
      have hfin : Hid (lossTo a limit M = lossS a limit most) := by show _ = _; unfold lossS; rw [hM]
      rw [hgl.out] at hM
      have hM1 : (M : Int) ≤ most := by omega
      have hM2 : M + 1 ≤ ng := by omega
      have hM3 : (most ≤ (M : Int)) ∨ ng ≤ M + 1 := by omega
      have hM4 : M ≤ 3 := by omega
      have hst := Lib.hid (fun k => show lossTo a limit (k + 1) = srchS a limit (k + 1) 0 [] (lossTo a limit k) from rfl)
      clear hM
      replace hM3 := Lib.hid hM3
      replace hr2 := Lib.hid hr2
      replace hr3 := Lib.hid hr3
      go_enter Try.func26, Try.ntmps26
      go_wp2_with fail
      rw [← hw1]
      clear hw1
      obtain ⟨c3, f3, l3⟩ := k3.rules
      go_wp2_with fail
      refine (hck _ hS1 hG1).mono ?_
      rintro e W ⟨rfl, hb⟩
      clear c3 f3 l3 hck
      replace k3 := k3.below hb
      replace b := b.trans (hb.mono b.size)
      replace hS1 := hS1.below hb
      replace hG1 := hG1.below hb
      clear hb
      have hlS : lowB W.heap.size S := fun q o e => (hS1.blk (by omega) q o e).2
      have hlG : lowB W.heap.size G := fun q o e => (hG1.blk (by omega) q o e).2
      have hls := losses_all a ha limit S G ns cs ng cg W.heap.size hlS hlG
      unfold LsFor at hls
      go_wp2_with fail
      refine (hB _).mono ?_
      rintro e w' ⟨rfl, rfl⟩
      clear hB hlS hlG
      go_wp2_with fail
      go_loopw [9, 10] (fun v i wr => ∃ (k : Nat) (O : Option Addr) (no co : Nat), i = .int .i64 ((k + 1 : Nat) : Int) ∧ k ≤ M ∧ v = .slice O no co ∧ LsOut wr W.heap.size O no co (lossTo a limit k) ∧ RwFr none W wr ∧ no ≤ k * 512) (fun v i wr => ng + 1 - (intOf i).toNat)
      case atStart => exact ⟨0, none, 0, 0, rfl, Nat.zero_le _, rfl, LsOut.nil _ _, RwFr.refl _ _, Nat.le_refl _⟩
      case round =>
        obtain ⟨k, O, no, co, rfl, hk, rfl, hO, hfr, hno⟩ := hrel
        have hb := hfr.below
        have k3r := k3.below hb
        have hsz := hb.size
        obtain ⟨c3, f3, l3⟩ := k3r.rules
        obtain ⟨k1, hk1⟩ : ∃ k1, k + 1 = k1 := ⟨_, rfl⟩
        rw [hk1]
        have hk10 : (0 : Int) ≤ (k1 : Int) := by omega
        have hk1b : k1 ≤ 4 := by omega
        by_cases hlt : k < M
        · have h5 : (k1 : Int) ≤ most := by omega
          have h6 : k1 < ng := by omega
          have h8 : 8 ^ k1 ≤ 512 := by
            have : k1 = 1 ∨ k1 = 2 ∨ k1 = 3 := by omega
            rcases this with rfl | rfl | rfl <;> decide
          have h9 := hst.out k
          rw [hk1] at h9
          have h10 := fun Wx hs1 hs2 hs3 => hls k1 [] none 0 0 0 (lossTo a limit k) O no co Wx hs1 hs2 hs3 (SlAt.nil _ _ _ _) (fun h => absurd h (by omega)) (fun h => absurd h (by omega)) (by omega) (by omega) (by omega)
          rw [← h9] at h10
          replace h9 := Lib.hid h9
          have uk := IntWalk.i64_in ((k1 : Int) + 1) (by omega)
          replace hk1 := Lib.hid hk1
          go_wp2_with fail
          refine (h10 _ (hS1.below hb) (hG1.below hb) hO (by omega) (by omega)).mono ?_
          rintro e W3 ⟨O3, no3, co3, rfl, hO3, hfr3, hrw3, hno3⟩
          have hfrA := hfr.trans hfr3 (fun q e => .inr ((hO.row q e).1))
          clear hO hfr hfr3 hrw3 hb k3r c3 f3 l3 h10
          go_wp2_with fail
          go_roundw
          case rel => exact ⟨k + 1, O3, no3, co3, by rw [hk1.out]; go_num, by omega, rfl, by rw [hk1.out]; exact hO3, hfrA, by omega⟩
          case measure => have := hk1.out; simp [intOf]; omega
        · obtain rfl : k = M := by omega
          have hL := hO.lls (by omega)
          rw [hfin.out] at hL
          replace hk1 := Lib.hid hk1
          have hfinal : RetLo (lossS a limit most, 0) w (.returned (.tuple #[.slice O no co, .int .i64 0])) wr := ⟨O, no, co, rfl, hL.mono b.size, b.trans (hb.mono b.size)⟩
          replace hfinal := Lib.hid hfinal
          by_cases h5 : (k1 : Int) ≤ most
          · have h6 : ¬ k1 < ng := by have := hM3.out; have := hk1.out; omega
            have h6b : (k1 < ng) = False := eq_false h6
            go_wp2_with fail
            go_ret2
            exact hfinal.out
          · have h5b : ((k1 : Int) ≤ most) = False := eq_false h5
            go_wp2_with fail
            go_ret2
            exact hfinal.out
    · rw [if_neg hr]
      by_cases hl0 : limit < 0
      · have hl1 : (limit < 0) = True := eq_true hl0
        go_enter Try.func26, Try.ntmps26
        go_wp2_with fail
        rw [← hw1]
        clear hw1
        obtain ⟨c3, f3, l3⟩ := k3.rules
        go_wp2_with fail
        refine (hck _ hS1 hG1).mono ?_
        rintro e W ⟨rfl, hb⟩
        clear c3 f3 l3 hck
        replace k3 := k3.below hb
        replace b := b.trans (hb.mono b.size)
        replace hS1 := hS1.below hb
        replace hG1 := hG1.below hb
        clear hb
        go_wp2_with fail
        go_ret2
        exact RetLo.none_ b
      · have hl1 : (limit < 0) = False := eq_false hl0
        have hB := fun W => (show Calls _ _ _ _ _ from by have := Between_any most 1 3 W; rw [decide_eq_false (fun h => hr ⟨by omega, h.1, h.2⟩)] at this; exact this)
        replace hr := Lib.hid hr
        go_enter Try.func26, Try.ntmps26
        go_wp2_with fail
        rw [← hw1]
        clear hw1
        obtain ⟨c3, f3, l3⟩ := k3.rules
        go_wp2_with fail
        refine (hck _ hS1 hG1).mono ?_
        rintro e W ⟨rfl, hb⟩
        clear c3 f3 l3 hck
        replace k3 := k3.below hb
        replace b := b.trans (hb.mono b.size)
        replace hS1 := hS1.below hb
        replace hG1 := hG1.below hb
        clear hb
        go_wp2_with fail
        refine (hB _).mono ?_
        rintro e w' ⟨rfl, rfl⟩
        go_wp2_with fail
        go_ret2
        exact RetLo.none_ b
  · rw [if_neg ha]
    rw [show chkArr a = 50 from by unfold chkArr; rw [if_neg ha]] at hck
    go_enter Try.func26, Try.ntmps26
    go_wp2_with fail
    rw [← hw1]
    clear hw1
    obtain ⟨c3, f3, l3⟩ := k3.rules
    go_wp2_with fail
    refine (hck _ hS1 hG1).mono ?_
    rintro e W ⟨rfl, hb⟩
    clear c3 f3 l3 hck
    replace k3 := k3.below hb
    replace b := b.trans (hb.mono b.size)
    replace hS1 := hS1.below hb
    replace hG1 := hG1.below hb
    clear hb
    go_wp2_with fail
    go_ret2
    exact RetLo.none_ b
end Go.Proofs.Ytfengddpfeneiaa
