/-
  The law ShotRepeats.
-/
import Derived.Test.YtfengddpfeneiaaS28
import Derived.Test.YtfengddpfeneiaaS40
import Derived.Test.YtfengddpfeneiaaS46
namespace Go.Proofs.Ytfengddpfeneiaa
open Go.RowKit Go.Shelf
set_option linter.unusedSimpArgs false
set_option linter.unusedVariables false

theorem boundR_nil (r : Rul) (l : List Int) : (boundR r l []).2 = errJ r l 1 := by
  unfold boundR
  by_cases h : errJ r l 1 = 0
  · rw [if_pos h, if_pos (by simp), h]; rfl
  · rw [if_neg h]
set_option maxRecDepth 100000 in
set_option maxHeartbeats 4000000 in
theorem ShotRepeats_any (r : Rul) (A : Option Addr) (n c : Nat) (l : List Int) (w : World) (hs : SlAt w 0 1 ivs A n c l) :
    Calls Try.prog 19 #[.agg #[.int .i64 r.row, .int .i64 r.win, .int .i64 r.many, .int .i64 r.total], .slice A n c] w fun e w' => e = .returned (.bool true) ∧ Below w.heap.size w w' := by
  have h1 := fun W h => Repeat_any r l A n c 0 W h
  have h2 := fun W h => Prove_any r l A n c 0 W h
  have h3 := fun W h => RBound_any r l [] A none n c 0 0 0 W h (SlAt.nil _ _ _ _)
  have hl := Lib.hid hs.len
  rw [boundR_nil] at h3
  generalize (boundR r l []).1 = bn at *
  unfold RetSl at h1
  unfold RetPrv at h2
  obtain ⟨w1, hw1⟩ : ∃ w1, w1 = w.alloc (.cells #[.int .i64 r.row, .int .i64 r.win, .int .i64 r.many, .int .i64 r.total] 57) := ⟨_, rfl⟩
  have k3 : Blk w1 w.heap.size 57 #[.int .i64 r.row, .int .i64 r.win, .int .i64 r.many, .int .i64 r.total] := by rw [hw1]; exact Blk.new _ _ _
  have b : Below w.heap.size w w1 := by rw [hw1]; exact (Below.refl _ _).alloc (Nat.le_refl _) _
  have hs1 : SlAt w1 0 1 ivs A n c l := by rw [hw1]; exact hs.alloc _
  clear hs
  by_cases her : errJ r l 1 = 0
  · have hr : okRul r = true := by unfold errJ at her; split at her; assumption; cases her
    have hres : okRes l 1 = true := by
      unfold errJ at her; rw [if_pos hr] at her; split at her; assumption; cases her
    have hisr := isRes_of hres
    have hn256 : n ≤ 256 := by have := hisr.2; rw [hl.out] at this; exact this
    have hB := Lib.hid (fun p (h : PrvOk r l p) => boundR_proof her hr hisr.1 hisr.2 (h.1 her))
    have hok := Lib.hid (repL_ok r hisr.1)
    have hjk := judge_keep hr l
    rw [← zeroAt_repL r hisr.1] at hjk
    have hjk2 := Lib.hid (decide_eq_true hjk)
    have hfew := Lib.hid (fewTo_rep hr hisr.1)
    have h5 := fun W h => RFewest_any r hr l A n c 0 W hn256 h
    have h6 := fun (X : Option Addr) (nx cx : Nat) (W : World) h h' => RRepeats_any r hr l (repL r l) hok.out A X n c nx cx 0 0 W hn256 h h'
    rw [hfew.out] at h5
    rw [hjk2.out] at h6
    have hrp : repR r l = (repL r l, 0) := by unfold repR; rw [if_pos her]
    rw [hrp] at h1
    clear hrp hjk hisr hres
    rw [her] at h2 h3
    replace her := Lib.hid her
    go_enter Try.func19, Try.ntmps19
    go_wp2_with fail
    rw [← hw1]
    clear hw1
    obtain ⟨c3, f3, l3⟩ := k3.rules
    go_wp2_with fail
    refine (h1 _ hs1).mono ?_
    rintro e W ⟨X, nx, cx, rfl, hX, hb⟩
    clear c3 f3 l3 h1
    replace hX := hX.mono (Nat.zero_le _)
    replace k3 := k3.below hb
    replace b := b.trans (hb.mono b.size)
    replace hs1 := hs1.below hb
    skip
    clear hb
    obtain ⟨c3, f3, l3⟩ := k3.rules
    go_wp2_with fail
    refine (h2 _ hs1).mono ?_
    rintro e W2 ⟨P, np, cp, p, rfl, hP, hpr, hb⟩
    clear c3 f3 l3 h2
    replace hP := hP.mono (Nat.zero_le _)
    replace k3 := k3.below hb
    replace b := b.trans (hb.mono b.size)
    replace hs1 := hs1.below hb
    replace hX := hX.below hb
    clear hb
    obtain ⟨c3, f3, l3⟩ := k3.rules
    go_wp2_with fail
    refine (h3 _ hs1).mono ?_
    rintro e W3 ⟨rfl, hb⟩
    clear c3 f3 l3 h3
    replace k3 := k3.below hb
    replace b := b.trans (hb.mono b.size)
    replace hs1 := hs1.below hb
    (replace hX := hX.below hb); (replace hP := hP.below hb)
    clear hb
    have hxl := hX.len
    have hB2 := hB.out p hpr
    rw [hxl] at h5 hB2
    have h4 := fun W h h' => RBound_any r l p A P n c np cp 0 W h h'
    rw [hB2] at h4
    replace hxl := Lib.hid hxl
    clear hpr hB2 hB
    obtain ⟨c3, f3, l3⟩ := k3.rules
    go_wp2_with fail
    refine (h4 _ hs1 hP).mono ?_
    rintro e W4 ⟨rfl, hb⟩
    clear c3 f3 l3 h4
    replace k3 := k3.below hb
    replace b := b.trans (hb.mono b.size)
    replace hs1 := hs1.below hb
    replace hX := hX.below hb
    clear hb
    obtain ⟨c3, f3, l3⟩ := k3.rules
    go_wp2_with fail
    refine (h5 _ hs1).mono ?_
    rintro e W5 ⟨rfl, hb⟩
    clear c3 f3 l3 h5
    replace k3 := k3.below hb
    replace b := b.trans (hb.mono b.size)
    replace hs1 := hs1.below hb
    replace hX := hX.below hb
    clear hb
    obtain ⟨c3, f3, l3⟩ := k3.rules
    go_wp2_with fail
    refine (h6 _ _ _ _ hs1 hX).mono ?_
    rintro e W6 ⟨rfl, hb⟩
    clear c3 f3 l3 h6
    replace k3 := k3.below hb
    replace b := b.trans (hb.mono b.size)
    replace hs1 := hs1.below hb
    skip
    clear hb
    go_wp2_with fail
    refine (works_any _).mono ?_
    rintro e W8 ⟨rfl, hb⟩
    go_wp2_with fail
    go_ret
    exact ⟨rfl, b.trans (hb.mono b.size)⟩
  · have hrp : repR r l = ([], errJ r l 1) := by unfold repR; rw [if_neg her]
    rw [hrp] at h1
    have hpe := Lib.hid (fun p (h : PrvOk r l p) => h.2 her)
    clear hrp
    generalize errJ r l 1 = q at *
    have hz2 : (q != 0) = true := by rw [bne_iff_ne]; exact her
    replace her := Lib.hid her
    go_enter Try.func19, Try.ntmps19
    go_wp2_with fail
    rw [← hw1]
    clear hw1
    obtain ⟨c3, f3, l3⟩ := k3.rules
    go_wp2_with fail
    refine (h1 _ hs1).mono ?_
    rintro e W ⟨X, nx, cx, rfl, hX, hb⟩
    clear c3 f3 l3 h1
    replace hX := hX.mono (Nat.zero_le _)
    replace k3 := k3.below hb
    replace b := b.trans (hb.mono b.size)
    replace hs1 := hs1.below hb
    skip
    clear hb
    obtain ⟨c3, f3, l3⟩ := k3.rules
    go_wp2_with fail
    refine (h2 _ hs1).mono ?_
    rintro e W2 ⟨P, np, cp, p, rfl, hP, hpr, hb⟩
    clear c3 f3 l3 h2
    replace hP := hP.mono (Nat.zero_le _)
    replace k3 := k3.below hb
    replace b := b.trans (hb.mono b.size)
    replace hs1 := hs1.below hb
    replace hX := hX.below hb
    clear hb
    obtain ⟨c3, f3, l3⟩ := k3.rules
    go_wp2_with fail
    refine (h3 _ hs1).mono ?_
    rintro e W3 ⟨rfl, hb⟩
    clear c3 f3 l3 h3
    replace k3 := k3.below hb
    replace b := b.trans (hb.mono b.size)
    replace hs1 := hs1.below hb
    (replace hX := hX.below hb); (replace hP := hP.below hb)
    clear hb
    obtain rfl := hpe.out p hpr
    obtain rfl : nx = 0 := hX.len.symm
    obtain rfl : np = 0 := hP.len.symm
    clear hX hP hpr hpe
    go_wp2_with fail
    refine (works_any _).mono ?_
    rintro e W8 ⟨rfl, hb⟩
    go_wp2_with fail
    go_ret
    exact ⟨rfl, b.trans (hb.mono b.size)⟩
end Go.Proofs.Ytfengddpfeneiaa
