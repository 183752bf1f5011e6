/-
  The law TowStrained.
-/
import Derived.Test.YtjiaepphnddpoaaE1
import Derived.Test.YtjiaepphnddpoaaH2
namespace Go.Proofs.Ytjiaepphnddpoaa
open Go.RowKit Go.Shelf
set_option linter.unusedSimpArgs false
set_option linter.unusedVariables false

theorem pullR_bendR {s : Strm} {l : List Bnd} {v : Int} {d : Bnd} (h : (pullR s l v d).2 = 0) : errB s l = 0 ∧ okSpeed v = true ∧ okBnd 50 d = true ∧ pullR s l v d = (pullL s l v d, 0) ∧ bendR s l = (bendL s l, 0) := by
  unfold pullR at h
  by_cases h1 : errB s l = 0
  · rw [if_pos h1] at h
    by_cases h2 : okSpeed v = true
    · rw [if_pos h2] at h
      by_cases h3 : okBnd 50 d = true
      · exact ⟨h1, h2, h3, by rw [pullR, if_pos h1, if_pos h2, if_pos h3], by rw [bendR, if_pos h1]⟩
      · rw [if_neg h3] at h; simp at h
    · rw [if_neg h2] at h; simp at h
  · rw [if_neg h1] at h; exact absurd h h1
theorem pullR_none {s : Strm} {l : List Bnd} {v : Int} {d : Bnd} (h : (pullR s l v d).2 ≠ 0) : (pullR s l v d).1 = [] := by
  unfold pullR at *
  split
  · rename_i h1
    rw [if_pos h1] at h
    split
    · rename_i h2
      rw [if_pos h2] at h
      split
      · rename_i h3
        rw [if_pos h3] at h; exact absurd rfl h
      · rfl
    · rfl
  · rfl
set_option maxRecDepth 100000 in
set_option maxHeartbeats 4000000 in
theorem TowStrained_any (s : Strm) (A O D : Option Addr) (n c no co nd cd : Nat) (l : List Bnd) (v : Int) (d : Bnd) (bits : List Int) (w : World) (hs : SlAt w 0 5 Sec.cells A n c s.secs) (hl : SlAt w 0 2 Bnd.cells O no co l) (hq : SlAt w 0 1 ivs D nd cd bits) :
    Calls Try.prog 8 #[.agg #[.int .i64 s.head, .slice A n c, .int .i64 s.lane.lo, .int .i64 s.lane.hi, .int .i64 s.bend, .slice O no co], .int .i64 v, .agg #[.int .i64 d.lo, .int .i64 d.hi], .slice D nd cd] w fun e w' => e = .returned (.bool true) ∧ Below w.heap.size w w' := by
  obtain ⟨w1, hw1⟩ : ∃ w1, w1 = (w.alloc (.cells #[.int .i64 s.head, .slice A n c, .int .i64 s.lane.lo, .int .i64 s.lane.hi, .int .i64 s.bend, .slice O no co] 37)).alloc (.cells #[.int .i64 d.lo, .int .i64 d.hi] 24) := ⟨_, rfl⟩
  have k2 : Blk w1 w.heap.size 37 #[.int .i64 s.head, .slice A n c, .int .i64 s.lane.lo, .int .i64 s.lane.hi, .int .i64 s.bend, .slice O no co] := by rw [hw1]; exact (Blk.new _ _ _).alloc _
  have k3 : Blk w1 (w.heap.size + 1) 24 #[.int .i64 d.lo, .int .i64 d.hi] := by rw [hw1]; have := Blk.new (w.alloc (.cells #[.int .i64 s.head, .slice A n c, .int .i64 s.lane.lo, .int .i64 s.lane.hi, .int .i64 s.bend, .slice O no co] 37)) 24 #[.int .i64 d.lo, .int .i64 d.hi]; rw [World.size_alloc] at this; exact this
  have b : Below w.heap.size w w1 := by rw [hw1]; exact ((Below.refl _ _).alloc (Nat.le_refl _) _).alloc (by simp) _
  replace hs : SlAt w1 0 5 Sec.cells A n c s.secs := by rw [hw1]; exact (hs.alloc _).alloc _
  replace hl : SlAt w1 0 2 Bnd.cells O no co l := by rw [hw1]; exact (hl.alloc _).alloc _
  replace hq : SlAt w1 0 1 ivs D nd cd bits := by rw [hw1]; exact (hq.alloc _).alloc _
  by_cases he : (pullR s l v d).2 = 0
  · obtain ⟨e1, e2, e3, e4, e5⟩ := pullR_bendR he
    obtain ⟨ho, hb0⟩ := errB_zero e1
    have hP := fun W h1 h2 => Pulls_any s A O n c no co 0 0 l v d W h1 h2
    have hB := fun W h1 h2 => Bends_any s A O n c no co 0 0 l W h1 h2
    simp only [e4] at hP
    simp only [e5] at hB
    have hno : n = no := by have := okOffs_len hb0; have := hl.len; have := hs.len; omega
    subst hno
    have hn8 : n ≤ 8 := by have := ok_head ho; unfold headOk at this; have := hs.len; omega
    clear he e4 e5
    replace e1 := Lib.hid e1
    have e2' := of_decide_eq_true (p := 0 ≤ v ∧ v ≤ 100) e2
    obtain ⟨d1, d2, d3⟩ := of_decide_eq_true (p := -50 ≤ d.lo ∧ d.lo ≤ d.hi ∧ d.hi ≤ 50) e3
    obtain ⟨v1, v2⟩ := e2'
    replace e2 := Lib.hid e2
    replace e3 := Lib.hid e3
    replace ho := Lib.hid ho
    replace hb0 := Lib.hid hb0
    have hlen := Lib.hid hl.len
    have hslen := Lib.hid hs.len
    go_enter Try.func8, Try.ntmps8
    go_wp2_with fail
    rw [← hw1]
    clear hw1
    refine (hP _ hs hl).mono ?_
    clear hP
    rintro e W ⟨P1, n1, m1, rfl, hr1, hbel⟩
    obtain rfl : n = n1 := by have h8 := hr1.len; dsimp only at h8; have h9 : (pullL s l v d).length = l.length := (by unfold pullL; simp); have := hlen.out; omega
    replace k2 := k2.below hbel
    replace k3 := k3.below hbel
    replace b := b.trans (hbel.mono b.size)
    replace hs := hs.below hbel
    replace hl := hl.below hbel
    replace hq := hq.below hbel
    clear hbel
    obtain ⟨c2, f2, l2⟩ := k2.rules
    obtain ⟨c3, f3, l3⟩ := k3.rules
    go_wp2_with fail
    refine (hB _ hs hl).mono ?_
    clear hB
    rintro e W ⟨P2, n2, m2, rfl, hr2, hbel⟩
    obtain rfl : n = n2 := by have := hr2.len; rw [bendL_length] at this; have := hlen.out; omega
    replace hr1 := hr1.below hbel
    clear c2 f2 l2 c3 f3 l3
    replace k2 := k2.below hbel
    replace k3 := k3.below hbel
    replace b := b.trans (hbel.mono b.size)
    replace hs := hs.below hbel
    replace hl := hl.below hbel
    replace hq := hq.below hbel
    clear hbel
    obtain ⟨c2, f2, l2⟩ := k2.rules
    obtain ⟨c3, f3, l3⟩ := k3.rules
    go_wp2_with fail
    refine (inside_any l bits 0 O D n co nd cd 0 0 _ (by omega) (by omega) hl hq).mono ?_
    rintro e W ⟨P3, m3, rfl, hr3, hbel⟩
    replace hr1 := hr1.below hbel
    replace hr2 := hr2.below hbel
    clear c2 f2 l2 c3 f3 l3
    replace k2 := k2.below hbel
    replace k3 := k3.below hbel
    replace b := b.trans (hbel.mono b.size)
    replace hs := hs.below hbel
    replace hl := hl.below hbel
    replace hq := hq.below hbel
    clear hbel
    obtain ⟨c2, f2, l2⟩ := k2.rules
    obtain ⟨c3, f3, l3⟩ := k3.rules
    go_wp2_with fail
    have hmax := max2_int
    have hr := restS_bd (pickS bits 9) (many := d.hi - d.lo + 1) (by omega)
    have hR := fun a W => flip_w (Rest_any a (d.hi - d.lo + 1) W (by omega))
    obtain ⟨q, hq9⟩ : ∃ q, q = restS (pickS bits 9) (d.hi - d.lo + 1) := ⟨_, rfl⟩
    rw [← hq9] at hr
    have hR9 := fun W => hR (pickS bits 9) W
    simp only [← hq9] at hR9
    clear hR
    obtain ⟨r1, r2⟩ := hr
    have u1 := IntWalk.i64_in (v - d.lo) (by omega)
    have u2 := IntWalk.i64_in (d.hi - d.lo) (by omega)
    have u3 := IntWalk.i64_in (d.hi - d.lo + 1) (by omega)
    have u4 := IntWalk.i64_in (v - d.lo - q) (by omega)
    replace hq9 := Lib.hid hq9
    obtain ⟨c2, f2, l2⟩ := k2.rules
    obtain ⟨c3, f3, l3⟩ := k3.rules
    go_wp2_with fail
    go_quiet ((first | (go_at_call 35; exact Calls.quiet_of_same (flip_w (Pick_any bits 9 D nd cd 0 _ (hq.drewN _)))) | (go_at_call 34; exact Calls.quiet_of_same (hR9 _))))
    clear u1 u2 u3 u4 hR9
    have hbel : Below W.heap.size W (W.drewN nq) := below_drewN (Below.refl _ _) nq
    replace hr1 := hr1.below hbel
    replace hr2 := hr2.below hbel
    replace hr3 := hr3.below hbel
    clear c2 f2 l2 c3 f3 l3
    replace k2 := k2.below hbel
    replace k3 := k3.below hbel
    replace b := b.trans (hbel.mono b.size)
    replace hs := hs.below hbel
    replace hl := hl.below hbel
    replace hq := hq.below hbel
    clear hbel
    generalize W.drewN nq = W at *
    have hw0 : 0 ≤ max 0 (v - d.lo - q) ∧ max 0 (v - d.lo - q) ≤ 150 := by omega
    have hin : inB (d.lo + q) d := ⟨by omega, by omega⟩
    have hwv : Hid (max 0 (v - (d.lo + q)) = max 0 (v - d.lo - q)) := by show _ = _; congr 1; omega
    generalize hwv2 : max 0 (v - d.lo - q) = wv at *
    have hLies := insL_lies bits 0 (okOffs_all hb0.out)
    have hlo : (insL l bits 0).length = n := by rw [insL_len]; exact hlen.out
    have hbend := fun i (_ : True) => bendAt_bd (ok_head ho.out) (hLies.range (okOffs_all hb0.out)) i
    have hbin := fun i (hi : i < n) => hLies.bend (s := s) (i := i) (by rw [hlen.out]; exact hi)
    have hpin := fun i (hi : i < n) => Lies.pull (v := v) (cur := d) ho.out (okOffs_len hb0.out) hLies hin (i := i) (by rw [hlen.out]; exact hi)
    rw [hwv.out, hlen.out] at hpin
    obtain ⟨hw1, hw2⟩ := hw0
    have hsum := fun i (hi : i ≤ n) => sumFr_bd (g := pullAt s wv (bendAt s (insL l bits 0))) (M := 100000000) (n - i) i fun j a c => pullAt_bd ho.out (by have := hslen.out; omega) hw1 hw2 (hbend j trivial)
    have hrng := hLies.range (okOffs_all hb0.out)
    have hh := ok_head ho.out
    have hhd : -2000 ≤ s.head ∧ s.head ≤ 2000 := by unfold headOk at hh; omega
    obtain ⟨hhd1, hhd2⟩ := hhd
    generalize insL l bits 0 = tr at *
    replace hbin := Lib.hid hbin
    replace hpin := Lib.hid hpin
    replace hsum := Lib.hid hsum
    replace hrng := Lib.hid hrng
    replace hbend := Lib.hid hbend
    replace hwv2 := Lib.hid hwv2
    replace hlo := Lib.hid hlo
    clear hwv hh hLies hin
    obtain ⟨c2, f2, l2⟩ := k2.rules
    go_wp2_with fail
    clear c2 f2 l2
    go_loopw [16, 17] (fun t i wr => ∃ k : Nat, i = .int .i64 ((k : Int) - 1) ∧ k ≤ n ∧ t = .int .i64 (sumFr (pullAt s wv (bendAt s tr)) k (n - k)) ∧ Below W.heap.size W wr) (fun t i wr => (intOf i + 1).toNat)
    case atStart => exact ⟨n, rfl, Nat.le_refl _, by rw [Nat.sub_self]; rfl, Below.refl _ _⟩
    case round =>
      obtain ⟨k, rfl, hk, rfl, hb⟩ := hrel
      cases k with
      | zero =>
        rw [show (((0 : Nat) : Int) - 1) = -1 from rfl]
        go_wp2_with fail
        refine (works_any _).mono ?_
        rintro e W' ⟨rfl, hbel⟩
        go_wp2
        go_ret
        exact ⟨rfl, (b.trans (hb.mono b.size)).trans (hbel.mono (Nat.le_trans b.size hb.size))⟩
      | succ m =>
        rw [show (((m + 1 : Nat) : Int) - 1) = (m : Int) from by omega]
        have hm0 : (0 : Int) ≤ (m : Int) := by omega
        have hm1 : (m : Int) < (n : Int) := by omega
        obtain ⟨x, hx⟩ := some_of_lt hlo.out (show m < n by omega)
        obtain ⟨z, hz⟩ := some_of_lt (show (bendL s l).length = n by rw [bendL_length, hlen.out]) (show m < n by omega)
        obtain ⟨p, hp⟩ := some_of_lt (show (pullL s l v d).length = n by unfold pullL; simp; exact hlen.out) (show m < n by omega)
        have hms : m < s.secs.length := by have := hslen.out; omega
        obtain ⟨x1, x2⟩ := hrng.out x (List.mem_of_getElem? hx)
        have hzb := hbin.out m (by omega)
        have hpb := hpin.out m (by omega)
        rw [getD_of _ hz] at hzb
        rw [getD_of _ hp] at hpb
        have hstep : sumFr (pullAt s wv (bendAt s tr)) m (n - m) = sumFr (pullAt s wv (bendAt s tr)) (m + 1) (n - (m + 1)) + (s.sec m).drag * (wv * wv + bendAt s tr m) := by
          rw [show n - m = (n - (m + 1)) + 1 by omega, sumFr_down]; rfl
        obtain ⟨s1, s2⟩ := hsum.out (m + 1) (by omega)
        obtain ⟨s3, s4⟩ := hsum.out m (by omega)
        have hg := hbend.out m trivial
        have hdr : 0 ≤ (s.sec m).drag ∧ (s.sec m).drag ≤ 1000 := by
          obtain ⟨k0, k1, k2, k3, k4, k5, k6, k7, k8, k9⟩ := of_decide_eq_true (ok_sec ho.out hms)
          omega
        obtain ⟨g1, g2⟩ := hg
        obtain ⟨y, hy⟩ : ∃ y, y = prev s.head tr m := ⟨_, rfl⟩
        have hyb : -16384 ≤ y ∧ y ≤ 16384 := by
          rw [hy]
          cases m with
          | zero => show -16384 ≤ s.head ∧ s.head ≤ 16384; omega
          | succ q =>
            obtain ⟨y', hy'⟩ := some_of_lt hlo.out (show q < n by omega)
            have : prev s.head tr (q + 1) = y' := getD_of _ hy'
            rw [this]
            exact hrng.out y' (List.mem_of_getElem? hy')
        obtain ⟨y1, y2⟩ := hyb
        have hbe : bendAt s tr m = magS (x - y) := by unfold bendAt; rw [getD_of _ hx, hy]
        have hM := fun W => Mag_any (x - y) W (by omega) (by omega)
        rw [← hbe] at hM
        replace hbe := Lib.hid hbe
        obtain ⟨bA, oA, hA, -, hlA, -, -, -, c3, -⟩ := (hs.below hb).sec (sec_at s hms)
        obtain ⟨bt, ot, ht, -, hlt, e0⟩ := (hr3.below hb).int hx
        obtain ⟨bz, oz, hZ, -, hlz, z0, z1⟩ := (hr2.below hb).bnd hz
        obtain ⟨bp, op, hPp, -, hlp, p0, p1⟩ := (hr1.below hb).bnd hp
        have k2w := k2.below hb
        obtain ⟨m1, m2⟩ := mul_bd wv wv 150 150 hw1 hw2 (by omega) hw2 (by omega)
        have m0 : 0 ≤ wv * wv := Int.mul_nonneg hw1 hw1
        obtain ⟨m3, m4⟩ := mul_bd (s.sec m).drag (wv * wv + bendAt s tr m) 1000 100000 hdr.1 hdr.2 (by omega) (by omega) (by omega)
        have hn8' : ((n - (m + 1) : Nat) : Int) * 100000000 ≤ 800000000 := by omega
        have hn9' : ((n - m : Nat) : Int) * 100000000 ≤ 800000000 := by omega
        have u1 := IntWalk.i64_in (x - y) (by omega)
        have u2 := IntWalk.i64_in (wv * wv) (by omega)
        have u3 := IntWalk.i64_in (wv * wv + bendAt s tr m) (by omega)
        have u4 := IntWalk.i64_in ((s.sec m).drag * (wv * wv + bendAt s tr m)) (by omega)
        have u5 := IntWalk.i64_in (sumFr (pullAt s wv (bendAt s tr)) (m + 1) (n - (m + 1)) + (s.sec m).drag * (wv * wv + bendAt s tr m)) (by omega)
        have hB1 := fun W => flip_w (Between_any (bendAt s tr m) z.lo z.hi W)
        have hB2 := fun W => flip_w (Between_any (sumFr (pullAt s wv (bendAt s tr)) (m + 1) (n - (m + 1)) + (s.sec m).drag * (wv * wv + bendAt s tr m)) p.lo p.hi W)
        simp only [decide_eq_true (show z.lo ≤ bendAt s tr m ∧ bendAt s tr m ≤ z.hi from hzb)] at hB1
        rw [hstep] at hpb
        simp only [decide_eq_true (show p.lo ≤ _ ∧ _ ≤ p.hi from hpb)] at hB2
        replace hstep := Lib.hid hstep
        clear hzb hpb m1 m2 m0 m3 m4 s1 s2 s3 s4 hn8' hn9' g1 g2 hdr
        generalize (s.sec m).drag = dg at *
        generalize bendAt s tr m = bd at *
        generalize sumFr (pullAt s wv (bendAt s tr)) (m + 1) (n - (m + 1)) = sm at *
        replace hx := Lib.hid hx
        replace hz := Lib.hid hz
        replace hp := Lib.hid hp
        subst hA
        subst ht
        subst hZ
        subst hPp
        replace hy := Lib.hid hy
        by_cases hmz : m = 0
        · have hyh : y = s.head := by rw [hy.out, hmz]; rfl
          subst hyh
          have hno : ¬ (0 : Int) < (m : Int) := by omega
          replace hmz := Lib.hid hmz
          obtain ⟨c2, f2, l2⟩ := k2w.rules
          go_wp2_with fail
          go_quiet (fail)
          go_wp2_with fail
          refine (hM _).mono ?_
          rintro e W' ⟨rfl, rfl⟩
          go_wp2_with fail
          go_quiet ((first | (go_at_call 32; with_reducible exact quiet_more (hB1 _)) | (go_at_call 32; with_reducible exact quiet_more (hB2 _))))
          go_wp2
          go_roundw
          case rel => exact ⟨m, rfl, by omega, by rw [hstep.out], below_drewN hb _⟩
          case measure => simp [intOf]
        · obtain ⟨q, hqm⟩ : ∃ q : Nat, m = q + 1 := ⟨m - 1, by omega⟩
          obtain ⟨y', hy'⟩ := some_of_lt hlo.out (show q < n by omega)
          have hyy : y = y' := hy.out.trans (by rw [hqm]; exact getD_of _ hy')
          subst hyy
          obtain ⟨bt2, ot2, ht2, -, hlt2, e1⟩ := (hr3.below hb).int hy'
          cases ht2
          replace hy' := Lib.hid hy'
          have hpos : (0 : Int) < (m : Int) := by omega
          have u6 : IntKind.i64.wrap ((m : Int) - 1) = (q : Int) := by rw [IntWalk.i64_in _ (by omega)]; omega
          have hq0 : (0 : Int) ≤ (q : Int) := by omega
          have hq1 : (q : Int) < (n : Int) := by omega
          replace hqm := Lib.hid hqm
          replace hmz := Lib.hid hmz
          have u7 := IntWalk.i64_in (x - s.head) (by omega)
          obtain ⟨c2, f2, l2⟩ := k2w.rules
          go_wp2_with fail
          go_quiet (fail)
          clear u7
          go_wp2_with fail
          go_quiet (fail)
          go_wp2_with fail
          refine (hM _).mono ?_
          rintro e W' ⟨rfl, rfl⟩
          go_wp2_with fail
          go_quiet ((first | (go_at_call 32; with_reducible exact quiet_more (hB1 _)) | (go_at_call 32; with_reducible exact quiet_more (hB2 _))))
          go_wp2
          go_roundw
          case rel => exact ⟨m, by congr 1; have := hqm.out; omega, by omega, by rw [hstep.out], below_drewN hb _⟩
          case measure => have := hqm.out; simp [intOf]; omega
  · have hP := fun W h1 h2 => Pulls_any s A O n c no co 0 0 l v d W h1 h2
    have hnil := pullR_none he
    generalize pullR s l v d = r at *
    obtain ⟨r1, r2⟩ := r
    dsimp only at hnil he hP
    subst hnil
    go_enter Try.func8, Try.ntmps8
    go_wp2_with fail
    rw [← hw1]
    clear hw1
    refine (hP _ hs hl).mono ?_
    clear hP
    rintro e W ⟨P1, n1, m1, rfl, hr1, hbel⟩
    obtain rfl : n1 = 0 := hr1.len.symm
    replace k2 := k2.below hbel
    replace k3 := k3.below hbel
    replace b := b.trans (hbel.mono b.size)
    replace hs := hs.below hbel
    replace hl := hl.below hbel
    replace hq := hq.below hbel
    clear hbel
    obtain ⟨c2, f2, l2⟩ := k2.rules
    obtain ⟨c3, f3, l3⟩ := k3.rules
    go_wp2_with fail
    refine (Bends_any s A O n c no co 0 0 l _ hs hl).mono ?_
    rintro e W ⟨P2, n2, m2, rfl, hr2, hbel⟩
    clear c2 f2 l2 c3 f3 l3
    replace k2 := k2.below hbel
    replace k3 := k3.below hbel
    replace b := b.trans (hbel.mono b.size)
    replace hs := hs.below hbel
    replace hl := hl.below hbel
    replace hq := hq.below hbel
    clear hbel
    go_wp2_with fail
    refine (works_any _).mono ?_
    rintro e W ⟨rfl, hbel⟩
    go_wp2
    go_ret
    exact ⟨rfl, b.trans (hbel.mono b.size)⟩
end Go.Proofs.Ytjiaepphnddpoaa
