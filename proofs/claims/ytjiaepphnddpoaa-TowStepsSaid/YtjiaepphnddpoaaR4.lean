/-
  The specification's package: Step.
-/
import Derived.Test.YtjiaepphnddpoaaR3
namespace Go.Proofs.Ytjiaepphnddpoaa
open Go.RowKit Go.Shelf

set_option maxRecDepth 100000 in
set_option maxHeartbeats 2000000 in
theorem RStep_any (s : Strm) (A O D : Option Addr) (n c no co nd cd B1 B2 B3 : Nat) (o d : List Int) (w : World) (hs : SlAt w B1 5 Sec.cells A n c s.secs) (ho : SlAt w B2 1 ivs O no co o) (hd : SlAt w B3 1 ivs D nd cd d) :
    Calls Try.prog 17 #[.agg #[.int .i64 s.head, .slice A n c, .int .i64 s.lane.lo, .int .i64 s.lane.hi, .int .i64 s.bend], .slice O no co, .slice D nd cd] w (RetSl 1 ivs (stepR s o d) w) := by
  have hl := hs.len
  have hchk := fun W (hW : Below w.heap.size w W) => RCheck_any s A n c B1 W (hs.below hW)
  have hal1 := fun W (hW : Below w.heap.size w W) => RAll_any O no co B2 o (n : Int) 16384 W (by omega) (by omega) (ho.below hW)
  have hal2 := fun W (hW : Below w.heap.size w W) => RAll_any D nd cd B3 d (n : Int) 100 W (by omega) (by omega) (hd.below hW)
  have e1 : (decide ((no : Int) = (n : Int)) && o.all (okNum 16384)) = okNums s o 16384 := by unfold okNums; rw [ho.len, hl]; congr 1; apply dec_eq; omega
  have e2 : (decide ((nd : Int) = (n : Int)) && d.all (okNum 100)) = okNums s d 100 := by unfold okNums; rw [hd.len, hl]; congr 1; apply dec_eq; omega
  simp only [e1] at hal1
  simp only [e2] at hal2
  clear e1 e2
  cases h1 : okStrm s
  · have hv : stepR s o d = ([], 30) := by simp [stepR, h1]
    have hk : chkStrm s = 30 := by simp [chkStrm, h1]
    rw [hv]
    simp only [hk] at hchk
    clear hv hk h1 hal1 hal2 hl
    go_enter Try.func17, Try.ntmps17
    go_wp2_with fail
    refine (hchk _ ((Below.refl _ _).alloc (Nat.le_refl _) _)).mono ?_
    rintro e w1 ⟨rfl, hb1⟩
    have k3 := (Blk.new w 26 #[.int .i64 s.head, .slice A n c, .int .i64 s.lane.lo, .int .i64 s.lane.hi, .int .i64 s.bend]).below hb1
    have b1 := ((Below.refl w.heap.size w).alloc (Nat.le_refl _) _).trans (hb1.mono (by simp))
    clear hb1 hchk
    go_wp2
    go_ret2
    exact RetSl.none_ b1
  · have hk : chkStrm s = 0 := by simp [chkStrm, h1]
    simp only [hk] at hchk
    cases h2 : okNums s o 16384
    · have hv : stepR s o d = ([], 31) := by simp [stepR, h1, h2]
      rw [hv]
      simp only [h2] at hal1
      clear hv hk h1 h2 hal2 hl
      go_enter Try.func17, Try.ntmps17
      go_wp2_with fail
      refine (hchk _ ((Below.refl _ _).alloc (Nat.le_refl _) _)).mono ?_
      rintro e w1 ⟨rfl, hb1⟩
      have k3 := (Blk.new w 26 #[.int .i64 s.head, .slice A n c, .int .i64 s.lane.lo, .int .i64 s.lane.hi, .int .i64 s.bend]).below hb1
      have b1 := ((Below.refl w.heap.size w).alloc (Nat.le_refl _) _).trans (hb1.mono (by simp))
      clear hb1 hchk
      obtain ⟨c3, f3, l3⟩ := k3.rules
      go_wp2_with fail
      refine (hal1 _ b1).mono ?_
      rintro e w2 ⟨rfl, hb1⟩
      clear c3 f3 l3 hal1
      replace k3 := k3.below hb1
      replace b1 := b1.trans (hb1.mono b1.size)
      clear hb1
      go_wp2
      go_ret2
      exact RetSl.none_ b1
    · simp only [h2] at hal1
      cases h3 : okNums s d 100
      · have hv : stepR s o d = ([], 32) := by simp [stepR, h1, h2, h3]
        rw [hv]
        simp only [h3] at hal2
        clear hv hk h1 h2 h3 hl
        go_enter Try.func17, Try.ntmps17
        go_wp2_with fail
        refine (hchk _ ((Below.refl _ _).alloc (Nat.le_refl _) _)).mono ?_
        rintro e w1 ⟨rfl, hb1⟩
        have k3 := (Blk.new w 26 #[.int .i64 s.head, .slice A n c, .int .i64 s.lane.lo, .int .i64 s.lane.hi, .int .i64 s.bend]).below hb1
        have b1 := ((Below.refl w.heap.size w).alloc (Nat.le_refl _) _).trans (hb1.mono (by simp))
        clear hb1 hchk
        obtain ⟨c3, f3, l3⟩ := k3.rules
        go_wp2_with fail
        refine (hal1 _ b1).mono ?_
        rintro e w2 ⟨rfl, hb1⟩
        clear c3 f3 l3 hal1
        replace k3 := k3.below hb1
        replace b1 := b1.trans (hb1.mono b1.size)
        clear hb1
        obtain ⟨c3, f3, l3⟩ := k3.rules
        go_wp2_with fail
        refine (hal2 _ b1).mono ?_
        rintro e w3 ⟨rfl, hb1⟩
        go_wp2
        go_ret2
        exact RetSl.none_ (b1.trans (hb1.mono b1.size))
      · have hv : stepR s o d = (stepL s o d, 0) := by simp [stepR, h1, h2, h3]
        have hno : n = no := by have := okNums_len h2; have := ho.len; omega
        have hnd : n = nd := by have := okNums_len h3; have := hd.len; omega
        subst hno
        subst hnd
        have hstep := fun W (hW : Below w.heap.size w W) => Rstep_any s A O D n c co cd B1 B2 B3 o d W h1 h2 h3 (hs.below hW) (ho.below hW) (hd.below hW)
        rw [hv]
        simp only [h3] at hal2
        clear hv hk h1 h2 h3 hl
        replace hstep := Lib.hid hstep
        go_enter Try.func17, Try.ntmps17
        go_wp2_with fail
        refine (hchk _ ((Below.refl _ _).alloc (Nat.le_refl _) _)).mono ?_
        rintro e w1 ⟨rfl, hb1⟩
        have k3 := (Blk.new w 26 #[.int .i64 s.head, .slice A n c, .int .i64 s.lane.lo, .int .i64 s.lane.hi, .int .i64 s.bend]).below hb1
        have b1 := ((Below.refl w.heap.size w).alloc (Nat.le_refl _) _).trans (hb1.mono (by simp))
        clear hb1 hchk
        obtain ⟨c3, f3, l3⟩ := k3.rules
        go_wp2_with fail
        refine (hal1 _ b1).mono ?_
        rintro e w2 ⟨rfl, hb1⟩
        clear c3 f3 l3 hal1
        replace k3 := k3.below hb1
        replace b1 := b1.trans (hb1.mono b1.size)
        clear hb1
        obtain ⟨c3, f3, l3⟩ := k3.rules
        go_wp2_with fail
        refine (hal2 _ b1).mono ?_
        rintro e w3 ⟨rfl, hb1⟩
        clear c3 f3 l3 hal2
        replace k3 := k3.below hb1
        replace b1 := b1.trans (hb1.mono b1.size)
        clear hb1
        obtain ⟨c3, f3, l3⟩ := k3.rules
        go_wp2_with fail
        refine (hstep.out _ b1).mono ?_
        rintro e w4 ⟨P, pc, rfl, hr, hb1⟩
        go_wp2
        go_ret2
        exact ⟨P, n, pc, rfl, hr.mono b1.size, b1.trans (hb1.mono b1.size)⟩
end Go.Proofs.Ytjiaepphnddpoaa
