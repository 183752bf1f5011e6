/-
  The laws TowEncloses and TowPulls.
-/
import Derived.Test.YtjiaepphnddpoaaE1
import Derived.Test.YtjiaepphnddpoaaR11
namespace Go.Proofs.Ytjiaepphnddpoaa
open Go.RowKit Go.Shelf
set_option linter.unusedSimpArgs false
set_option linter.unusedVariables false

set_option maxRecDepth 100000 in
set_option maxHeartbeats 4000000 in
theorem TowEncloses_any (s : Strm) (A O : Option Addr) (n c no co : Nat) (l : List Bnd) (d : Bnd) (w : World) (hs : SlAt w 0 5 Sec.cells A n c s.secs) (hl : SlAt w 0 2 Bnd.cells O no co l) :
    Calls Try.prog 4 #[.agg #[.int .i64 s.head, .slice A n c, .int .i64 s.lane.lo, .int .i64 s.lane.hi, .int .i64 s.bend, .slice O no co], .agg #[.int .i64 d.lo, .int .i64 d.hi]] w fun e w' => e = .returned (.bool true) ∧ Below w.heap.size w w' := by
  obtain ⟨w1, hw1⟩ : ∃ w1, w1 = (w.alloc (.cells #[.int .i64 s.head, .slice A n c, .int .i64 s.lane.lo, .int .i64 s.lane.hi, .int .i64 s.bend, .slice O no co] 37)).alloc (.cells #[.int .i64 d.lo, .int .i64 d.hi] 24) := ⟨_, rfl⟩
  have k2 : Blk w1 w.heap.size 37 #[.int .i64 s.head, .slice A n c, .int .i64 s.lane.lo, .int .i64 s.lane.hi, .int .i64 s.bend, .slice O no co] := by rw [hw1]; exact (Blk.new _ _ _).alloc _
  have k3 : Blk w1 (w.heap.size + 1) 24 #[.int .i64 d.lo, .int .i64 d.hi] := by rw [hw1]; have := Blk.new (w.alloc (.cells #[.int .i64 s.head, .slice A n c, .int .i64 s.lane.lo, .int .i64 s.lane.hi, .int .i64 s.bend, .slice O no co] 37)) 24 #[.int .i64 d.lo, .int .i64 d.hi]; rw [World.size_alloc] at this; exact this
  have b : Below w.heap.size w w1 := by rw [hw1]; exact ((Below.refl _ _).alloc (Nat.le_refl _) _).alloc (by simp) _
  replace hs : SlAt w1 0 5 Sec.cells A n c s.secs := by rw [hw1]; exact (hs.alloc _).alloc _
  replace hl : SlAt w1 0 2 Bnd.cells O no co l := by rw [hw1]; exact (hl.alloc _).alloc _
  go_enter Try.func4, Try.ntmps4
  go_wp2_with fail
  rw [← hw1]
  clear hw1
  have c2 := True.intro
  have f2 := True.intro
  have l2 := True.intro
  have c3 := True.intro
  have f3 := True.intro
  have l3 := True.intro
  refine (Enclose_any s A O n c no co 0 0 l d _ hs hl).mono ?_
  rintro e W ⟨P1, n1, m1, rfl, hr1, hbel⟩
  clear c2 f2 l2 c3 f3 l3
  replace k2 := k2.below hbel
  replace k3 := k3.below hbel
  replace b := b.trans (hbel.mono b.size)
  replace hs := hs.below hbel
  replace hl := hl.below hbel
  clear hbel
  obtain ⟨c2, f2, l2⟩ := k2.rules
  obtain ⟨c3, f3, l3⟩ := k3.rules
  go_wp2_with fail
  refine (REnclose_any s A O n c no co 0 0 l d _ hs hl).mono ?_
  rintro e W ⟨P2, n2, m2, rfl, hr2, hbel⟩
  clear c2 f2 l2 c3 f3 l3
  replace hr1 := hr1.below hbel
  replace k2 := k2.below hbel
  replace k3 := k3.below hbel
  replace b := b.trans (hbel.mono b.size)
  replace hs := hs.below hbel
  replace hl := hl.below hbel
  clear hbel
  have hC := alikeB_any P1 P2 n1 m1 n2 m2 _ _ _ _ _ hr1 hr2
  rw [decide_eq_true rfl] at hC
  clear hr1 hr2
  generalize (encR s l d).2 = er at *
  go_wp2_with fail
  refine hC.mono ?_
  clear hC
  rintro e W ⟨rfl, hbel⟩
  replace k2 := k2.below hbel
  replace k3 := k3.below hbel
  replace b := b.trans (hbel.mono b.size)
  replace hs := hs.below hbel
  replace hl := hl.below hbel
  clear hbel
  obtain ⟨c2, f2, l2⟩ := k2.rules
  obtain ⟨c3, f3, l3⟩ := k3.rules
  go_wp2_with fail
  refine (Bends_any s A O n c no co 0 0 l _ hs hl).mono ?_
  rintro e W ⟨P1, n1, m1, rfl, hr1, hbel⟩
  clear c2 f2 l2 c3 f3 l3
  replace k2 := k2.below hbel
  replace k3 := k3.below hbel
  replace b := b.trans (hbel.mono b.size)
  replace hs := hs.below hbel
  replace hl := hl.below hbel
  clear hbel
  obtain ⟨c2, f2, l2⟩ := k2.rules
  obtain ⟨c3, f3, l3⟩ := k3.rules
  go_wp2_with fail
  refine (RBends_any s A O n c no co 0 0 l _ hs hl).mono ?_
  rintro e W ⟨P2, n2, m2, rfl, hr2, hbel⟩
  clear c2 f2 l2 c3 f3 l3
  replace hr1 := hr1.below hbel
  replace k2 := k2.below hbel
  replace k3 := k3.below hbel
  replace b := b.trans (hbel.mono b.size)
  replace hs := hs.below hbel
  replace hl := hl.below hbel
  clear hbel
  have hC := alikeB_any P1 P2 n1 m1 n2 m2 _ _ _ _ _ hr1 hr2
  rw [decide_eq_true rfl] at hC
  clear hr1 hr2
  generalize (bendR s l).2 = er at *
  go_wp2_with fail
  refine hC.mono ?_
  clear hC
  rintro e W ⟨rfl, hbel⟩
  replace k2 := k2.below hbel
  replace k3 := k3.below hbel
  replace b := b.trans (hbel.mono b.size)
  replace hs := hs.below hbel
  replace hl := hl.below hbel
  clear hbel
  go_wp2_with fail
  refine (works_any _).mono ?_
  rintro e W ⟨rfl, hbel⟩
  go_wp2
  go_ret
  exact ⟨rfl, b.trans (hbel.mono b.size)⟩
set_option maxRecDepth 100000 in
set_option maxHeartbeats 4000000 in
theorem TowPulls_any (s : Strm) (A O : Option Addr) (n c no co : Nat) (l : List Bnd) (v : Int) (d : Bnd) (w : World) (hs : SlAt w 0 5 Sec.cells A n c s.secs) (hl : SlAt w 0 2 Bnd.cells O no co l) :
    Calls Try.prog 5 #[.agg #[.int .i64 s.head, .slice A n c, .int .i64 s.lane.lo, .int .i64 s.lane.hi, .int .i64 s.bend, .slice O no co], .int .i64 v, .agg #[.int .i64 d.lo, .int .i64 d.hi]] w fun e w' => e = .returned (.bool true) ∧ Below w.heap.size w w' := by
  obtain ⟨w1, hw1⟩ : ∃ w1, w1 = (w.alloc (.cells #[.int .i64 s.head, .slice A n c, .int .i64 s.lane.lo, .int .i64 s.lane.hi, .int .i64 s.bend, .slice O no co] 37)).alloc (.cells #[.int .i64 d.lo, .int .i64 d.hi] 24) := ⟨_, rfl⟩
  have k2 : Blk w1 w.heap.size 37 #[.int .i64 s.head, .slice A n c, .int .i64 s.lane.lo, .int .i64 s.lane.hi, .int .i64 s.bend, .slice O no co] := by rw [hw1]; exact (Blk.new _ _ _).alloc _
  have k3 : Blk w1 (w.heap.size + 1) 24 #[.int .i64 d.lo, .int .i64 d.hi] := by rw [hw1]; have := Blk.new (w.alloc (.cells #[.int .i64 s.head, .slice A n c, .int .i64 s.lane.lo, .int .i64 s.lane.hi, .int .i64 s.bend, .slice O no co] 37)) 24 #[.int .i64 d.lo, .int .i64 d.hi]; rw [World.size_alloc] at this; exact this
  have b : Below w.heap.size w w1 := by rw [hw1]; exact ((Below.refl _ _).alloc (Nat.le_refl _) _).alloc (by simp) _
  replace hs : SlAt w1 0 5 Sec.cells A n c s.secs := by rw [hw1]; exact (hs.alloc _).alloc _
  replace hl : SlAt w1 0 2 Bnd.cells O no co l := by rw [hw1]; exact (hl.alloc _).alloc _
  go_enter Try.func5, Try.ntmps5
  go_wp2_with fail
  rw [← hw1]
  clear hw1
  have c2 := True.intro
  have f2 := True.intro
  have l2 := True.intro
  have c3 := True.intro
  have f3 := True.intro
  have l3 := True.intro
  refine (Pulls_any s A O n c no co 0 0 l v d _ hs hl).mono ?_
  rintro e W ⟨P1, n1, m1, rfl, hr1, hbel⟩
  clear c2 f2 l2 c3 f3 l3
  replace k2 := k2.below hbel
  replace k3 := k3.below hbel
  replace b := b.trans (hbel.mono b.size)
  replace hs := hs.below hbel
  replace hl := hl.below hbel
  clear hbel
  obtain ⟨c2, f2, l2⟩ := k2.rules
  obtain ⟨c3, f3, l3⟩ := k3.rules
  go_wp2_with fail
  refine (RPulls_any s A O n c no co 0 0 l v d _ hs hl).mono ?_
  rintro e W ⟨P2, n2, m2, rfl, hr2, hbel⟩
  clear c2 f2 l2 c3 f3 l3
  replace hr1 := hr1.below hbel
  replace k2 := k2.below hbel
  replace k3 := k3.below hbel
  replace b := b.trans (hbel.mono b.size)
  replace hs := hs.below hbel
  replace hl := hl.below hbel
  clear hbel
  have hC := alikeB_any P1 P2 n1 m1 n2 m2 _ _ _ _ _ hr1 hr2
  rw [decide_eq_true rfl] at hC
  clear hr1 hr2
  generalize (pullR s l v d).2 = er at *
  go_wp2_with fail
  refine hC.mono ?_
  clear hC
  rintro e W ⟨rfl, hbel⟩
  replace k2 := k2.below hbel
  replace k3 := k3.below hbel
  replace b := b.trans (hbel.mono b.size)
  replace hs := hs.below hbel
  replace hl := hl.below hbel
  clear hbel
  go_wp2_with fail
  refine (works_any _).mono ?_
  rintro e W ⟨rfl, hbel⟩
  go_wp2
  go_ret
  exact ⟨rfl, b.trans (hbel.mono b.size)⟩
end Go.Proofs.Ytjiaepphnddpoaa
