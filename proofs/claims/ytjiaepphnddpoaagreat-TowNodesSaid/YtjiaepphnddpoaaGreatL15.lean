/-
  The law TowNodes.
-/
import Derived.Test.YtjiaepphnddpoaaGreatE1
import Derived.Test.YtjiaepphnddpoaaGreatR18
namespace Go.Proofs.YtjiaepphnddpoaaGreat
open Go.RowKit Go.Shelf
set_option linter.unusedSimpArgs false
set_option linter.unusedVariables false

set_option maxRecDepth 100000 in
set_option maxHeartbeats 4000000 in
theorem TowNodes_any (s : Strm) (A O : Option Addr) (n c no co : Nat) (bs : List Bnd) (p : Pnt) (h : Hdg) (w : World) (hs : SlAt w 0 5 Sec.cells A n c s.secs) (hl : SlAt w 0 2 Bnd.cells O no co bs) :
    Calls Tryz.prog 6 #[.agg #[.int .i64 s.head, .slice A n c, .int .i64 s.lane.lo, .int .i64 s.lane.hi, .int .i64 s.bend, .slice O no co], .agg #[.int .i64 p.x, .int .i64 p.y, .int .i64 h.p, .int .i64 h.q, .int .i64 h.c]] w fun e w' => e = .returned (.bool true) ∧ Below w.heap.size w w' := by
  obtain ⟨w1, hw1⟩ : ∃ w1, w1 = (w.alloc (.cells #[.int .i64 s.head, .slice A n c, .int .i64 s.lane.lo, .int .i64 s.lane.hi, .int .i64 s.bend, .slice O no co] 29)).alloc (.cells #[.int .i64 p.x, .int .i64 p.y, .int .i64 h.p, .int .i64 h.q, .int .i64 h.c] 61) := ⟨_, rfl⟩
  have k2 : Blk w1 w.heap.size 29 #[.int .i64 s.head, .slice A n c, .int .i64 s.lane.lo, .int .i64 s.lane.hi, .int .i64 s.bend, .slice O no co] := by rw [hw1]; exact (Blk.new _ _ _).alloc _
  have k3 : Blk w1 (w.heap.size + 1) 61 #[.int .i64 p.x, .int .i64 p.y, .int .i64 h.p, .int .i64 h.q, .int .i64 h.c] := by rw [hw1]; exact Blk.newAt (by simp)
  have b : Below w.heap.size w w1 := by rw [hw1]; exact ((Below.refl _ _).alloc (Nat.le_refl _) _).alloc (by simp) _
  replace hs : SlAt w1 0 5 Sec.cells A n c s.secs := by rw [hw1]; exact (hs.alloc _).alloc _
  replace hl : SlAt w1 0 2 Bnd.cells O no co bs := by rw [hw1]; exact (hl.alloc _).alloc _
  have h1 := fun W h1 h2 => Nodes_any s A O n c no co 0 0 bs W h1 h2
  have h2 := fun W h1 h2 => RNodes_any s A O n c no co 0 0 bs W h1 h2
  have h3 := fun W h1 h2 => Where_any s A O n c no co bs p h W h1 h2
  have h4 := fun W h1 h2 => RWhere_any s A O n c no co bs p h W h1 h2
  generalize nodesR s bs = r1 at *
  generalize whereR s bs p h = r2 at *
  obtain ⟨x1, x2⟩ := r1
  obtain ⟨y1, y2⟩ := r2
  unfold RetSl at h1 h2 h3 h4
  dsimp only at h1 h2 h3 h4
  go_enter Tryz.func6, Tryz.ntmps6
  go_wp2_with fail
  rw [← hw1]
  clear hw1
  refine (h1 _ hs hl).mono ?_
  rintro e W ⟨P1, n1, m1, rfl, hr1, hbel⟩
  replace k2 := k2.below hbel
  replace k3 := k3.below hbel
  replace b := b.trans (hbel.mono b.size)
  replace hs := hs.below hbel
  replace hl := hl.below hbel
  clear hbel h1
  obtain ⟨c2, f2, l2⟩ := k2.rules
  obtain ⟨c3, f3, l3⟩ := k3.rules
  go_wp2_with fail
  clear c2 f2 l2 c3 f3 l3
  refine (h2 _ hs hl).mono ?_
  rintro e W ⟨P2, n2, m2, rfl, hr2, hbel⟩
  replace hr1 := hr1.below hbel
  replace k2 := k2.below hbel
  replace k3 := k3.below hbel
  replace b := b.trans (hbel.mono b.size)
  replace hs := hs.below hbel
  replace hl := hl.below hbel
  clear hbel h2
  have hC := placesEq_any P1 P2 n1 m1 n2 m2 _ _ _ _ hr1 hr2
  clear hr1 hr2
  go_wp2_with fail
  refine hC.mono ?_
  clear hC
  rintro e W ⟨rfl, hbel⟩
  replace k2 := k2.below hbel
  replace k3 := k3.below hbel
  replace b := b.trans (hbel.mono b.size)
  replace hs := hs.below hbel
  replace hl := hl.below hbel
  clear hbel
  obtain ⟨c2, f2, l2⟩ := k2.rules
  obtain ⟨c3, f3, l3⟩ := k3.rules
  go_wp2_with fail
  clear c2 f2 l2 c3 f3 l3
  refine (h3 _ hs hl).mono ?_
  rintro e W ⟨P1, n1, m1, rfl, hr1, hbel⟩
  replace k2 := k2.below hbel
  replace k3 := k3.below hbel
  replace b := b.trans (hbel.mono b.size)
  replace hs := hs.below hbel
  replace hl := hl.below hbel
  clear hbel h3
  obtain ⟨c2, f2, l2⟩ := k2.rules
  obtain ⟨c3, f3, l3⟩ := k3.rules
  go_wp2_with fail
  clear c2 f2 l2 c3 f3 l3
  refine (h4 _ hs hl).mono ?_
  rintro e W ⟨P2, n2, m2, rfl, hr2, hbel⟩
  replace hr1 := hr1.below hbel
  replace k2 := k2.below hbel
  replace k3 := k3.below hbel
  replace b := b.trans (hbel.mono b.size)
  replace hs := hs.below hbel
  replace hl := hl.below hbel
  clear hbel h4
  have hC := placesEq_any P1 P2 n1 m1 n2 m2 _ _ _ _ hr1 hr2
  clear hr1 hr2
  go_wp2_with fail
  refine hC.mono ?_
  clear hC
  rintro e W ⟨rfl, hbel⟩
  replace k2 := k2.below hbel
  replace k3 := k3.below hbel
  replace b := b.trans (hbel.mono b.size)
  replace hs := hs.below hbel
  replace hl := hl.below hbel
  clear hbel
  go_wp2_with fail
  refine (works_any _).mono ?_
  rintro e W ⟨rfl, hbel⟩
  go_wp2
  go_ret
  exact ⟨rfl, b.trans (hbel.mono b.size)⟩
end Go.Proofs.YtjiaepphnddpoaaGreat
