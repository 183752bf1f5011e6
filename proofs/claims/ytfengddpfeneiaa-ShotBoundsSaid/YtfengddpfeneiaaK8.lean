/-
  The law ShotBounds.
-/
import Derived.Test.YtfengddpfeneiaaS28
import Derived.Test.YtfengddpfeneiaaS40
namespace Go.Proofs.Ytfengddpfeneiaa
open Go.RowKit Go.Shelf
set_option linter.unusedSimpArgs false
set_option linter.unusedVariables false

set_option maxRecDepth 100000 in
set_option maxHeartbeats 4000000 in
theorem ShotBounds_any (r : Rul) (A P : Option Addr) (n c np cp : Nat) (l : List Int) (p : List Clm) (w : World) (hs : SlAt w 0 1 ivs A n c l) (hp : SlAt w 0 2 Clm.cells P np cp p) :
    Calls Try.prog 8 #[.agg #[.int .i64 r.row, .int .i64 r.win, .int .i64 r.many, .int .i64 r.total], .slice A n c, .slice P np cp] w fun e w' => e = .returned (.bool true) ∧ Below w.heap.size w w' := by
  have h1 := fun W h h' => Bound_any r l p A P n c np cp 0 W h h'
  have h2 := fun W h h' => RBound_any r l p A P n c np cp 0 W h h'
  generalize boundR r l p = r1 at *
  obtain ⟨w1, hw1⟩ : ∃ w1, w1 = w.alloc (.cells #[.int .i64 r.row, .int .i64 r.win, .int .i64 r.many, .int .i64 r.total] 57) := ⟨_, rfl⟩
  have k3 : Blk w1 w.heap.size 57 #[.int .i64 r.row, .int .i64 r.win, .int .i64 r.many, .int .i64 r.total] := by rw [hw1]; exact Blk.new _ _ _
  have b : Below w.heap.size w w1 := by rw [hw1]; exact (Below.refl _ _).alloc (Nat.le_refl _) _
  have hs1 : SlAt w1 0 1 ivs A n c l := by rw [hw1]; exact hs.alloc _
  have hp1 : SlAt w1 0 2 Clm.cells P np cp p := by rw [hw1]; exact hp.alloc _
  clear hs hp
  go_enter Try.func8, Try.ntmps8
  go_wp2_with fail
  rw [← hw1]
  clear hw1
  obtain ⟨c3, f3, l3⟩ := k3.rules
  go_wp2_with fail
  refine (h1 _ hs1 hp1).mono ?_
  rintro e W ⟨rfl, hb⟩
  clear c3 f3 l3 h1
  replace k3 := k3.below hb
  replace b := b.trans (hb.mono b.size)
  replace hs1 := hs1.below hb
  replace hp1 := hp1.below hb
  clear hb
  obtain ⟨c3, f3, l3⟩ := k3.rules
  go_wp2_with fail
  refine (h2 _ hs1 hp1).mono ?_
  rintro e W2 ⟨rfl, hb⟩
  clear c3 f3 l3 h2
  replace k3 := k3.below hb
  replace b := b.trans (hb.mono b.size)
  replace hs1 := hs1.below hb
  replace hp1 := hp1.below hb
  clear hb
  go_wp2_with fail
  refine (works_any _).mono ?_
  rintro e W8 ⟨rfl, hb⟩
  go_wp2_with fail
  go_ret
  exact ⟨rfl, b.trans (hb.mono b.size)⟩
end Go.Proofs.Ytfengddpfeneiaa
