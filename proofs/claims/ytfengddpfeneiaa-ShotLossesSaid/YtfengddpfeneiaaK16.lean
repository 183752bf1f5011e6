/-
  The law ShotLosses.
-/
import Derived.Test.YtfengddpfeneiaaS28
import Derived.Test.YtfengddpfeneiaaS49
namespace Go.Proofs.Ytfengddpfeneiaa
open Go.RowKit Go.Shelf
set_option linter.unusedSimpArgs false
set_option linter.unusedVariables false

theorem AlikeLists_same (A C : Option Addr) (na ca nb cb B1 B2 : Nat) (xs : List (List Int)) (w : World) (h1 : LLs w B1 A na ca xs) (h2 : LLs w B2 C nb cb xs) :
    Calls Try.prog 27 #[.slice A na ca, .slice C nb cb] w fun e w' => e = .returned (.bool true) ∧ Below w.heap.size w w' := by
  have := AlikeLists_any A C na ca nb cb B1 B2 xs xs w h1 h2
  rwa [decide_eq_true rfl] at this
set_option maxRecDepth 100000 in
set_option maxHeartbeats 4000000 in
theorem ShotLosses_any (a : Arr) (l m : Int) (S G : Option Addr) (ns cs ng cg : Nat) (w : World) (hS : SlAt w 0 1 ivs S ns cs a.sh) (hG : SlAt w 0 4 Gun.cells G ng cg a.gs) :
    Calls Try.prog 4 #[.agg #[.slice S ns cs, .slice G ng cg], .int .i64 l, .int .i64 m] w fun e w' => e = .returned (.bool true) ∧ Below w.heap.size w w' := by
  have h1 := fun W h h' => Losses_any a l m S G ns cs ng cg W h h'
  have h2 := fun W h h' => RLosses_any a l m S G ns cs ng cg W h h'
  unfold RetLo at h1 h2
  generalize lossR a l m = r1 at *
  obtain ⟨w1, hw1⟩ : ∃ w1, w1 = w.alloc (.cells #[.slice S ns cs, .slice G ng cg] 25) := ⟨_, rfl⟩
  have k3 : Blk w1 w.heap.size 25 #[.slice S ns cs, .slice G ng cg] := by rw [hw1]; exact Blk.new _ _ _
  have b : Below w.heap.size w w1 := by rw [hw1]; exact (Below.refl _ _).alloc (Nat.le_refl _) _
  have hS1 : SlAt w1 0 1 ivs S ns cs a.sh := by rw [hw1]; exact hS.alloc _
  have hG1 : SlAt w1 0 4 Gun.cells G ng cg a.gs := by rw [hw1]; exact hG.alloc _
  clear hS hG
  go_enter Try.func4, Try.ntmps4
  go_wp2_with fail
  rw [← hw1]
  clear hw1
  obtain ⟨c3, f3, l3⟩ := k3.rules
  go_wp2_with fail
  refine (h1 _ hS1 hG1).mono ?_
  rintro e W ⟨T, n1, ct, rfl, hT, hb⟩
  clear c3 f3 l3 h1
  replace hT := hT.mono (Nat.zero_le _)
  replace k3 := k3.below hb
  replace b := b.trans (hb.mono b.size)
  replace hS1 := hS1.below hb
  replace hG1 := hG1.below hb
  skip
  clear hb
  obtain ⟨c3, f3, l3⟩ := k3.rules
  go_wp2_with fail
  refine (h2 _ hS1 hG1).mono ?_
  rintro e W2 ⟨U, n2, cu, rfl, hU, hb⟩
  clear c3 f3 l3 h2
  replace hU := hU.mono (Nat.zero_le _)
  replace k3 := k3.below hb
  replace b := b.trans (hb.mono b.size)
  replace hS1 := hS1.below hb
  replace hG1 := hG1.below hb
  replace hT := hT.below hb
  clear hb
  go_wp2_with fail
  refine (AlikeLists_same _ _ _ _ _ _ _ _ _ _ hT hU).mono ?_
  rintro e W3 ⟨rfl, hb⟩
  clear hT hU
  replace k3 := k3.below hb
  replace b := b.trans (hb.mono b.size)
  replace hS1 := hS1.below hb
  replace hG1 := hG1.below hb
  skip
  clear hb
  go_wp2_with fail
  refine (works_any _).mono ?_
  rintro e W4 ⟨rfl, hb⟩
  go_wp2_with fail
  go_ret
  exact ⟨rfl, b.trans (hb.mono b.size)⟩
end Go.Proofs.Ytfengddpfeneiaa
