/-
  The law ShotTimes.
-/
import Derived.Test.YtfengddpfeneiaaS28
import Derived.Test.YtfengddpfeneiaaS34
namespace Go.Proofs.Ytfengddpfeneiaa
open Go.RowKit Go.Shelf
set_option linter.unusedSimpArgs false
set_option linter.unusedVariables false

theorem alikeB_same (A C : Option Addr) (na ca nb cb B1 B2 : Nat) (xs : List Bnd) (w : World) (h1 : SlAt w B1 2 Bnd.cells A na ca xs) (h2 : SlAt w B2 2 Bnd.cells C nb cb xs) :
    Calls Try.prog 37 #[.slice A na ca, .slice C nb cb] w fun e w' => e = .returned (.bool true) ∧ Below w.heap.size w w' := by
  have := alikeB_any A C na ca nb cb B1 B2 xs xs w h1 h2
  rwa [decide_eq_true rfl] at this
theorem AlikeBools_same (A C : Option Addr) (na ca nb cb B1 B2 : Nat) (xs : List Bool) (w : World) (h1 : SlAt w B1 1 bvs A na ca xs) (h2 : SlAt w B2 1 bvs C nb cb xs) :
    Calls Try.prog 40 #[.slice A na ca, .slice C nb cb] w fun e w' => e = .returned (.bool true) ∧ Below w.heap.size w w' := by
  have := AlikeBools_any A C na ca nb cb B1 B2 xs xs w h1 h2
  rwa [decide_eq_true rfl] at this
set_option maxRecDepth 100000 in
set_option maxHeartbeats 4000000 in
theorem ShotTimes_any (f : Fir) (A : Option Addr) (n c : Nat) (bl : List Bnd) (w : World) (hs : SlAt w 0 2 Bnd.cells A n c bl) :
    Calls Try.prog 6 #[.agg #[.int .i64 f.start, .int .i64 f.every, .int .i64 f.srcs, .int .i64 f.shots, .int .i64 f.charge], .slice A n c] w fun e w' => e = .returned (.bool true) ∧ Below w.heap.size w w' := by
  have h1 := fun W h => Times_any f bl A n c 0 W h
  have h2 := fun W h => RTimes_any f bl A n c 0 W h
  have h3 := fun W h => Weak_any f bl A n c 0 W h
  have h4 := fun W h => RWeak_any f bl A n c 0 W h
  unfold RetSl at h1 h2
  unfold RetWk at h3 h4
  generalize timeR f bl = r1 at *
  generalize weakR f bl = r2 at *
  obtain ⟨w1, hw1⟩ : ∃ w1, w1 = w.alloc (.cells #[.int .i64 f.start, .int .i64 f.every, .int .i64 f.srcs, .int .i64 f.shots, .int .i64 f.charge] 38) := ⟨_, rfl⟩
  have k3 : Blk w1 w.heap.size 38 #[.int .i64 f.start, .int .i64 f.every, .int .i64 f.srcs, .int .i64 f.shots, .int .i64 f.charge] := by rw [hw1]; exact Blk.new _ _ _
  have b : Below w.heap.size w w1 := by rw [hw1]; exact (Below.refl _ _).alloc (Nat.le_refl _) _
  have hs1 : SlAt w1 0 2 Bnd.cells A n c bl := by rw [hw1]; exact hs.alloc _
  clear hs
  go_enter Try.func6, Try.ntmps6
  go_wp2_with fail
  rw [← hw1]
  clear hw1
  obtain ⟨c3, f3, l3⟩ := k3.rules
  go_wp2_with fail
  refine (h1 _ hs1).mono ?_
  rintro e W ⟨T, n1, ct, rfl, hT, hb⟩
  clear c3 f3 l3 h1
  replace hT := hT.mono (Nat.zero_le _)
  replace k3 := k3.below hb
  replace b := b.trans (hb.mono b.size)
  replace hs1 := hs1.below hb
  clear hb
  obtain ⟨c3, f3, l3⟩ := k3.rules
  go_wp2_with fail
  refine (h2 _ hs1).mono ?_
  rintro e W2 ⟨U, n2, cu, rfl, hU, hb⟩
  clear c3 f3 l3 h2
  replace hU := hU.mono (Nat.zero_le _)
  replace hT := hT.below hb
  replace k3 := k3.below hb
  replace b := b.trans (hb.mono b.size)
  replace hs1 := hs1.below hb
  clear hb
  go_wp2_with fail
  refine (alikeB_same _ _ _ _ _ _ _ _ _ _ hT hU).mono ?_
  rintro e W3 ⟨rfl, hb⟩
  clear hT hU
  replace k3 := k3.below hb
  replace b := b.trans (hb.mono b.size)
  replace hs1 := hs1.below hb
  clear hb
  obtain ⟨c3, f3, l3⟩ := k3.rules
  go_wp2_with fail
  refine (h3 _ hs1).mono ?_
  rintro e W4 ⟨P, n3, cp, Q, n4, cq, rfl, hP, hQ, hb⟩
  clear c3 f3 l3 h3
  replace hP := hP.mono (Nat.zero_le _)
  replace hQ := hQ.mono (Nat.zero_le _)
  replace k3 := k3.below hb
  replace b := b.trans (hb.mono b.size)
  replace hs1 := hs1.below hb
  clear hb
  obtain ⟨c3, f3, l3⟩ := k3.rules
  go_wp2_with fail
  refine (h4 _ hs1).mono ?_
  rintro e W5 ⟨R, n5, cr, S, n6, cs, rfl, hR, hS, hb⟩
  clear c3 f3 l3 h4
  replace hR := hR.mono (Nat.zero_le _)
  replace hS := hS.mono (Nat.zero_le _)
  replace hP := hP.below hb
  replace hQ := hQ.below hb
  replace k3 := k3.below hb
  replace b := b.trans (hb.mono b.size)
  replace hs1 := hs1.below hb
  clear hb
  go_wp2_with fail
  refine (AlikeBools_same _ _ _ _ _ _ _ _ _ _ hP hR).mono ?_
  rintro e W6 ⟨rfl, hb⟩
  clear hP hR
  replace hQ := hQ.below hb
  replace hS := hS.below hb
  replace k3 := k3.below hb
  replace b := b.trans (hb.mono b.size)
  replace hs1 := hs1.below hb
  clear hb
  go_wp2_with fail
  refine (AlikeBools_same _ _ _ _ _ _ _ _ _ _ hQ hS).mono ?_
  rintro e W7 ⟨rfl, hb⟩
  clear hQ hS
  replace k3 := k3.below hb
  replace b := b.trans (hb.mono b.size)
  replace hs1 := hs1.below hb
  clear hb
  go_wp2_with fail
  refine (works_any _).mono ?_
  rintro e W8 ⟨rfl, hb⟩
  go_wp2_with fail
  go_ret
  exact ⟨rfl, b.trans (hb.mono b.size)⟩
end Go.Proofs.Ytfengddpfeneiaa
