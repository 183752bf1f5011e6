/-
  The law TowPlans.
-/
import Derived.Test.YtjiaepphnddpoaaGreatE1
import Derived.Test.YtjiaepphnddpoaaGreatR21
import Derived.Test.YtjiaepphnddpoaaGreatA1
namespace Go.Proofs.YtjiaepphnddpoaaGreat
open Go.RowKit Go.Shelf
set_option linter.unusedSimpArgs false
set_option linter.unusedVariables false

set_option maxRecDepth 100000 in
set_option maxHeartbeats 4000000 in
theorem TowPlans_any (s : Strm) (A O D V C : Option Addr) (n c no co nd cd nv cv nc cc : Nat) (bs : List Bnd) (l : List Wat) (v ch : List Int) (w : World) (hs : SlAt w 0 5 Sec.cells A n c s.secs) (hl : SlAt w 0 2 Bnd.cells O no co bs) (hd : SlAt w 0 4 Wat.cells D nd cd l) (hv : SlAt w 0 1 ivs V nv cv v) (hq : SlAt w 0 1 ivs C nc cc ch) :
    Calls Tryz.prog 5 #[.agg #[.int .i64 s.head, .slice A n c, .int .i64 s.lane.lo, .int .i64 s.lane.hi, .int .i64 s.bend, .slice O no co], .agg #[.slice D nd cd, .slice V nv cv], .slice C nc cc] w fun e w' => e = .returned (.bool true) ∧ Below w.heap.size w w' := by
  obtain ⟨w1, hw1⟩ : ∃ w1, w1 = (w.alloc (.cells #[.int .i64 s.head, .slice A n c, .int .i64 s.lane.lo, .int .i64 s.lane.hi, .int .i64 s.bend, .slice O no co] 29)).alloc (.cells #[.slice D nd cd, .slice V nv cv] 33) := ⟨_, rfl⟩
  have k3 : Blk w1 w.heap.size 29 #[.int .i64 s.head, .slice A n c, .int .i64 s.lane.lo, .int .i64 s.lane.hi, .int .i64 s.bend, .slice O no co] := by rw [hw1]; exact (Blk.new _ _ _).alloc _
  have k4 : Blk w1 (w.heap.size + 1) 33 #[.slice D nd cd, .slice V nv cv] := by rw [hw1]; exact Blk.newAt (by simp)
  have b : Below w.heap.size w w1 := by rw [hw1]; exact ((Below.refl _ _).alloc (Nat.le_refl _) _).alloc (by simp) _
  replace hs : SlAt w1 0 5 Sec.cells A n c s.secs := by rw [hw1]; exact (hs.alloc _).alloc _
  replace hl : SlAt w1 0 2 Bnd.cells O no co bs := by rw [hw1]; exact (hl.alloc _).alloc _
  replace hd : SlAt w1 0 4 Wat.cells D nd cd l := by rw [hw1]; exact (hd.alloc _).alloc _
  replace hv : SlAt w1 0 1 ivs V nv cv v := by rw [hw1]; exact (hv.alloc _).alloc _
  replace hq : SlAt w1 0 1 ivs C nc cc ch := by rw [hw1]; exact (hq.alloc _).alloc _
  have h1 := fun W h1 h2 h3 h4 => Fastest_any s A O D C n c no co nd cd nc cc bs l ch W h1 h2 h3 h4
  have h2 := fun W h1 h2 h3 h4 => RFastest_any s A O D C n c no co nd cd nc cc bs l ch W h1 h2 h3 h4
  have h3 := fun W h1 h2 h3 h4 => Weakest_any s A O D V n c no co nd cd nv cv bs l v W h1 h2 h3 h4
  have h4 := fun W h1 h2 h3 h4 => RWeakest_any s A O D V n c no co nd cd nv cv bs l v W h1 h2 h3 h4
  generalize fastR s bs l ch = r1 at *
  generalize weakR s bs l v = r2 at *
  obtain ⟨x1, x2, x3⟩ := r1
  obtain ⟨y1, y2⟩ := r2
  unfold RetFast at h1
  unfold RetFast0 at h2
  dsimp only at h1 h2 h3 h4
  go_enter Tryz.func5, Tryz.ntmps5
  go_wp2_with fail
  rw [← hw1]
  clear hw1
  refine (h1 _ hs hl hd hq).mono ?_
  rintro e W ⟨P1, n1, m1, rfl, hr1, hbel⟩
  clear h1
  replace k3 := k3.below hbel
  replace k4 := k4.below hbel
  replace b := b.trans (hbel.mono b.size)
  replace hs := hs.below hbel
  replace hl := hl.below hbel
  replace hd := hd.below hbel
  replace hv := hv.below hbel
  replace hq := hq.below hbel
  clear hbel
  obtain ⟨c3, f3, l3⟩ := k3.rules
  obtain ⟨c4, f4, l4⟩ := k4.rules
  go_wp2_with fail
  clear c3 f3 l3 c4 f4 l4
  refine (h2 _ hs hl hd hq).mono ?_
  rintro e W ⟨P2, n2, m2, rfl, hr2, hbel⟩
  clear h2
  replace hr1 := hr1.below hbel
  replace k3 := k3.below hbel
  replace k4 := k4.below hbel
  replace b := b.trans (hbel.mono b.size)
  replace hs := hs.below hbel
  replace hl := hl.below hbel
  replace hd := hd.below hbel
  replace hv := hv.below hbel
  replace hq := hq.below hbel
  clear hbel
  have hC := Alike_any P1 P2 n1 m1 n2 m2 _ _ _ _ _ hr1 hr2
  rw [decide_eq_true rfl] at hC
  clear hr1 hr2
  go_wp2_with fail
  refine hC.mono ?_
  clear hC
  rintro e W ⟨rfl, hbel⟩
  replace k3 := k3.below hbel
  replace k4 := k4.below hbel
  replace b := b.trans (hbel.mono b.size)
  replace hs := hs.below hbel
  replace hl := hl.below hbel
  replace hd := hd.below hbel
  replace hv := hv.below hbel
  replace hq := hq.below hbel
  clear hbel
  obtain ⟨c3, f3, l3⟩ := k3.rules
  obtain ⟨c4, f4, l4⟩ := k4.rules
  go_wp2_with fail
  clear c3 f3 l3 c4 f4 l4
  refine (h3 _ hs hl hd hv).mono ?_
  rintro e W ⟨rfl, hbel⟩
  clear h3
  replace k3 := k3.below hbel
  replace k4 := k4.below hbel
  replace b := b.trans (hbel.mono b.size)
  replace hs := hs.below hbel
  replace hl := hl.below hbel
  replace hd := hd.below hbel
  replace hv := hv.below hbel
  replace hq := hq.below hbel
  clear hbel
  obtain ⟨c3, f3, l3⟩ := k3.rules
  obtain ⟨c4, f4, l4⟩ := k4.rules
  go_wp2_with fail
  clear c3 f3 l3 c4 f4 l4
  refine (h4 _ hs hl hd hv).mono ?_
  rintro e W ⟨rfl, hbel⟩
  clear h4
  replace k3 := k3.below hbel
  replace k4 := k4.below hbel
  replace b := b.trans (hbel.mono b.size)
  replace hs := hs.below hbel
  replace hl := hl.below hbel
  replace hd := hd.below hbel
  replace hv := hv.below hbel
  replace hq := hq.below hbel
  clear hbel
  go_wp2_with fail
  refine (works_any _).mono ?_
  rintro e W ⟨rfl, hbel⟩
  go_wp2
  go_ret
  exact ⟨rfl, b.trans (hbel.mono b.size)⟩
end Go.Proofs.YtjiaepphnddpoaaGreat
