/-
  The law TowWithin.
-/
import Derived.Test.YtjiaepphnddpoaaL5a
import Derived.Test.YtjiaepphnddpoaaL5b
namespace Go.Proofs.Ytjiaepphnddpoaa
open Go.RowKit Go.Shelf
set_option linter.unusedSimpArgs false
set_option linter.unusedVariables false

set_option maxRecDepth 100000 in
set_option maxHeartbeats 4000000 in
theorem TowWithin_any (s : Strm) (A O D Q : Option Addr) (n c no co nd cd nq cq : Nat) (bs : List Bnd) (l : List Wat) (bits : List Int) (w : World) (hs : SlAt w 0 5 Sec.cells A n c s.secs) (hl : SlAt w 0 2 Bnd.cells O no co bs) (hd : SlAt w 0 4 Wat.cells D nd cd l) (hq : SlAt w 0 1 ivs Q nq cq bits) :
    Calls Try.prog 6 #[.agg #[.int .i64 s.head, .slice A n c, .int .i64 s.lane.lo, .int .i64 s.lane.hi, .int .i64 s.bend, .slice O no co], .slice D nd cd, .slice Q nq cq] w fun e w' => e = .returned (.bool true) ∧ Below w.heap.size w w' := by
  by_cases hnd : nd ≤ 48
  · cases hwo : okWats l with
    | false =>
      obtain ⟨w1, hw1⟩ : ∃ w1, w1 = w.alloc (.cells #[.int .i64 s.head, .slice A n c, .int .i64 s.lane.lo, .int .i64 s.lane.hi, .int .i64 s.bend, .slice O no co] 37) := ⟨_, rfl⟩
      have k3 : Blk w1 w.heap.size 37 #[.int .i64 s.head, .slice A n c, .int .i64 s.lane.lo, .int .i64 s.lane.hi, .int .i64 s.bend, .slice O no co] := by rw [hw1]; exact Blk.new _ _ _
      have b : Below w.heap.size w w1 := by rw [hw1]; exact (Below.refl _ _).alloc (Nat.le_refl _) _
      replace hs : SlAt w1 0 5 Sec.cells A n c s.secs := by rw [hw1]; exact hs.alloc _
      replace hl : SlAt w1 0 2 Bnd.cells O no co bs := by rw [hw1]; exact hl.alloc _
      replace hd : SlAt w1 0 4 Wat.cells D nd cd l := by rw [hw1]; exact hd.alloc _
      replace hq : SlAt w1 0 1 ivs Q nq cq bits := by rw [hw1]; exact hq.alloc _
      have hdl := Lib.hid hd.len
      have hll := Lib.hid hl.len
      have hsl := Lib.hid hs.len
      have hno := hl.le
      have hCW := fun W h => waters_any D nd cd 0 l W h
      have e1 : chkWats l = 33 := by rw [chkWats, hwo]; rfl
      simp only [e1] at hCW
      clear e1 hwo
      go_enter Try.func6, Try.ntmps6
      go_wp2_with fail
      rw [← hw1]
      clear hw1
      refine (hCW _ hd).mono ?_
      rintro e W ⟨rfl, hbel⟩
      replace k3 := k3.below hbel
      replace b := b.trans (hbel.mono b.size)
      replace hs := hs.below hbel
      replace hl := hl.below hbel
      replace hd := hd.below hbel
      replace hq := hq.below hbel
      clear hbel
      go_wp2_with fail
      refine (works_any _).mono ?_
      rintro e W ⟨rfl, hbel⟩
      go_wp2
      go_ret
      exact ⟨rfl, b.trans (hbel.mono b.size)⟩
    | true =>
      by_cases herr : errB s bs = 0
      · exact TowWithin_good s A O D Q n c no co nd cd nq cq bs l bits w hs hl hd hq hnd hwo herr
      · exact TowWithin_bad s A O D Q n c no co nd cd nq cq bs l bits w hs hl hd hq hnd hwo herr
  · skip
    obtain ⟨w1, hw1⟩ : ∃ w1, w1 = w.alloc (.cells #[.int .i64 s.head, .slice A n c, .int .i64 s.lane.lo, .int .i64 s.lane.hi, .int .i64 s.bend, .slice O no co] 37) := ⟨_, rfl⟩
    have k3 : Blk w1 w.heap.size 37 #[.int .i64 s.head, .slice A n c, .int .i64 s.lane.lo, .int .i64 s.lane.hi, .int .i64 s.bend, .slice O no co] := by rw [hw1]; exact Blk.new _ _ _
    have b : Below w.heap.size w w1 := by rw [hw1]; exact (Below.refl _ _).alloc (Nat.le_refl _) _
    replace hs : SlAt w1 0 5 Sec.cells A n c s.secs := by rw [hw1]; exact hs.alloc _
    replace hl : SlAt w1 0 2 Bnd.cells O no co bs := by rw [hw1]; exact hl.alloc _
    replace hd : SlAt w1 0 4 Wat.cells D nd cd l := by rw [hw1]; exact hd.alloc _
    replace hq : SlAt w1 0 1 ivs Q nq cq bits := by rw [hw1]; exact hq.alloc _
    have hdl := Lib.hid hd.len
    have hll := Lib.hid hl.len
    have hsl := Lib.hid hs.len
    have hno := hl.le
    have hCW := fun W h => waters_any D nd cd 0 l W h
    have hnd2 : (48 : Int) < (nd : Int) := by omega
    go_enter Try.func6, Try.ntmps6
    go_wp2_with fail
    rw [← hw1]
    clear hw1
    refine (works_any _).mono ?_
    rintro e W ⟨rfl, hbel⟩
    go_wp2
    go_ret
    exact ⟨rfl, b.trans (hbel.mono b.size)⟩
end Go.Proofs.Ytjiaepphnddpoaa
