/-
  The specification's package: a step of offsets.
-/
import Derived.Test.YtjiaepphnddpoaaGreatR1
import Derived.Test.YtjiaepphnddpoaaGreatHeld
import Derived.Test.YtjiaepphnddpoaaGreatW6
import Derived.Deep.AppendLies
namespace Go.Proofs.YtjiaepphnddpoaaGreat
open Go.RowKit Go.Shelf

set_option maxRecDepth 100000 in
set_option maxHeartbeats 1000000 in
theorem before_any (s : Strm) (A O : Option Addr) (n c no co B k : Nat) (o : List Int) (w : World) (hk : k < no) (hn : no ≤ 1000) (hs : SlAt w B 1 ivs O no co o) :
    Calls Tryz.prog 174 #[.agg #[.int .i64 s.head, .slice A n c, .int .i64 s.lane.lo, .int .i64 s.lane.hi, .int .i64 s.bend], .slice O no co, .int .i64 (k : Int)] w fun e w' => e = .returned (.int .i64 (prev s.head o k)) ∧ Below w.heap.size w w' := by
  have hl := Lib.hid hs.len
  cases k with
  | zero =>
    have hv : Hid (prev s.head o 0 = s.head) := rfl
    rw [show ((0 : Nat) : Int) = 0 from rfl]
    go_enter Tryz.func174, Tryz.ntmps174
    go_wp2
    go_ret
    exact ⟨ret_int hv.out.symm, (Below.refl _ _).alloc (Nat.le_refl _) _⟩
  | succ k =>
    obtain ⟨x, hx⟩ := some_of_lt hl.out (show k < no by omega)
    have hv : Hid (prev s.head o (k + 1) = x) := by show o.getD k s.head = x; rw [List.getD_eq_getElem?_getD, hx]; rfl
    obtain ⟨b, off, rfl, -, hbl, e0⟩ := (hs.alloc (.cells #[.int .i64 s.head, .slice A n c, .int .i64 s.lane.lo, .int .i64 s.lane.hi, .int .i64 s.bend] 26)).int hx
    replace hx := Lib.hid hx
    have hz : ¬ (((k + 1 : Nat) : Int) = 0) := by omega
    have t1 := IntWalk.i64_in (((k + 1 : Nat) : Int) - 1) (by omega)
    rw [show (((k + 1 : Nat) : Int) - 1) = (k : Int) by omega] at t1
    have hk0 : (0 : Int) ≤ (k : Int) := by omega
    have hk1 : (k : Int) < (no : Int) := by omega
    go_enter Tryz.func174, Tryz.ntmps174
    go_wp2
    go_ret
    exact ⟨ret_int hv.out.symm, (Below.refl _ _).alloc (Nat.le_refl _) _⟩
end Go.Proofs.YtjiaepphnddpoaaGreat
