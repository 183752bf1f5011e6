/-
  The specification's package: a step of offsets.
-/
import Derived.Test.YtjiaepphnddpoaaR1
import Derived.Test.YtjiaepphnddpoaaHeld
import Derived.Test.YtjiaepphnddpoaaW6
import Derived.Deep.AppendLies
namespace Go.Proofs.Ytjiaepphnddpoaa
open Go.RowKit Go.Shelf

set_option maxRecDepth 100000 in
set_option maxHeartbeats 1000000 in
theorem RAll_any (O : Option Addr) (no co B : Nat) (l : List Int) (many m : Int) (w : World) (hm0 : 0 ≤ m) (hm : m ≤ 100000) (hs : SlAt w B 1 ivs O no co l) :
    Calls Try.prog 58 #[.slice O no co, .int .i64 many, .int .i64 m] w fun e w' => e = .returned (.bool (decide ((no : Int) = many) && l.all (okNum m))) ∧ Below w.heap.size w w' := by
  have hl := Lib.hid hs.len
  have hn := hs.le
  have t1 := IntWalk.i64_in (-m) (by omega)
  go_enter Try.func58, Try.ntmps58
  go_wp2_with fail
  go_loopw [7] (fun i wr => ∃ k : Nat, i = .int .i64 k ∧ k ≤ no ∧ (l.take k).all (okNum m) = true ∧ wr = w) (fun i wr => no - (intOf i).toNat)
  case atStart => exact ⟨0, rfl, Nat.zero_le _, rfl, rfl⟩
  case round =>
    obtain ⟨k, rfl, hk, hok, rfl⟩ := hrel
    by_cases hlt : k < no
    · obtain ⟨x, hx⟩ := some_of_lt hl.out hlt
      obtain ⟨b, off, rfl, -, hbl, e0⟩ := hs.int hx
      have hB := fun W => Between_any x (-m) m W
      have hst : Hid ((l.take (k + 1)).all (okNum m) = ((l.take k).all (okNum m) && okNum m x)) := by show _ = _; rw [List.take_add_one, hx]; simp
      have hbad : okNum m x = false → l.all (okNum m) = false := fun h => by rw [List.all_eq_false]; exact ⟨x, List.mem_of_getElem? hx, by simp [h]⟩
      replace hbad := Lib.hid hbad
      replace hx := Lib.hid hx
      have hk0 : (0 : Int) ≤ (k : Int) := by omega
      have hk1 : (k : Int) < (no : Int) := by omega
      by_cases hq : -m ≤ x ∧ x ≤ m
      · have hq2 : Hid (okNum m x = true) := decide_eq_true hq
        simp only [decide_eq_true hq] at hB
        replace hok := Lib.hid hok
        clear hq
        go_wp2_with fail
        refine (hB _).mono ?_
        rintro e w' ⟨rfl, rfl⟩
        go_wp2_with fail
        go_roundw
        case rel => exact ⟨k + 1, by go_num, by omega, by rw [hst.out, hok.out, hq2.out]; rfl, trivial⟩
        case measure => simp [intOf]; omega
      · have hq2 : Hid (okNum m x = false) := decide_eq_false hq
        simp only [decide_eq_false hq] at hB
        clear hq
        go_wp2_with fail
        refine (hB _).mono ?_
        rintro e w' ⟨rfl, rfl⟩
        go_wp2
        go_ret
        exact ⟨ret_bool (by rw [hbad.out hq2.out, Bool.and_false]), Below.refl _ _⟩
    · obtain rfl : k = no := by omega
      have ht : l.take k = l := List.take_of_length_le (by rw [hl.out]; exact Nat.le_refl _)
      rw [ht] at hok
      replace hok := Lib.hid hok
      go_wp2
      go_ret
      exact ⟨ret_bool (by rw [hok.out, Bool.and_true]; first | rfl | (apply dec_eq; exact Iff.rfl) | simp), Below.refl _ _⟩
set_option maxRecDepth 100000 in
set_option maxHeartbeats 1000000 in
theorem before_any (s : Strm) (A O : Option Addr) (n c no co B k : Nat) (o : List Int) (w : World) (hk : k < no) (hn : no ≤ 1000) (hs : SlAt w B 1 ivs O no co o) :
    Calls Try.prog 111 #[.agg #[.int .i64 s.head, .slice A n c, .int .i64 s.lane.lo, .int .i64 s.lane.hi, .int .i64 s.bend], .slice O no co, .int .i64 (k : Int)] w fun e w' => e = .returned (.int .i64 (prev s.head o k)) ∧ Below w.heap.size w w' := by
  have hl := Lib.hid hs.len
  cases k with
  | zero =>
    have hv : Hid (prev s.head o 0 = s.head) := rfl
    rw [show ((0 : Nat) : Int) = 0 from rfl]
    go_enter Try.func111, Try.ntmps111
    go_wp2
    go_ret
    exact ⟨ret_int hv.out.symm, (Below.refl _ _).alloc (Nat.le_refl _) _⟩
  | succ k =>
    obtain ⟨x, hx⟩ := some_of_lt hl.out (show k < no by omega)
    have hv : Hid (prev s.head o (k + 1) = x) := by show o.getD k s.head = x; rw [List.getD_eq_getElem?_getD, hx]; rfl
    obtain ⟨b, off, rfl, -, hbl, e0⟩ := (hs.alloc (.cells #[.int .i64 s.head, .slice A n c, .int .i64 s.lane.lo, .int .i64 s.lane.hi, .int .i64 s.bend] 26)).int hx
    replace hx := Lib.hid hx
    have hz : ¬ (((k + 1 : Nat) : Int) = 0) := by omega
    have t1 := IntWalk.i64_in (((k + 1 : Nat) : Int) - 1) (by omega)
    rw [show (((k + 1 : Nat) : Int) - 1) = (k : Int) by omega] at t1
    have hk0 : (0 : Int) ≤ (k : Int) := by omega
    have hk1 : (k : Int) < (no : Int) := by omega
    go_enter Try.func111, Try.ntmps111
    go_wp2
    go_ret
    exact ⟨ret_int hv.out.symm, (Below.refl _ _).alloc (Nat.le_refl _) _⟩
end Go.Proofs.Ytjiaepphnddpoaa
