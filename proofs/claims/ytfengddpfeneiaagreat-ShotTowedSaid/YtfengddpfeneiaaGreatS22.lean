/-
  Shots, walks: the closures of Losses: does a loss contain one that was found; the search, which calls itself.
-/
import Derived.Test.YtfengddpfeneiaaGreatS5
import Derived.Test.YtfengddpfeneiaaGreatI5
import Derived.Laws.EntriesVeiled
namespace Go.Proofs.YtfengddpfeneiaaGreat
open Go.RowKit Go.Shelf
set_option linter.unusedSimpArgs false
set_option linter.unusedVariables false

theorem hasAll_no {l loss : List Int} {k : Nat} {x : Int} (h : l[k]? = some x) (hx : loss.contains x = false) : hasAll l loss = false := by
  unfold hasAll
  rw [List.all_eq_false]
  exact ⟨x, List.mem_of_getElem? h, by simpa using hx⟩
def allIn (l loss : List Int) (k : Nat) : Prop := (l.take k).all (fun i => loss.contains i) = true
theorem allIn_succ {l loss : List Int} {k : Nat} {x : Int} (h : allIn l loss k) (hx : l[k]? = some x) (hc : loss.contains x = true) : allIn l loss (k + 1) := by
  unfold allIn at *
  rw [List.take_add_one, hx, List.all_append, h]
  simp at hc ⊢
  exact hc
theorem allIn_all {l loss : List Int} {k : Nat} (h : allIn l loss k) (hk : l.length ≤ k) : hasAll l loss = true := by
  unfold allIn at h; rw [List.take_of_length_le hk] at h; exact h
def noneIn (L : List (List Int)) (loss : List Int) (k : Nat) : Prop := (L.take k).any (fun l => hasAll l loss) = false
theorem noneIn_succ {L : List (List Int)} {loss l : List Int} {k : Nat} (h : noneIn L loss k) (hx : L[k]? = some l) (hc : hasAll l loss = false) : noneIn L loss (k + 1) := by
  unfold noneIn at *
  rw [List.take_add_one, hx, List.any_append, h]
  simp [hc]
theorem noneIn_all {L : List (List Int)} {loss : List Int} {k : Nat} (h : noneIn L loss k) (hk : L.length ≤ k) : holdsOne L loss = false := by
  unfold noneIn at h; rw [List.take_of_length_le hk] at h; exact h
theorem holdsOne_hit {L : List (List Int)} {loss l : List Int} {k : Nat} (hx : L[k]? = some l) (hc : hasAll l loss = true) : holdsOne L loss = true := by
  unfold holdsOne
  rw [List.any_eq_true]
  exact ⟨l, List.mem_of_getElem? hx, hc⟩
set_option maxRecDepth 100000 in
set_option maxHeartbeats 2000000 in
theorem lcontains_any (g B0 : Nat) (O D : Option Addr) (no co nd cd : Nat) (L : List (List Int)) (loss : List Int) (w : World) (hL : OutI w g B0 O no co L) (hD : SlAt w 0 1 ivs D nd cd loss) (hno : no ≤ 1000000) :
    Calls Tryz.prog 95 #[.slice D nd cd, .pointer (some ⟨g, 0, none⟩)] w fun e w' => e = .returned (.bool (holdsOne L loss)) ∧ Below w.heap.size w w' := by
  have hsc := fun v W h => sContains_any v D nd cd 0 loss W h
  obtain ⟨kg, hlen, vs, hown, hel⟩ := hL
  replace hlen := Lib.hid hlen
  obtain ⟨c1, f1, l1⟩ := kg.rules
  go_enter Tryz.func95, Tryz.ntmps95
  go_wp2_with fail
  go_step3
  go_wp2_with fail
  go_step3
  go_wp2_with fail
  clear c1 f1 l1
  go_loopw [10] (fun i wr => ∃ k : Nat, i = .int .i64 (k : Int) ∧ k ≤ no ∧ noneIn L loss k ∧ wr = w) (fun i wr => no - (intOf i).toNat)
  case atStart => exact ⟨0, rfl, Nat.zero_le _, by simp [noneIn], rfl⟩
  case round =>
    obtain ⟨k, rfl, hk, hnone, hwr⟩ := hrel
    rw [hwr]
    clear hwr wr
    by_cases hlt : k < no
    · have hk0 : (0 : Int) ≤ (k : Int) := by omega
      have hk1 : (k : Int) < (no : Int) := by omega
      obtain ⟨l, hl⟩ := some_of_lt hlen.out hlt
      have hvn : vs.length = no := by have := hown.1; omega
      obtain ⟨v, hv⟩ := some_of_lt hvn hlt
      obtain ⟨b, m, d, rfl, hS, hm0, hrow⟩ := hel k v l hv hl
      rcases hown.2 with ⟨-, h⟩ | ⟨gr, cap, cur, hOv, hgr, -⟩
      · omega
      simp only [Value.slice.injEq, true_and] at hOv
      obtain ⟨rfl, rfl⟩ := hOv
      have hce := hown.cellAt k (by omega)
      rw [hv] at hce
      have hml := Lib.hid hS.len
      have hmle := hS.le
      replace hl := Lib.hid hl
      replace hv := Lib.hid hv
      go_wp2_with fail
      clear hce
      go_loopw [16] (fun i wr => ∃ q : Nat, i = .int .i64 (q : Int) ∧ q ≤ m ∧ allIn l loss q ∧ wr = w) (fun i wr => m - (intOf i).toNat)
      case atStart => exact ⟨0, rfl, Nat.zero_le _, by simp [allIn], rfl⟩
      case round =>
        obtain ⟨q, rfl, hq, hall, hwr⟩ := hrel
        rw [hwr]
        clear hwr wr
        by_cases hqm : q < m
        · have hq0 : (0 : Int) ≤ (q : Int) := by omega
          have hq1 : (q : Int) < (m : Int) := by omega
          obtain ⟨x, hx⟩ := some_of_lt hml.out hqm
          obtain ⟨bb, oo, hA, -, -, e0⟩ := hS.int hx
          simp only [Option.some.injEq, Addr.mk.injEq, and_true] at hA
          obtain ⟨rfl, rfl⟩ := hA
          simp only [Nat.zero_add] at e0
          have hcx := hsc x
          replace hx := Lib.hid hx
          cases hc : loss.contains x with
          | true =>
            rw [hc] at hcx
            have hall2 := Lib.hid (allIn_succ hall hx.out hc)
            replace hc := Lib.hid hc
            go_wp2_with fail
            refine (hcx _ hD).mono ?_
            rintro e w' ⟨rfl, rfl⟩
            clear hcx
            go_wp2_with fail
            go_roundw
            case rel => exact ⟨q + 1, by go_num, by omega, hall2.out, by first | rfl | trivial⟩
            case measure => simp [intOf]; omega
          | false =>
            rw [hc] at hcx
            have hno2 := Lib.hid (noneIn_succ hnone hl.out (hasAll_no hx.out hc))
            replace hc := Lib.hid hc
            go_wp2_with fail
            refine (hcx _ hD).mono ?_
            rintro e w' ⟨rfl, rfl⟩
            clear hcx
            go_wp2_with fail
            go_roundw
            case rel => exact ⟨k + 1, by go_num, by omega, hno2.out, by first | rfl | trivial⟩
            case measure => simp [intOf]; omega
        · obtain rfl : q = m := by omega
          have hit := Lib.hid (holdsOne_hit hl.out (allIn_all hall (by rw [hml.out]; exact Nat.le_refl _)))
          go_wp2_with fail
          rw [Exit.noGoto_ret]
          go_ret
          exact ⟨ret_bool hit.out.symm, Below.refl _ _⟩
    · obtain rfl : k = no := by omega
      have hit := Lib.hid (noneIn_all hnone (by rw [hlen.out]; exact Nat.le_refl _))
      go_wp2_with fail
      rw [Exit.noGoto_ret]
      go_ret
      exact ⟨ret_bool hit.out.symm, Below.refl _ _⟩
end Go.Proofs.YtfengddpfeneiaaGreat
