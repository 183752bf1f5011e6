/-
  Two lists of numbers alike.
-/
import Derived.Test.YtjiaepphnddpoaaGreatW3
namespace Go.Proofs.YtjiaepphnddpoaaGreat
open Go.RowKit Go.Shelf
theorem take_succ_eq {α : Type} {xs ys : List α} {k : Nat} {x y : α} (h : xs.take k = ys.take k) (hx : xs[k]? = some x) (hy : ys[k]? = some y) (e : x = y) : xs.take (k + 1) = ys.take (k + 1) := by
  rw [List.take_add_one, List.take_add_one, h, hx, hy, e]
set_option maxRecDepth 100000 in
set_option maxHeartbeats 1000000 in
theorem Alike_any (A C : Option Addr) (na ca nb cb B1 B2 : Nat) (xs ys : List Int) (w : World) (h1 : SlAt w B1 1 ivs A na ca xs) (h2 : SlAt w B2 1 ivs C nb cb ys) :
    Calls Tryz.prog 24 #[.slice A na ca, .slice C nb cb] w fun e w' => e = .returned (.bool (decide (xs = ys))) ∧ Below w.heap.size w w' := by
  have hle := h1.le
  have hl1 := Lib.hid h1.len
  have hl2 := Lib.hid h2.len
  by_cases hn : na = nb
  · subst hn
    go_enter Tryz.func24, Tryz.ntmps24
    go_wp2
    go_loopw [5] (fun i wr => ∃ k : Nat, i = .int .i64 k ∧ k ≤ na ∧ xs.take k = ys.take k ∧ Below w.heap.size w wr) (fun i wr => na - (intOf i).toNat)
    case atStart => exact ⟨0, rfl, Nat.zero_le _, rfl, Below.refl _ _⟩
    case round =>
      obtain ⟨k, rfl, hk, ht, hb⟩ := hrel
      by_cases hlt : k < na
      · obtain ⟨x, hx⟩ := some_of_lt hl1.out hlt
        obtain ⟨y, hy⟩ := some_of_lt hl2.out hlt
        obtain ⟨b1, o1, hA1, -, -, e1⟩ := (h1.keep hb.size (fun _ _ h => hb.cell h)).int hx
        obtain ⟨b2, o2, hA2, -, -, e2⟩ := (h2.keep hb.size (fun _ _ h => hb.cell h)).int hy
        have t1 := IntWalk.i64_in ((k : Int) + 1) (by omega)
        have hk0 : (0 : Int) ≤ (k : Int) := by omega
        have hk1 : (k : Int) < (na : Int) := by omega
        replace hx := Lib.hid hx
        replace hy := Lib.hid hy
        replace ht := Lib.hid ht
        subst hA1
        subst hA2
        by_cases hxy : x = y
        · have hxy2 := Lib.hid hxy
          subst hxy
          go_wp2_with fail
          go_quiet (fail)
          go_wp2
          go_roundw
          case rel => exact ⟨k + 1, by go_num, by omega, take_succ_eq ht.out hx.out hy.out rfl, below_drewN hb _⟩
          case measure => simp [intOf]; omega
        · have hne : (x != y) = true := by rw [bne_iff_ne]; exact hxy
          go_wp2_with fail
          go_quiet (fail)
          go_wp2
          go_ret
          refine ⟨ret_bool (Eq.symm (decide_eq_false fun h => ?_)), below_drewN hb _⟩
          subst h
          exact hxy (Option.some.inj (hx.out.symm.trans hy.out))
      · obtain rfl : k = na := by omega
        go_wp2
        go_ret
        refine ⟨ret_bool (Eq.symm (decide_eq_true ?_)), hb⟩
        rw [List.take_of_length_le (by rw [hl1.out]; exact Nat.le_refl _), List.take_of_length_le (by rw [hl2.out]; exact Nat.le_refl _)] at ht
        exact ht
  · have hn' : ¬ ((na : Int) = (nb : Int)) := by omega
    go_enter Tryz.func24, Tryz.ntmps24
    go_wp2
    go_ret
    exact ⟨ret_bool (Eq.symm (decide_eq_false fun h => hn (by rw [← hl1.out, ← hl2.out, h]))), Below.refl _ _⟩
set_option maxRecDepth 100000 in
set_option maxHeartbeats 1000000 in
theorem alikeB_any (A C : Option Addr) (na ca nb cb B1 B2 : Nat) (xs ys : List Bnd) (w : World) (h1 : SlAt w B1 2 Bnd.cells A na ca xs) (h2 : SlAt w B2 2 Bnd.cells C nb cb ys) :
    Calls Tryz.prog 61 #[.slice A na ca, .slice C nb cb] w fun e w' => e = .returned (.bool (decide (xs = ys))) ∧ Below w.heap.size w w' := by
  have hle := h1.le
  have hl1 := Lib.hid h1.len
  have hl2 := Lib.hid h2.len
  by_cases hn : na = nb
  · subst hn
    go_enter Tryz.func61, Tryz.ntmps61
    go_wp2
    go_loopw [5] (fun i wr => ∃ k : Nat, i = .int .i64 k ∧ k ≤ na ∧ xs.take k = ys.take k ∧ Below w.heap.size w wr) (fun i wr => na - (intOf i).toNat)
    case atStart => exact ⟨0, rfl, Nat.zero_le _, rfl, Below.refl _ _⟩
    case round =>
      obtain ⟨k, rfl, hk, ht, hb⟩ := hrel
      by_cases hlt : k < na
      · obtain ⟨x, hx⟩ := some_of_lt hl1.out hlt
        obtain ⟨y, hy⟩ := some_of_lt hl2.out hlt
        obtain ⟨b1, o1, hA1, -, -, e1, e1'⟩ := (h1.keep hb.size (fun _ _ h => hb.cell h)).bnd hx
        obtain ⟨b2, o2, hA2, -, -, e2, e2'⟩ := (h2.keep hb.size (fun _ _ h => hb.cell h)).bnd hy
        have t1 := IntWalk.i64_in ((k : Int) + 1) (by omega)
        have hk0 : (0 : Int) ≤ (k : Int) := by omega
        have hk1 : (k : Int) < (na : Int) := by omega
        replace hx := Lib.hid hx
        replace hy := Lib.hid hy
        replace ht := Lib.hid ht
        subst hA1
        subst hA2
        by_cases hxy : x = y
        · have hxy2 := Lib.hid hxy
          subst hxy
          go_wp2_with fail
          go_quiet (fail)
          go_wp2
          go_roundw
          case rel => exact ⟨k + 1, by go_num, by omega, take_succ_eq ht.out hx.out hy.out rfl, below_drewN hb _⟩
          case measure => simp [intOf]; omega
        · have hne : ¬ (x.lo = y.lo ∧ x.hi = y.hi) := fun h => hxy (by obtain ⟨a, b⟩ := x; obtain ⟨c, d⟩ := y; simp_all)
          by_cases hlo : x.lo = y.lo
          · have hhi : ¬ x.hi = y.hi := fun h => hne ⟨hlo, h⟩
            clear hne
            go_wp2_with fail
            go_quiet (fail)
            go_wp2
            go_ret
            refine ⟨ret_bool (Eq.symm (decide_eq_false fun h => ?_)), below_drewN hb _⟩
            subst h
            exact hxy (Option.some.inj (hx.out.symm.trans hy.out))
          clear hne
          go_wp2_with fail
          go_quiet (fail)
          go_wp2
          go_ret
          refine ⟨ret_bool (Eq.symm (decide_eq_false fun h => ?_)), below_drewN hb _⟩
          subst h
          exact hxy (Option.some.inj (hx.out.symm.trans hy.out))
      · obtain rfl : k = na := by omega
        go_wp2
        go_ret
        refine ⟨ret_bool (Eq.symm (decide_eq_true ?_)), hb⟩
        rw [List.take_of_length_le (by rw [hl1.out]; exact Nat.le_refl _), List.take_of_length_le (by rw [hl2.out]; exact Nat.le_refl _)] at ht
        exact ht
  · have hn' : ¬ ((na : Int) = (nb : Int)) := by omega
    go_enter Tryz.func61, Tryz.ntmps61
    go_wp2
    go_ret
    exact ⟨ret_bool (Eq.symm (decide_eq_false fun h => hn (by rw [← hl1.out, ← hl2.out, h]))), Below.refl _ _⟩
end Go.Proofs.YtjiaepphnddpoaaGreat
