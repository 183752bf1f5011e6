/-
  Two lists of numbers alike.
  The chapter's own streamer and bounds.
-/
import Derived.Test.YthjdjpcomocffaaGreatW3
namespace Go.Proofs.YthjdjpcomocffaaGreat
open Go.RowKit Go.Shelf
set_option maxRecDepth 100000 in
set_option maxHeartbeats 1000000 in
theorem alikeB_any (A C : Option Addr) (na ca nb cb B1 B2 : Nat) (xs ys : List Bnd) (w : World) (h1 : SlAt w B1 2 Bnd.cells A na ca xs) (h2 : SlAt w B2 2 Bnd.cells C nb cb ys) :
    Calls Tryz.prog 53 #[.slice A na ca, .slice C nb cb] w fun e w' => e = .returned (.bool (decide (xs = ys))) ∧ Below w.heap.size w w' := by
  have hle := h1.le
  have hl1 := Lib.hid h1.len
  have hl2 := Lib.hid h2.len
  by_cases hn : na = nb
  · subst hn
    go_enter Tryz.func53, Tryz.ntmps53
    go_wp2
    go_loopw [5] (fun i wr => ∃ k : Nat, i = .int .i64 k ∧ k ≤ na ∧ xs.take k = ys.take k ∧ Below w.heap.size w wr) (fun i wr => na - (intOf i).toNat)
    case atStart => exact ⟨0, rfl, Nat.zero_le _, rfl, Below.refl _ _⟩
    case round =>
      obtain ⟨k, rfl, hk, ht, hb⟩ := hrel
      by_cases hlt : k < na
      · obtain ⟨x, hx⟩ := some_of_lt hl1.out hlt
        obtain ⟨y, hy⟩ := some_of_lt hl2.out hlt
        obtain ⟨b1, o1, hA1, -, -, e1, e1'⟩ := (h1.keep hb.size (fun _ _ h => hb.cell h)).bnd hx
        obtain ⟨b2, o2, hA2, -, -, e2, e2'⟩ := (h2.keep hb.size (fun _ _ h => hb.cell h)).bnd hy
        have t1 := IntWalk.i64_in ((k : Int) + 1) (by omega)
        have hk0 : (0 : Int) ≤ (k : Int) := by omega
        have hk1 : (k : Int) < (na : Int) := by omega
        replace hx := Lib.hid hx
        replace hy := Lib.hid hy
        replace ht := Lib.hid ht
        subst hA1
        subst hA2
        by_cases hxy : x = y
        · have hxy2 := Lib.hid hxy
          subst hxy
          go_wp2_with fail
          go_quiet (fail)
          go_wp2
          go_roundw
          case rel => exact ⟨k + 1, by go_num, by omega, take_succ_eq ht.out hx.out hy.out rfl, below_drewN hb _⟩
          case measure => simp [intOf]; omega
        · have hne : ¬ (x.lo = y.lo ∧ x.hi = y.hi) := fun h => hxy (by obtain ⟨a, b⟩ := x; obtain ⟨c, d⟩ := y; simp_all)
          by_cases hlo : x.lo = y.lo
          · have hhi : ¬ x.hi = y.hi := fun h => hne ⟨hlo, h⟩
            clear hne
            go_wp2_with fail
            go_quiet (fail)
            go_wp2
            go_ret
            refine ⟨ret_bool (Eq.symm (decide_eq_false fun h => ?_)), below_drewN hb _⟩
            subst h
            exact hxy (Option.some.inj (hx.out.symm.trans hy.out))
          clear hne
          go_wp2_with fail
          go_quiet (fail)
          go_wp2
          go_ret
          refine ⟨ret_bool (Eq.symm (decide_eq_false fun h => ?_)), below_drewN hb _⟩
          subst h
          exact hxy (Option.some.inj (hx.out.symm.trans hy.out))
      · obtain rfl : k = na := by omega
        go_wp2
        go_ret
        refine ⟨ret_bool (Eq.symm (decide_eq_true ?_)), hb⟩
        rw [List.take_of_length_le (by rw [hl1.out]; exact Nat.le_refl _), List.take_of_length_le (by rw [hl2.out]; exact Nat.le_refl _)] at ht
        exact ht
  · have hn' : ¬ ((na : Int) = (nb : Int)) := by omega
    go_enter Tryz.func53, Tryz.ntmps53
    go_wp2
    go_ret
    exact ⟨ret_bool (Eq.symm (decide_eq_false fun h => hn (by rw [← hl1.out, ← hl2.out, h]))), Below.refl _ _⟩
end Go.Proofs.YthjdjpcomocffaaGreat
namespace Go.Proofs.YthjdjpcomocffaaGreat
open Go.RowKit Go.Shelf
theorem first_any (w : World) : Calls Tryz.prog 11 #[] w fun e w' => ∃ A, e = .returned (.slice A 2 2) ∧ SlAt w' w.heap.size 2 Bnd.cells A 2 2 [⟨10, 10⟩, ⟨20, 24⟩] ∧ Below w.heap.size w w' := by
  go_enter Tryz.func11, Tryz.ntmps11
  go_wp2
  go_ret
  exact ⟨_, rfl, SlAt.of_blk (enc := Bnd.cells) (s := 2) (Blk.new w 24 #[.int .i64 10, .int .i64 10, .int .i64 20, .int .i64 24]) (fun _ => rfl) [⟨10, 10⟩, ⟨20, 24⟩] rfl (by decide), (Below.refl _ _).alloc (Nat.le_refl _) _⟩
theorem after_any (w : World) : Calls Tryz.prog 9 #[] w fun e w' => ∃ A, e = .returned (.slice A 2 2) ∧ SlAt w' w.heap.size 2 Bnd.cells A 2 2 [⟨4, 7⟩, ⟨16, 20⟩] ∧ Below w.heap.size w w' := by
  go_enter Tryz.func9, Tryz.ntmps9
  go_wp2
  go_ret
  exact ⟨_, rfl, SlAt.of_blk (enc := Bnd.cells) (s := 2) (Blk.new w 24 #[.int .i64 4, .int .i64 7, .int .i64 16, .int .i64 20]) (fun _ => rfl) [⟨4, 7⟩, ⟨16, 20⟩] rfl (by decide), (Below.refl _ _).alloc (Nat.le_refl _) _⟩
def cable0 : Strm := { head := 0, secs := [⟨100, 32, 0, 2, 5000⟩, ⟨100, 16, 5, 3, 3000⟩], lane := ⟨-20, 20⟩, bend := 30 }
set_option maxRecDepth 100000 in
theorem cable_any (w : World) : Calls Tryz.prog 4 #[] w fun e w' => ∃ A, e = .returned (.agg #[.int .i64 0, .slice A 2 2, .int .i64 (-20), .int .i64 20, .int .i64 30]) ∧ SlAt w' w.heap.size 5 Sec.cells A 2 2 cable0.secs ∧ Below w.heap.size w w' := by
  obtain ⟨wz, hwz⟩ : ∃ x, x = (w.alloc (.cells #[.int .i64 0, .slice (some ⟨w.heap.size + 1, 0, none⟩) 2 2, .int .i64 (-20), .int .i64 20, .int .i64 30] 26)).alloc (.cells #[.int .i64 100, .int .i64 32, .int .i64 0, .int .i64 2, .int .i64 5000, .int .i64 100, .int .i64 16, .int .i64 5, .int .i64 3, .int .i64 3000] 30) := ⟨_, rfl⟩
  have k0 : Blk wz w.heap.size 26 #[.int .i64 0, .slice (some ⟨w.heap.size + 1, 0, none⟩) 2 2, .int .i64 (-20), .int .i64 20, .int .i64 30] := by rw [hwz]; exact (Blk.new w _ _).alloc _
  have k1 : Blk wz (w.heap.size + 1) 30 #[.int .i64 100, .int .i64 32, .int .i64 0, .int .i64 2, .int .i64 5000, .int .i64 100, .int .i64 16, .int .i64 5, .int .i64 3, .int .i64 3000] := by
    rw [hwz]; have := Blk.new (w.alloc (.cells #[.int .i64 0, .slice (some ⟨w.heap.size + 1, 0, none⟩) 2 2, .int .i64 (-20), .int .i64 20, .int .i64 30] 26)) 30 #[.int .i64 100, .int .i64 32, .int .i64 0, .int .i64 2, .int .i64 5000, .int .i64 100, .int .i64 16, .int .i64 5, .int .i64 3, .int .i64 3000]; rwa [World.size_alloc] at this
  have b1 : Below w.heap.size w wz := by rw [hwz]; exact ((Below.refl _ _).alloc (Nat.le_refl _) _).alloc (by simp) _
  go_enter Tryz.func4, Tryz.ntmps4
  go_wp2
  rw [← hwz]
  clear hwz
  obtain ⟨c0, f0, l0⟩ := k0.rules
  exact bodyPost_ret (v := .agg #[.int .i64 0, .slice (some ⟨w.heap.size + 1, 0, none⟩) 2 2, .int .i64 (-20), .int .i64 20, .int .i64 30]) (by simp [results, Tryz.results4, go_sem, c0]) rfl
    ⟨_, rfl, (SlAt.of_blk (enc := Sec.cells) (s := 5) k1 (fun _ => rfl) cable0.secs rfl (by decide)).mono (Nat.le_succ _), b1⟩
end Go.Proofs.YthjdjpcomocffaaGreat
