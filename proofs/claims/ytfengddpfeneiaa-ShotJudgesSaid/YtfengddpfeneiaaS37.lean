/-
  Shots, walks of the specification: Allow.
-/
import Derived.Test.YtfengddpfeneiaaS36
import Derived.Test.YtfengddpfeneiaaQ18
import Derived.Test.YtfengddpfeneiaaS14
import Derived.StillTailTactics
namespace Go.Proofs.Ytfengddpfeneiaa
open Go.RowKit Go.Shelf
set_option linter.unusedSimpArgs false
set_option linter.unusedVariables false

set_option maxRecDepth 100000 in
set_option maxHeartbeats 1000000 in
theorem Rones_any (T : Nat) (m : Int) (hT : T < 4096) (h0 : 0 ≤ m) (h1 : m ≤ 12) (w : World) :
    Calls Try.prog 106 #[.int .i64 (T : Int), .int .i64 m] w fun e w' => e = .returned (.int .i64 (onesS T m.toNat : Nat)) ∧ w' = w := by
  obtain ⟨M, hM⟩ : ∃ M : Nat, m = M := ⟨m.toNat, by omega⟩
  subst hM
  rw [Int.toNat_natCast]
  go_enter Try.func106, Try.ntmps106
  go_wp2_with fail
  go_loopw [5, 6] (fun v i wr => ∃ k : Nat, i = .int .i64 (k : Int) ∧ k ≤ M ∧ v = .int .i64 (onesS T k : Nat) ∧ wr = w) (fun v i wr => M - (intOf i).toNat)
  case atStart => exact ⟨0, rfl, Nat.zero_le _, rfl, rfl⟩
  case round =>
    obtain ⟨k, rfl, hk, rfl, hwr⟩ := hrel
    rw [hwr]
    clear hwr wr
    by_cases hlt : k < M
    · have hk0 : (0 : Int) ≤ (k : Int) := by omega
      have hk1 : (k : Int) < (M : Int) := by omega
      have hob := onesS_bd T k
      have hbl := bitS_lt T k
      obtain ⟨bt, hbt⟩ : ∃ bt : Nat, bitS T k = bt := ⟨_, rfl⟩
      have hbit : (T : Int) / 2 ^ k % 2 = (bt : Int) := by rw [← hbt]; unfold bitS; push_cast; rfl
      have hbit2 : ((T : Int) / 2 ^ k).tmod 2 = (bt : Int) := by rw [Int.tmod_eq_emod_of_nonneg (Int.ediv_nonneg (by omega) (Int.pow_nonneg (by omega))), hbit]
      have hbit3 : (0 : Int) ≤ (T : Int) / 2 ^ k := Int.ediv_nonneg (by omega) (Int.pow_nonneg (by omega))
      have hnx : Hid ((onesS T (k + 1) : Nat) = onesS T k + bt) := by show _ = _; rw [onesS, hbt]
      rw [hbt] at hbl
      generalize onesS T k = q at *
      have u1 := IntWalk.i64_in ((q : Int) + (bt : Int)) (by omega)
      replace hbt := Lib.hid hbt
      go_wp2_with fail
      go_roundw
      case rel => exact ⟨k + 1, by go_num, by omega, by rw [hnx.out]; push_cast; rfl, by first | rfl | trivial⟩
      case measure => simp [intOf]; omega
    · obtain rfl : k = M := by omega
      go_wp2_with fail
      go_ret
      exact ⟨rfl, rfl⟩
theorem allow_end {r : Rul} (hr : okRul r = true) {l : List Int} (hl : isRes l) (hj : (judgeS r l).2 = 0) (M : Nat) (hM : M ≤ 1000) : min ((bestS r M (stateS l) 1000 : Nat) : Int) (r.total - 1 - (cnt l : Int)) = allowS r l (M : Int) := by
  have h := (state_ok hr hl hj).2
  unfold allowS
  rw [Int.toNat_natCast, bestS_min r M (stateS l) (r.total - 1 - cnt l).toNat 1000 hM]
  omega
theorem cnt_takeI {l : List Int} (h : isRes l) {k : Nat} {x : Int} (hx : l[k]? = some x) : ((cnt (l.take (k + 1)) : Nat) : Int) = (cnt (l.take k) : Int) + x := by
  rw [cnt_take hx]
  rcases h x (List.mem_of_getElem? hx) with rfl | rfl <;> simp
theorem next_int {s : Nat} {x : Int} (hx : x = 0 ∨ x = 1) : (2 * (s : Int) + x).tmod 4096 = (nextS s x.toNat : Nat) := by
  rw [Int.tmod_eq_emod_of_nonneg (by omega)]
  unfold nextS
  rcases hx with rfl | rfl
  · show _ = (((2 * s + 0) % 4096 : Nat) : Int); omega
  · show _ = (((2 * s + 1) % 4096 : Nat) : Int); omega
theorem state_takeI {l : List Int} {k : Nat} {x : Int} (h : l[k]? = some x) : stateS (l.take (k + 1)) = nextS (stateS (l.take k)) x.toNat := by
  rw [List.take_add_one, h]; exact stateS_snoc _ _
theorem rowSlot {W : World} {B g n c : Nat} {xs : List Int} (h : W.ownsRow B 3 1 (.slice (some ⟨g, 0, none⟩) n c) n (xs.map (.int .i64 ·))) (hn : n ≤ 17592186044416) (hl : xs.length = n) {k : Nat} {x : Int} (hk : xs[k]? = some x) : W.cell? ⟨g, k, none⟩ = some (.int .i64 x) := by
  have hs := SlAt.ownQ (enc := ivs) h hn xs (flatMap_ivs _).symm (fun _ => rfl) hl
  obtain ⟨b, o, hA, -, -, e⟩ := hs.int hk
  simp only [Option.some.injEq, Addr.mk.injEq, and_true] at hA
  obtain ⟨rfl, rfl⟩ := hA
  rwa [Nat.zero_add] at e
end Go.Proofs.Ytfengddpfeneiaa
