/-
  Small helpers of the statements: drifts, sums, lists compared, a list of one's own.
-/
import Derived.Test.YthjdjpcomocffaaGreatM1
namespace Go.Proofs.YthjdjpcomocffaaGreat
open Go.RowKit Go.Shelf
set_option linter.unusedSimpArgs false
set_option linter.unusedVariables false

theorem quiet_more {P : Program} {f : FuncId} {args : Array Value} {w : World} {a x : Nat} {v : Value} (h : Calls P f args (w.drewN (a + x)) fun e w' => e = .returned v ∧ w' = w.drewN (a + x)) : Calls P f args (w.drewN (a + x)) fun e w'' => e = .returned v ∧ ∃ n, w'' = w.drewN (a + n) :=
  h.mono fun _ _ ⟨he, hm⟩ => ⟨he, x, hm⟩
def drTo (b : Bnd) (bits : List Int) (fr : Int) (k : Nat) : List Int := (List.range k).map fun i => insB bits fr i b
theorem drTo_succ (b : Bnd) (bits : List Int) (fr : Int) (k : Nat) : drTo b bits fr (k + 1) = drTo b bits fr k ++ [insB bits fr k b] := by
  unfold drTo; rw [List.range_succ, List.map_append, List.map_singleton]
theorem drTo_len (b : Bnd) (bits : List Int) (fr : Int) (k : Nat) : (drTo b bits fr k).length = k := by simp [drTo]
theorem drTo_at (b : Bnd) (bits : List Int) (fr : Int) {i k : Nat} (h : i < k) : (drTo b bits fr k)[i]? = some (insB bits fr i b) := by
  unfold drTo; rw [List.getElem?_map, List.getElem?_range h]; rfl
theorem drTo_in {b : Bnd} (bits : List Int) (fr : Int) (k : Nat) {m : Int} (hm : m ≤ 100000) (h : okBnd m b = true) {i : Nat} (hi : i < k) : inB ((drTo b bits fr k).getD i 0) b := by
  rw [getD_of _ (drTo_at b bits fr hi)]
  exact (insB_in bits fr i hm h).1
theorem drTo_ok {s : Strm} {b : Bnd} (bits : List Int) (fr : Int) (h : okBnd 100 b = true) : okNums s (drTo b bits fr s.secs.length) 100 = true := by
  unfold okNums
  rw [Bool.and_eq_true]
  refine ⟨decide_eq_true (drTo_len _ _ _ _), List.all_eq_true.2 fun x hx => ?_⟩
  obtain ⟨i, hi⟩ := List.mem_iff_getElem?.1 hx
  have hl := lt_of_at hi
  rw [drTo_len] at hl
  rw [drTo_at b bits fr hl] at hi
  cases hi
  obtain ⟨h1, h2, h3⟩ := of_decide_eq_true h
  have := (insB_in bits fr i (by omega) h).1
  unfold inB at this
  exact decide_eq_true (by omega)
/-! Sum -/
/-! Earlier -/
end Go.Proofs.YthjdjpcomocffaaGreat
