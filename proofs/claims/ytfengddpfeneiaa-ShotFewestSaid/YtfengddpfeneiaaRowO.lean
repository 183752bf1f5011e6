/-
  A further argument of the shot chapter's rows: a list of what is to be repeated, and a proof.
-/
import Derived.Test.YtfengddpfeneiaaRowS
namespace Go.Proofs.Ytfengddpfeneiaa
set_option linter.unusedSimpArgs false
set_option linter.unusedVariables false
open Go.ChangeShapes Go.WideShapes Go.ChangeAt Go.RowKit Go.Deep
theorem Try.cellsOffer : Try.prog.cellsOf 106 = 2 := by kernel_rfl
section
variable {H : Type} {enc : TypeId × Value → H} {W : World} {ts : List TypeId} {ds : List (DataW H)}
set_option maxRecDepth 100000 in
theorem row_offer {r : Reach} {b0 j : Nat} {v : Value} {d : DataW H} {p : List MemPlace} (hsz : (DataW.weightsEach Try.prog ts ds).all (· ≤ reachBytes) = true) (ht : ts[j]? = some 106) (hd : ds[j]? = some d)
    (hv : Value.okWide Try.prog W r b0 106 v) (h : DataW.Trod enc Try.prog W 0 (fun _ => true) true 106 v d p) :
    ∃ (a : Option Addr) (n c : Nat) (x : List Int) (a' : Option Addr) (n' c' : Nat) (y : List Clm), v = .agg #[.slice a n c, .slice a' n' c'] ∧ SlAt W 0 1 ivs a n c x ∧ SlAt W 0 2 Clm.cells a' n' c' y := by
  obtain ⟨cs, rfl, hcs⟩ := okWide_struct Try.underlying106 hv
  obtain ⟨l⟩ := cs
  match l, hcs.trans Try.cellsOffer with
  | [c0, c1], _ =>
    obtain ⟨fuel, hf⟩ := h
    obtain ⟨xs, n, _, hx, _, hlen, hg⟩ := DataW.trod_struct Try.underlying106 hf
    match xs, hlen with
    | [y0, y1], _ =>
      simp only [Prod.mk.injEq] at hx
      have hx1 : d = .agg [y0.1, y1.1] := by rw [hx.1]; rfl
      have t0 := hg 0 _ rfl
      have t1 := hg 1 _ rfl
      simp [Value.cells] at t0 t1
      simp only [Try.cellsInts] at t0 t1
      simp only [Try.cellsClms] at t1
      simp at t0 t1
      obtain ⟨a, n', c, x, rfl, h1⟩ := row_ints_of (W := W) t0 (fun elems spare he => by
        have := List.all_eq_true.1 hsz _ (DataW.weights_mem_each ht hd ((elems.length + spare.length) * Try.prog.bytesOf 3) (by
          rw [hx1]
          simp [DataW.weights, DataW.weightsEach, DataW.weightsAll, Try.underlying106, he, Try.underlying22]))
        rw [Try.bytesInt] at this
        simpa using this)
      obtain ⟨a2, n2, c2, y, rfl, h2⟩ := row_clms (W := W) t1 (fun elems spare he => by
        have := List.all_eq_true.1 hsz _ (DataW.weights_mem_each ht hd ((elems.length + spare.length) * Try.prog.bytesOf 99) (by
          rw [hx1]
          simp [DataW.weights, DataW.weightsEach, DataW.weightsAll, Try.underlying106, he, Try.underlying67]))
        rw [Try.bytesClm] at this
        simpa using this)
      exact ⟨a, n', c, x, a2, n2, c2, y, rfl, h1, h2⟩
end
end Go.Proofs.Ytfengddpfeneiaa
