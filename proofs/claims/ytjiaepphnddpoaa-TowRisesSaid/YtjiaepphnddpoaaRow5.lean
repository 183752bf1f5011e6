/-
  Arguments of rows: arrays of two numbers, of two lists of numbers.
-/
import Derived.Test.YtjiaepphnddpoaaRow3
namespace Go.Proofs.Ytjiaepphnddpoaa
open Go.ChangeShapes Go.WideShapes Go.ChangeAt Go.RowKit Go.Deep
set_option linter.unusedSimpArgs false
set_option linter.unusedVariables false
section
variable {H : Type} {enc : TypeId × Value → H} {W : World} {ts : List TypeId} {ds : List (DataW H)}
theorem okWide_array {P : Program} {w : World} {r : Reach} {base n : Nat} {t e : TypeId} {v : Value} (ht : P.underlying t = some (.array n e)) (h : Value.okWide P w r base t v) : ∃ cs, v = .agg cs ∧ cs.size = P.cellsOf t := by
  simp only [Value.okWide, ht] at h
  obtain ⟨cs, h1, h2, _⟩ := h
  exact ⟨cs, h1, h2⟩
theorem Try.cellsArr2 : Try.prog.cellsOf 54 = 2 := by kernel_rfl
set_option maxRecDepth 100000 in
theorem row_arr2 {r : Reach} {b0 : Nat} {v : Value} {d : DataW H} {p : List MemPlace} (hv : Value.okWide Try.prog W r b0 54 v) (h : DataW.Trod enc Try.prog W 0 (fun _ => true) true 54 v d p) :
    ∃ a b : Int, v = .agg #[.int .i64 a, .int .i64 b] := by
  obtain ⟨cs, rfl, hcs⟩ := okWide_array Try.underlying54 hv
  obtain ⟨l⟩ := cs
  match l, hcs.trans Try.cellsArr2 with
  | [c0, c1], _ =>
    obtain ⟨fuel, hf⟩ := h
    obtain ⟨zs, m, _, _, _, hlen2, hg2⟩ := DataW.trod_array Try.underlying54 hf
    match zs, hlen2 with
    | [z0, z1], _ =>
      have w0 := hg2 0 (by omega)
      have w1 := hg2 1 (by omega)
      simp [Value.cells] at w0 w1
      simp only [Try.cellsInt] at w0 w1
      simp at w0 w1
      obtain ⟨lo, g0, _, _⟩ := DataW.trod_int Try.underlying3 w0
      obtain ⟨hi, g1, _, _⟩ := DataW.trod_int Try.underlying3 w1
      simp at g0 g1
      subst g0 g1
      exact ⟨lo, hi, rfl⟩
theorem Try.cellsArr2s : Try.prog.cellsOf 53 = 2 := by kernel_rfl
set_option maxRecDepth 100000 in
theorem row_arr2ints {r : Reach} {b0 j : Nat} {v : Value} {d : DataW H} {p : List MemPlace} (hsz : (DataW.weightsEach Try.prog ts ds).all (· ≤ reachBytes) = true) (ht : ts[j]? = some 53) (hd : ds[j]? = some d)
    (hv : Value.okWide Try.prog W r b0 53 v) (h : DataW.Trod enc Try.prog W 0 (fun _ => true) true 53 v d p) :
    ∃ a n c x a' n' c' y, v = .agg #[.slice a n c, .slice a' n' c'] ∧ SlAt W 0 1 ivs a n c x ∧ SlAt W 0 1 ivs a' n' c' y := by
  obtain ⟨cs, rfl, hcs⟩ := okWide_array Try.underlying53 hv
  obtain ⟨l⟩ := cs
  match l, hcs.trans Try.cellsArr2s with
  | [c0, c1], _ =>
    obtain ⟨fuel, hf⟩ := h
    obtain ⟨xs, n, _, hx, _, hlen, hg⟩ := DataW.trod_array Try.underlying53 hf
    match xs, hlen with
    | [y0, y1], _ =>
      simp only [Prod.mk.injEq] at hx
      have hx1 : d = .agg [y0.1, y1.1] := by rw [hx.1]; rfl
      have t0 := hg 0 (by omega)
      have t1 := hg 1 (by omega)
      simp [Value.cells] at t0 t1
      simp only [Try.cellsInts] at t0 t1
      simp at t0 t1
      obtain ⟨a, n', c, x, rfl, h1⟩ := row_ints_of (W := W) t0 (fun elems spare he => by
        have := List.all_eq_true.1 hsz _ (DataW.weights_mem_each ht hd ((elems.length + spare.length) * Try.prog.bytesOf 3) (by
          rw [hx1]
          simp [DataW.weights, DataW.weightsEach, DataW.weightsAll, Try.underlying53, he, Try.underlying27]))
        rw [Try.bytesInt] at this
        simpa using this)
      obtain ⟨a2, n2, c2, y, rfl, h2⟩ := row_ints_of (W := W) t1 (fun elems spare he => by
        have := List.all_eq_true.1 hsz _ (DataW.weights_mem_each ht hd ((elems.length + spare.length) * Try.prog.bytesOf 3) (by
          rw [hx1]
          simp [DataW.weights, DataW.weightsEach, DataW.weightsAll, Try.underlying53, he, Try.underlying27]))
        rw [Try.bytesInt] at this
        simpa using this)
      exact ⟨a, n', c, x, a2, n2, c2, y, rfl, h1, h2⟩
end
end Go.Proofs.Ytjiaepphnddpoaa
