/-
  Arguments of rows: points, headings, regions.
-/
import Derived.Test.YtjiaepphnddpoaaRow2
namespace Go.Proofs.Ytjiaepphnddpoaa
open Go.ChangeShapes Go.WideShapes Go.ChangeAt Go.RowKit Go.Deep
set_option linter.unusedSimpArgs false
set_option linter.unusedVariables false
section
variable {H : Type} {enc : TypeId × Value → H} {W : World} {ts : List TypeId} {ds : List (DataW H)}
theorem Try.cellsPnt : Try.prog.cellsOf 88 = 2 := by kernel_rfl
set_option maxRecDepth 100000 in
theorem row_pnt {fuel : Nat} {c0 c1 : Value} {x : DataW H × List MemPlace} (hf : DataW.trod enc Try.prog W 0 (fun _ => true) true fuel 88 [c0, c1] = some x) :
    ∃ b : Pnt, c0 = .int .i64 b.x ∧ c1 = .int .i64 b.y := by
  obtain ⟨zs, m, _, _, _, hlen2, hg2⟩ := DataW.trod_struct Try.underlying88 hf
  match zs, hlen2 with
  | [z0, z1], _ =>
    have w0 := hg2 0 _ rfl
    have w1 := hg2 1 _ rfl
    simp at w0 w1
    simp only [Try.cellsInt] at w0 w1
    simp at w0 w1
    obtain ⟨lo, g0, _, _⟩ := DataW.trod_int Try.underlying3 w0
    obtain ⟨hi, g1, _, _⟩ := DataW.trod_int Try.underlying3 w1
    simp at g0 g1
    subst g0 g1
    exact ⟨⟨lo, hi⟩, rfl, rfl⟩
set_option maxRecDepth 100000 in
theorem row_point {r : Reach} {b0 : Nat} {v : Value} {d : DataW H} {p : List MemPlace} (hv : Value.okWide Try.prog W r b0 88 v) (h : DataW.Trod enc Try.prog W 0 (fun _ => true) true 88 v d p) :
    ∃ b : Pnt, v = .agg #[.int .i64 b.x, .int .i64 b.y] := by
  obtain ⟨cs, rfl, hcs⟩ := okWide_struct Try.underlying88 hv
  obtain ⟨l⟩ := cs
  match l, hcs.trans Try.cellsPnt with
  | [c0, c1], _ =>
    obtain ⟨fuel, hf⟩ := h
    obtain ⟨b, rfl, rfl⟩ := row_pnt (W := W) hf
    exact ⟨b, rfl⟩
end
end Go.Proofs.Ytjiaepphnddpoaa
