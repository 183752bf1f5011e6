/-
  Arguments of rows: regions, headings, pairs of numbers.
-/
import Derived.Test.YtjiaepphnddpoaaGreatRow2
import Derived.Test.YtjiaepphnddpoaaGreatG3
namespace Go.Proofs.YtjiaepphnddpoaaGreat
open Go.ChangeShapes Go.WideShapes Go.ChangeAt Go.RowKit Go.Deep
set_option linter.unusedSimpArgs false
set_option linter.unusedVariables false
section
variable {H : Type} {enc : TypeId × Value → H} {W : World} {ts : List TypeId} {ds : List (DataW H)}
theorem okWide_array {P : Program} {w : World} {r : Reach} {base n : Nat} {t e : TypeId} {v : Value} (ht : P.underlying t = some (.array n e)) (h : Value.okWide P w r base t v) : ∃ cs, v = .agg cs ∧ cs.size = P.cellsOf t := by
  simp only [Value.okWide, ht] at h
  obtain ⟨cs, h1, h2, _⟩ := h
  exact ⟨cs, h1, h2⟩
theorem Tryz.cellsArr2 : Tryz.prog.cellsOf 69 = 2 := by kernel_rfl
set_option maxRecDepth 100000 in
theorem row_arr2 {r : Reach} {b0 : Nat} {v : Value} {d : DataW H} {p : List MemPlace} (hv : Value.okWide Tryz.prog W r b0 69 v) (h : DataW.Trod enc Tryz.prog W 0 (fun _ => true) true 69 v d p) :
    ∃ a b : Int, v = .agg #[.int .i64 a, .int .i64 b] := by
  obtain ⟨cs, rfl, hcs⟩ := okWide_array Tryz.underlying69 hv
  obtain ⟨l⟩ := cs
  match l, hcs.trans Tryz.cellsArr2 with
  | [c0, c1], _ =>
    obtain ⟨fuel, hf⟩ := h
    obtain ⟨zs, m, _, _, _, hlen2, hg2⟩ := DataW.trod_array Tryz.underlying69 hf
    match zs, hlen2 with
    | [z0, z1], _ =>
      have w0 := hg2 0 (by omega)
      have w1 := hg2 1 (by omega)
      simp [Value.cells] at w0 w1
      simp only [Tryz.cellsInt] at w0 w1
      simp at w0 w1
      obtain ⟨lo, g0, _, _⟩ := DataW.trod_int Tryz.underlying3 w0
      obtain ⟨hi, g1, _, _⟩ := DataW.trod_int Tryz.underlying3 w1
      simp at g0 g1
      subst g0 g1
      exact ⟨lo, hi, rfl⟩
theorem Tryz.cellsHdg : Tryz.prog.cellsOf 47 = 3 := by kernel_rfl
theorem Tryz.cellsReg : Tryz.prog.cellsOf 45 = 8 := by kernel_rfl
set_option maxRecDepth 100000 in
theorem row_hdg {r : Reach} {b0 : Nat} {v : Value} {d : DataW H} {p : List MemPlace} (hv : Value.okWide Tryz.prog W r b0 47 v) (h : DataW.Trod enc Tryz.prog W 0 (fun _ => true) true 47 v d p) :
    ∃ b : Hdg, v = .agg #[.int .i64 b.p, .int .i64 b.q, .int .i64 b.c] := by
  obtain ⟨cs, rfl, hcs⟩ := okWide_struct Tryz.underlying47 hv
  obtain ⟨l⟩ := cs
  match l, hcs.trans Tryz.cellsHdg with
  | [c0, c1, c2], _ =>
    obtain ⟨fuel, hf⟩ := h
    obtain ⟨zs, m, _, _, _, hlen2, hg2⟩ := DataW.trod_struct Tryz.underlying47 hf
    match zs, hlen2 with
    | [z0, z1, z2], _ =>
      have w0 := hg2 0 _ rfl
      have w1 := hg2 1 _ rfl
      have w2 := hg2 2 _ rfl
      simp [Value.cells] at w0 w1 w2
      simp only [Tryz.cellsInt] at w0 w1 w2
      simp [Value.cells] at w0 w1 w2
      obtain ⟨x0, g0, _, _⟩ := DataW.trod_int Tryz.underlying3 w0
      obtain ⟨x1, g1, _, _⟩ := DataW.trod_int Tryz.underlying3 w1
      obtain ⟨x2, g2, _, _⟩ := DataW.trod_int Tryz.underlying3 w2
      simp at g0 g1 g2
      subst g0 g1 g2
      exact ⟨⟨x0, x1, x2⟩, rfl⟩
set_option maxRecDepth 100000 in
theorem row_reg {r : Reach} {b0 : Nat} {v : Value} {d : DataW H} {p : List MemPlace} (hv : Value.okWide Tryz.prog W r b0 45 v) (h : DataW.Trod enc Tryz.prog W 0 (fun _ => true) true 45 v d p) :
    ∃ b : Reg, v = .agg (regA b) := by
  obtain ⟨cs, rfl, hcs⟩ := okWide_struct Tryz.underlying45 hv
  obtain ⟨l⟩ := cs
  match l, hcs.trans Tryz.cellsReg with
  | [c0, c1, c2, c3, c4, c5, c6, c7], _ =>
    obtain ⟨fuel, hf⟩ := h
    obtain ⟨zs, m, _, _, _, hlen2, hg2⟩ := DataW.trod_struct Tryz.underlying45 hf
    match zs, hlen2 with
    | [z0, z1, z2, z3], _ =>
      have w0 := hg2 0 _ rfl
      have w1 := hg2 1 _ rfl
      have w2 := hg2 2 _ rfl
      have w3 := hg2 3 _ rfl
      simp [Value.cells] at w0 w1 w2 w3
      simp only [Tryz.cellsBnd] at w0 w1 w2 w3
      simp [Value.cells] at w0 w1 w2 w3
      obtain ⟨x0, g0, g1⟩ := row_bnd (W := W) w0
      obtain ⟨x1, g2, g3⟩ := row_bnd (W := W) w1
      obtain ⟨x2, g4, g5⟩ := row_bnd (W := W) w2
      obtain ⟨x3, g6, g7⟩ := row_bnd (W := W) w3
      subst g0 g1 g2 g3 g4 g5 g6 g7
      exact ⟨⟨x0, x1, x2, x3⟩, rfl⟩
end
end Go.Proofs.YtjiaepphnddpoaaGreat
