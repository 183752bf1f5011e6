/-
  Further arguments of the shot chapter's rows: a line (a point and a heading), a list of regions.
  Further arguments of the shot chapter's rows: three numbers, two numbers.
-/
import Derived.Test.YtfengddpfeneiaaGreatRowS
namespace Go.Proofs.YtfengddpfeneiaaGreat
set_option linter.unusedSimpArgs false
set_option linter.unusedVariables false
open Go.ChangeShapes Go.WideShapes Go.ChangeAt Go.RowKit Go.Deep
theorem Tryz.cellsPnt : Tryz.prog.cellsOf 23 = 2 := by kernel_rfl
theorem Tryz.cellsHdgB : Tryz.prog.cellsOf 25 = 3 := by kernel_rfl
theorem Tryz.cellsLine : Tryz.prog.cellsOf 27 = 5 := by kernel_rfl
section
variable {H : Type} {enc : TypeId × Value → H} {W : World} {ts : List TypeId} {ds : List (DataW H)}
set_option maxRecDepth 100000 in
theorem row_pnt {fuel : Nat} {c0 c1 : Value} {x : DataW H × List MemPlace} (hf : DataW.trod enc Tryz.prog W 0 (fun _ => true) true fuel 23 [c0, c1] = some x) :
    ∃ b : Pnt, c0 = .int .i64 b.x ∧ c1 = .int .i64 b.y := by
  obtain ⟨zs, m, _, _, _, hlen2, hg2⟩ := DataW.trod_struct Tryz.underlying23 hf
  match zs, hlen2 with
  | [z0, z1], _ =>
    have w0 := hg2 0 _ rfl
    have w1 := hg2 1 _ rfl
    simp at w0 w1
    simp only [Tryz.cellsInt] at w0 w1
    simp at w0 w1
    obtain ⟨lo, g0, _, _⟩ := DataW.trod_int Tryz.underlying3 w0
    obtain ⟨hi, g1, _, _⟩ := DataW.trod_int Tryz.underlying3 w1
    simp at g0 g1
    subst g0 g1
    exact ⟨⟨lo, hi⟩, rfl, rfl⟩
set_option maxRecDepth 100000 in
theorem row_hdgB {fuel : Nat} {c0 c1 c2 : Value} {x : DataW H × List MemPlace} (hf : DataW.trod enc Tryz.prog W 0 (fun _ => true) true fuel 25 [c0, c1, c2] = some x) :
    ∃ b : Hdg, c0 = .int .i64 b.p ∧ c1 = .int .i64 b.q ∧ c2 = .int .i64 b.c := by
  obtain ⟨zs, m, _, _, _, hlen2, hg2⟩ := DataW.trod_struct Tryz.underlying25 hf
  match zs, hlen2 with
  | [z0, z1, z2], _ =>
    have w0 := hg2 0 _ rfl
    have w1 := hg2 1 _ rfl
    have w2 := hg2 2 _ rfl
    simp at w0 w1 w2
    simp only [Tryz.cellsInt] at w0 w1 w2
    simp at w0 w1 w2
    obtain ⟨x0, g0, _, _⟩ := DataW.trod_int Tryz.underlying3 w0
    obtain ⟨x1, g1, _, _⟩ := DataW.trod_int Tryz.underlying3 w1
    obtain ⟨x2, g2, _, _⟩ := DataW.trod_int Tryz.underlying3 w2
    simp at g0 g1 g2
    subst g0 g1 g2
    exact ⟨⟨x0, x1, x2⟩, rfl, rfl, rfl⟩
set_option maxRecDepth 100000 in
theorem row_line {r : Reach} {b0 : Nat} {v : Value} {d : DataW H} {p : List MemPlace} (hv : Value.okWide Tryz.prog W r b0 27 v) (h : DataW.Trod enc Tryz.prog W 0 (fun _ => true) true 27 v d p) :
    ∃ (a : Pnt) (b : Hdg), v = .agg #[.int .i64 a.x, .int .i64 a.y, .int .i64 b.p, .int .i64 b.q, .int .i64 b.c] := by
  obtain ⟨cs, rfl, hcs⟩ := okWide_struct Tryz.underlying27 hv
  obtain ⟨l⟩ := cs
  match l, hcs.trans Tryz.cellsLine with
  | [c0, c1, c2, c3, c4], _ =>
    obtain ⟨fuel, hf⟩ := h
    obtain ⟨zs, m, _, _, _, hlen2, hg2⟩ := DataW.trod_struct Tryz.underlying27 hf
    match zs, hlen2 with
    | [z0, z1], _ =>
      have w0 := hg2 0 _ rfl
      have w1 := hg2 1 _ rfl
      simp [Value.cells] at w0 w1
      simp only [Tryz.cellsPnt, Tryz.cellsHdgB] at w0 w1
      simp [Value.cells] at w0 w1
      obtain ⟨x0, g0, g1⟩ := row_pnt (W := W) w0
      obtain ⟨x1, g2, g3, g4⟩ := row_hdgB (W := W) w1
      subst g0 g1 g2 g3 g4
      exact ⟨x0, x1, rfl⟩
end
end Go.Proofs.YtfengddpfeneiaaGreat
namespace Go.Proofs.YtfengddpfeneiaaGreat
set_option linter.unusedSimpArgs false
set_option linter.unusedVariables false
open Go.ChangeShapes Go.WideShapes Go.ChangeAt Go.RowKit Go.Deep
section
variable {H : Type} {enc : TypeId × Value → H} {W : World} {ts : List TypeId} {ds : List (DataW H)}
theorem okWide_array3 {P : Program} {w : World} {r : Reach} {base n : Nat} {t e : TypeId} {v : Value} (ht : P.underlying t = some (.array n e)) (h : Value.okWide P w r base t v) : ∃ cs, v = .agg cs ∧ cs.size = P.cellsOf t := by
  simp only [Value.okWide, ht] at h
  obtain ⟨cs, h1, h2, _⟩ := h
  exact ⟨cs, h1, h2⟩
theorem Tryz.cellsArr3 : Tryz.prog.cellsOf 48 = 3 := by kernel_rfl
set_option maxRecDepth 100000 in
theorem row_arr3 {r : Reach} {b0 : Nat} {v : Value} {d : DataW H} {p : List MemPlace} (hv : Value.okWide Tryz.prog W r b0 48 v) (h : DataW.Trod enc Tryz.prog W 0 (fun _ => true) true 48 v d p) :
    ∃ a b c : Int, v = .agg #[.int .i64 a, .int .i64 b, .int .i64 c] := by
  obtain ⟨cs, rfl, hcs⟩ := okWide_array3 Tryz.underlying48 hv
  obtain ⟨l⟩ := cs
  match l, hcs.trans Tryz.cellsArr3 with
  | [c0, c1, c2], _ =>
    obtain ⟨fuel, hf⟩ := h
    obtain ⟨zs, m, _, _, _, hlen2, hg2⟩ := DataW.trod_array Tryz.underlying48 hf
    match zs, hlen2 with
    | [z0, z1, z2], _ =>
      have w0 := hg2 0 (by omega)
      have w1 := hg2 1 (by omega)
      have w2 := hg2 2 (by omega)
      simp [Value.cells] at w0 w1 w2
      simp only [Tryz.cellsInt] at w0 w1 w2
      simp at w0 w1 w2
      obtain ⟨x0, g0, _, _⟩ := DataW.trod_int Tryz.underlying3 w0
      obtain ⟨x1, g1, _, _⟩ := DataW.trod_int Tryz.underlying3 w1
      obtain ⟨x2, g2, _, _⟩ := DataW.trod_int Tryz.underlying3 w2
      simp at g0 g1 g2
      subst g0 g1 g2
      exact ⟨x0, x1, x2, rfl⟩
end
end Go.Proofs.YtfengddpfeneiaaGreat
