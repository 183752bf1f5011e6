/-
  Further arguments of the shot chapter's rows: a line (a point and a heading), a list of regions.
-/
import Derived.Test.YtfengddpfeneiaaGreatRowS
namespace Go.Proofs.YtfengddpfeneiaaGreat
set_option linter.unusedSimpArgs false
set_option linter.unusedVariables false
open Go.ChangeShapes Go.WideShapes Go.ChangeAt Go.RowKit Go.Deep
theorem Tryz.cellsPnt : Tryz.prog.cellsOf 23 = 2 := by kernel_rfl
theorem Tryz.cellsHdgB : Tryz.prog.cellsOf 25 = 3 := by kernel_rfl
theorem Tryz.cellsLine : Tryz.prog.cellsOf 27 = 5 := by kernel_rfl
theorem Tryz.cellsReg : Tryz.prog.cellsOf 42 = 8 := by kernel_rfl
theorem Tryz.bytesReg : Tryz.prog.bytesOf 42 = 64 := by kernel_rfl
section
variable {H : Type} {enc : TypeId × Value → H} {W : World} {ts : List TypeId} {ds : List (DataW H)}
set_option maxRecDepth 100000 in
theorem row_pnt {fuel : Nat} {c0 c1 : Value} {x : DataW H × List MemPlace} (hf : DataW.trod enc Tryz.prog W 0 (fun _ => true) true fuel 23 [c0, c1] = some x) :
    ∃ b : Pnt, c0 = .int .i64 b.x ∧ c1 = .int .i64 b.y := by
  obtain ⟨zs, m, _, _, _, hlen2, hg2⟩ := DataW.trod_struct Tryz.underlying23 hf
  match zs, hlen2 with
  | [z0, z1], _ =>
    have w0 := hg2 0 _ rfl
    have w1 := hg2 1 _ rfl
    simp at w0 w1
    simp only [Tryz.cellsInt] at w0 w1
    simp at w0 w1
    obtain ⟨lo, g0, _, _⟩ := DataW.trod_int Tryz.underlying3 w0
    obtain ⟨hi, g1, _, _⟩ := DataW.trod_int Tryz.underlying3 w1
    simp at g0 g1
    subst g0 g1
    exact ⟨⟨lo, hi⟩, rfl, rfl⟩
set_option maxRecDepth 100000 in
theorem row_hdgB {fuel : Nat} {c0 c1 c2 : Value} {x : DataW H × List MemPlace} (hf : DataW.trod enc Tryz.prog W 0 (fun _ => true) true fuel 25 [c0, c1, c2] = some x) :
    ∃ b : Hdg, c0 = .int .i64 b.p ∧ c1 = .int .i64 b.q ∧ c2 = .int .i64 b.c := by
  obtain ⟨zs, m, _, _, _, hlen2, hg2⟩ := DataW.trod_struct Tryz.underlying25 hf
  match zs, hlen2 with
  | [z0, z1, z2], _ =>
    have w0 := hg2 0 _ rfl
    have w1 := hg2 1 _ rfl
    have w2 := hg2 2 _ rfl
    simp at w0 w1 w2
    simp only [Tryz.cellsInt] at w0 w1 w2
    simp at w0 w1 w2
    obtain ⟨x0, g0, _, _⟩ := DataW.trod_int Tryz.underlying3 w0
    obtain ⟨x1, g1, _, _⟩ := DataW.trod_int Tryz.underlying3 w1
    obtain ⟨x2, g2, _, _⟩ := DataW.trod_int Tryz.underlying3 w2
    simp at g0 g1 g2
    subst g0 g1 g2
    exact ⟨⟨x0, x1, x2⟩, rfl, rfl, rfl⟩
set_option maxRecDepth 100000 in
theorem row_line {r : Reach} {b0 : Nat} {v : Value} {d : DataW H} {p : List MemPlace} (hv : Value.okWide Tryz.prog W r b0 27 v) (h : DataW.Trod enc Tryz.prog W 0 (fun _ => true) true 27 v d p) :
    ∃ (a : Pnt) (b : Hdg), v = .agg #[.int .i64 a.x, .int .i64 a.y, .int .i64 b.p, .int .i64 b.q, .int .i64 b.c] := by
  obtain ⟨cs, rfl, hcs⟩ := okWide_struct Tryz.underlying27 hv
  obtain ⟨l⟩ := cs
  match l, hcs.trans Tryz.cellsLine with
  | [c0, c1, c2, c3, c4], _ =>
    obtain ⟨fuel, hf⟩ := h
    obtain ⟨zs, m, _, _, _, hlen2, hg2⟩ := DataW.trod_struct Tryz.underlying27 hf
    match zs, hlen2 with
    | [z0, z1], _ =>
      have w0 := hg2 0 _ rfl
      have w1 := hg2 1 _ rfl
      simp [Value.cells] at w0 w1
      simp only [Tryz.cellsPnt, Tryz.cellsHdgB] at w0 w1
      simp [Value.cells] at w0 w1
      obtain ⟨x0, g0, g1⟩ := row_pnt (W := W) w0
      obtain ⟨x1, g2, g3, g4⟩ := row_hdgB (W := W) w1
      subst g0 g1 g2 g3 g4
      exact ⟨x0, x1, rfl⟩
set_option maxRecDepth 100000 in
theorem row_regs {fuel : Nat} {c1 : Value} {x : DataW H × List MemPlace} (h : DataW.trod enc Tryz.prog W 0 (fun _ => true) true fuel 28 [c1] = some x)
    (hr : ∀ elems spare, x.1 = .slice elems spare → (elems.length + spare.length) * 64 ≤ reachBytes) : ∃ a n c xs, c1 = .slice a n c ∧ SlAt W 0 8 Reg.cells a n c xs := by
  rcases open_slice Tryz.underlying28 h with ⟨hcs, _⟩ | ⟨a, len, cap, m, n, D, Pl, hcs, hb, hl, hm, hmm, hx, hi⟩
  · simp at hcs
    subst hcs
    exact ⟨none, 0, 0, [], rfl, SlAt.nil _ _ _ _⟩
  · simp at hcs
    subst hcs
    have hr1 := hr _ _ (by rw [hx])
    simp only [if_true] at hmm
    subst hmm
    have hle : len ≤ 17592186044416 := by
      have := reach44 (show 8 ≤ 64 by omega) hr1
      simp at this
      omega
    have hsec : ∀ i, i < m → ∃ y : Reg, ∀ j v, y.cells[j]? = some v → W.cell? (a.add (i * 8 + j)) = some v := by
      intro i him
      obtain ⟨cs', hc, ht'⟩ := hi i him
      rw [Tryz.cellsReg] at hc
      obtain ⟨_, hcl, hat⟩ := World.cells?_some hc
      match cs', hcl with
      | [u0, u1, u2, u3, u4, u5, u6, u7], _ =>
        obtain ⟨zs, mm, _, _, _, hlen2, hg2⟩ := DataW.trod_struct Tryz.underlying42 ht'
        match zs, hlen2 with
        | [z0, z1, z2, z3], _ =>
          have w0 := hg2 0 _ rfl
          have w1 := hg2 1 _ rfl
          have w2 := hg2 2 _ rfl
          have w3 := hg2 3 _ rfl
          simp [Value.cells] at w0 w1 w2 w3
          simp only [Tryz.cellsBnd] at w0 w1 w2 w3
          simp [Value.cells] at w0 w1 w2 w3
          obtain ⟨x0, g0, g1⟩ := row_bnd (W := W) w0
          obtain ⟨x1, g2, g3⟩ := row_bnd (W := W) w1
          obtain ⟨x2, g4, g5⟩ := row_bnd (W := W) w2
          obtain ⟨x3, g6, g7⟩ := row_bnd (W := W) w3
          subst g0 g1 g2 g3 g4 g5 g6 g7
          refine ⟨⟨x0, x1, x2, x3⟩, fun j v hv => ?_⟩
          have hj : j < 8 := (List.getElem?_eq_some_iff.1 hv).1
          have h9 := hat j hj
          rw [← Go.Deep.add_add, h9]
          exact hv
    have hch : ∃ f : Nat → Reg, ∀ i, i < m → ∀ j v, (f i).cells[j]? = some v → W.cell? (a.add (i * 8 + j)) = some v :=
      ⟨fun i => if h : i < m then (hsec i h).choose else ⟨⟨0, 0⟩, ⟨0, 0⟩, ⟨0, 0⟩, ⟨0, 0⟩⟩, fun i h => by simp only [dif_pos h]; exact (hsec i h).choose_spec⟩
    obtain ⟨f, hf⟩ := hch
    refine ⟨some a, len, m, (List.range len).map f, rfl, by simp, hl, hle, fun hn => ?_⟩
    have h0 := hf 0 (by omega) 0 _ rfl
    have hs := World.cell?_spot h0
    obtain ⟨b, off, spot⟩ := a
    have hspot : spot = none := by simpa [Addr.add] using hs
    subst hspot
    refine ⟨b, off, rfl, Nat.zero_le _, World.block_lt_of_cell? W _ (by simpa [Addr.add] using h0), fun k y hk jj v hv => ?_⟩
    have hkn : k < len := by have := (List.getElem?_eq_some_iff.1 hk).1; simpa using this
    have hy : f k = y := by simpa [hkn] using hk
    subst hy
    have := hf k (by omega) jj v hv
    rw [add_none] at this
    exact this
set_option maxRecDepth 100000 in
theorem row_regs_arg {r : Reach} {b0 j : Nat} {v : Value} {d : DataW H} {p : List MemPlace} (hsz : (DataW.weightsEach Tryz.prog ts ds).all (· ≤ reachBytes) = true) (ht : ts[j]? = some 28) (hd : ds[j]? = some d)
    (hv : Value.okWide Tryz.prog W r b0 28 v) (h : DataW.Trod enc Tryz.prog W 0 (fun _ => true) true 28 v d p) :
    ∃ a n c xs, v = .slice a n c ∧ SlAt W 0 8 Reg.cells a n c xs := by
  obtain ⟨a, n, c, rfl⟩ := okWide_slice Tryz.underlying28 hv
  obtain ⟨fuel, hf⟩ := h
  simp [Value.cells] at hf
  exact row_regs hf (fun elems spare he => by
    have := List.all_eq_true.1 hsz _ (DataW.weights_mem_each ht hd ((elems.length + spare.length) * Tryz.prog.bytesOf 42) (by
      dsimp only at he
      rw [he]
      simp [DataW.weights, DataW.weightsEach, Tryz.underlying28]))
    rw [Tryz.bytesReg] at this
    simpa using this)
end
end Go.Proofs.YtfengddpfeneiaaGreat
