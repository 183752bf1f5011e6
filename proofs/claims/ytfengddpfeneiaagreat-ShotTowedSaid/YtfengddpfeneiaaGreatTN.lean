/-
  Further arguments of the shot chapter's rows: a line (a point and a heading), a list of regions.
  Further arguments of the shot chapter's rows: a streamer, a point, two numbers.
-/
import Derived.Test.YtfengddpfeneiaaGreatRowS
namespace Go.Proofs.YtfengddpfeneiaaGreat
set_option linter.unusedSimpArgs false
set_option linter.unusedVariables false
open Go.ChangeShapes Go.WideShapes Go.ChangeAt Go.RowKit Go.Deep
theorem Tryz.cellsPnt : Tryz.prog.cellsOf 23 = 2 := by kernel_rfl
section
variable {H : Type} {enc : TypeId × Value → H} {W : World} {ts : List TypeId} {ds : List (DataW H)}
set_option maxRecDepth 100000 in
theorem row_pnt {fuel : Nat} {c0 c1 : Value} {x : DataW H × List MemPlace} (hf : DataW.trod enc Tryz.prog W 0 (fun _ => true) true fuel 23 [c0, c1] = some x) :
    ∃ b : Pnt, c0 = .int .i64 b.x ∧ c1 = .int .i64 b.y := by
  obtain ⟨zs, m, _, _, _, hlen2, hg2⟩ := DataW.trod_struct Tryz.underlying23 hf
  match zs, hlen2 with
  | [z0, z1], _ =>
    have w0 := hg2 0 _ rfl
    have w1 := hg2 1 _ rfl
    simp at w0 w1
    simp only [Tryz.cellsInt] at w0 w1
    simp at w0 w1
    obtain ⟨lo, g0, _, _⟩ := DataW.trod_int Tryz.underlying3 w0
    obtain ⟨hi, g1, _, _⟩ := DataW.trod_int Tryz.underlying3 w1
    simp at g0 g1
    subst g0 g1
    exact ⟨⟨lo, hi⟩, rfl, rfl⟩
end
end Go.Proofs.YtfengddpfeneiaaGreat
namespace Go.Proofs.YtfengddpfeneiaaGreat
set_option linter.unusedSimpArgs false
set_option linter.unusedVariables false
open Go.ChangeShapes Go.WideShapes Go.ChangeAt Go.RowKit Go.Deep
theorem Tryz.cellsSt : Tryz.prog.cellsOf 63 = 5 := by kernel_rfl
theorem Tryz.cellsSecs : Tryz.prog.cellsOf 61 = 1 := by kernel_rfl
theorem Tryz.cellsSec : Tryz.prog.cellsOf 208 = 5 := by kernel_rfl
theorem Tryz.bytesSec : Tryz.prog.bytesOf 208 = 40 := by kernel_rfl
section
variable {H : Type} {enc : TypeId × Value → H} {W : World} {ts : List TypeId} {ds : List (DataW H)}
set_option maxRecDepth 100000 in
theorem row_secs {fuel : Nat} {c1 : Value} {x : DataW H × List MemPlace} (h : DataW.trod enc Tryz.prog W 0 (fun _ => true) true fuel 61 [c1] = some x)
    (hr : ∀ elems spare, x.1 = .slice elems spare → (elems.length + spare.length) * 40 ≤ reachBytes) : ∃ a n c xs, c1 = .slice a n c ∧ SlAt W 0 5 Sec.cells a n c xs := by
  rcases open_slice_fields Tryz.underlying61 Tryz.underlying208 (by kernel_rfl) Tryz.cellsSec h with ⟨hcs, _⟩ | ⟨a, len, cap, m, D, Pl, hcs, _, hl, hm, hmm, hx, hi⟩
  · simp at hcs
    subst hcs
    exact ⟨none, 0, 0, [], rfl, SlAt.nil _ _ _ _⟩
  · simp at hcs
    subst hcs
    have hr1 := hr _ _ (by rw [hx])
    simp only [if_true] at hmm
    subst hmm
    have hle : len ≤ 17592186044416 := by
      have := reach44 (show 8 ≤ 40 by omega) hr1
      simp at this
      omega
    have hsec : ∀ i, i < m → ∃ y : Sec, ∀ j v, y.cells[j]? = some v → W.cell? (a.add (i * 5 + j)) = some v := by
      intro i him
      obtain ⟨ys, n', _, _, _, hf⟩ := hi i him
      obtain ⟨u0, y0, hc0, _, ht0⟩ := hf 0 _ rfl
      obtain ⟨v0, e0, _, _⟩ := DataW.trod_int Tryz.underlying3 ht0
      simp at e0
      subst e0
      obtain ⟨u1, y1, hc1, _, ht1⟩ := hf 1 _ rfl
      obtain ⟨v1, e1, _, _⟩ := DataW.trod_int Tryz.underlying3 ht1
      simp at e1
      subst e1
      obtain ⟨u2, y2, hc2, _, ht2⟩ := hf 2 _ rfl
      obtain ⟨v2, e2, _, _⟩ := DataW.trod_int Tryz.underlying3 ht2
      simp at e2
      subst e2
      obtain ⟨u3, y3, hc3, _, ht3⟩ := hf 3 _ rfl
      obtain ⟨v3, e3, _, _⟩ := DataW.trod_int Tryz.underlying3 ht3
      simp at e3
      subst e3
      obtain ⟨u4, y4, hc4, _, ht4⟩ := hf 4 _ rfl
      obtain ⟨v4, e4, _, _⟩ := DataW.trod_int Tryz.underlying3 ht4
      simp at e4
      subst e4
      refine ⟨⟨v0, v1, v2, v3, v4⟩, fun j v hv => ?_⟩
      match j, hv with
      | 0, hv => simp [Sec.cells] at hv; subst hv; simpa using hc0
      | 1, hv => simp [Sec.cells] at hv; subst hv; simpa using hc1
      | 2, hv => simp [Sec.cells] at hv; subst hv; simpa using hc2
      | 3, hv => simp [Sec.cells] at hv; subst hv; simpa using hc3
      | 4, hv => simp [Sec.cells] at hv; subst hv; simpa using hc4
      | q + 5, hv => simp [Sec.cells] at hv
    have hch : ∃ f : Nat → Sec, ∀ i, i < m → ∀ j v, (f i).cells[j]? = some v → W.cell? (a.add (i * 5 + j)) = some v :=
      ⟨fun i => if h : i < m then (hsec i h).choose else ⟨0, 0, 0, 0, 0⟩, fun i h => by simp only [dif_pos h]; exact (hsec i h).choose_spec⟩
    obtain ⟨f, hf⟩ := hch
    refine ⟨some a, len, m, (List.range len).map f, rfl, by simp, hl, hle, fun hn => ?_⟩
    have h0 := hf 0 (by omega) 0 _ rfl
    have hs := World.cell?_spot h0
    obtain ⟨b, off, spot⟩ := a
    have hspot : spot = none := by simpa [Addr.add] using hs
    subst hspot
    refine ⟨b, off, rfl, Nat.zero_le _, World.block_lt_of_cell? W _ (by simpa [Addr.add] using h0), fun k y hk jj v hv => ?_⟩
    have hkn : k < len := by have := (List.getElem?_eq_some_iff.1 hk).1; simpa using this
    have hy : f k = y := by simpa [hkn] using hk
    subst hy
    have := hf k (by omega) jj v hv
    rw [add_none] at this
    exact this
set_option maxRecDepth 100000 in
theorem row_strm {r : Reach} {b0 j : Nat} {v : Value} {d : DataW H} {p : List MemPlace} (hsz : (DataW.weightsEach Tryz.prog ts ds).all (· ≤ reachBytes) = true) (ht : ts[j]? = some 63) (hd : ds[j]? = some d)
    (hv : Value.okWide Tryz.prog W r b0 63 v) (h : DataW.Trod enc Tryz.prog W 0 (fun _ => true) true 63 v d p) :
    ∃ (s : Strm) (a : Option Addr) (n c : Nat), v = .agg #[.int .i64 s.head, .slice a n c, .int .i64 s.lane.lo, .int .i64 s.lane.hi, .int .i64 s.bend] ∧ SlAt W 0 5 Sec.cells a n c s.secs := by
  obtain ⟨cs, rfl, hcs⟩ := okWide_struct Tryz.underlying63 hv
  obtain ⟨l⟩ := cs
  match l, hcs.trans Tryz.cellsSt with
  | [c0, c1, c2, c3, c4], _ =>
    obtain ⟨fuel, hf⟩ := h
    obtain ⟨xs, n, _, hx, _, hlen, hg⟩ := DataW.trod_struct Tryz.underlying63 hf
    match xs, hlen with
    | [y0, y1, y2, y3], _ =>
      simp only [Prod.mk.injEq] at hx
      have t0 := hg 0 _ rfl
      have t1 := hg 1 _ rfl
      have t2 := hg 2 _ rfl
      have t3 := hg 3 _ rfl
      simp [Value.cells] at t0 t1 t2 t3
      simp only [Tryz.cellsInt] at t0
      simp only [Tryz.cellsSecs] at t1
      simp only [Tryz.cellsBnd] at t2
      simp only [Tryz.cellsInt] at t3
      simp at t0 t1 t2 t3
      obtain ⟨hd0, e0, _, _⟩ := DataW.trod_int Tryz.underlying3 t0
      obtain ⟨be, e3, _, _⟩ := DataW.trod_int Tryz.underlying3 t3
      obtain ⟨zs, m, _, _, _, hlen2, hg2⟩ := DataW.trod_struct Tryz.underlying40 t2
      match zs, hlen2 with
      | [z0, z1], _ =>
        have w0 := hg2 0 _ rfl
        have w1 := hg2 1 _ rfl
        simp at w0 w1
        simp only [Tryz.cellsInt, Tryz.cellsBnd] at w0 w1
        simp at w0 w1
        obtain ⟨lo, g0, _, _⟩ := DataW.trod_int Tryz.underlying3 w0
        obtain ⟨hi, g1, _, _⟩ := DataW.trod_int Tryz.underlying3 w1
        obtain ⟨a, n', c', secs, rfl, hs⟩ := row_secs (W := W) t1 (fun elems spare he => by
          have := List.all_eq_true.1 hsz _ (DataW.weights_mem_each ht hd ((elems.length + spare.length) * Tryz.prog.bytesOf 208) (by
            rw [hx.1]
            simp [DataW.weights, DataW.weightsEach, Tryz.underlying63, he, Tryz.underlying61]))
          rw [Tryz.bytesSec] at this
          simpa using this)
        simp at e0 e3 g0 g1
        subst e0 e3 g0 g1
        exact ⟨⟨hd0, secs, ⟨lo, hi⟩, be⟩, a, n', c', rfl, hs⟩
set_option maxRecDepth 100000 in
theorem row_point {r : Reach} {b0 : Nat} {v : Value} {d : DataW H} {p : List MemPlace} (hv : Value.okWide Tryz.prog W r b0 23 v) (h : DataW.Trod enc Tryz.prog W 0 (fun _ => true) true 23 v d p) :
    ∃ b : Pnt, v = .agg #[.int .i64 b.x, .int .i64 b.y] := by
  obtain ⟨cs, rfl, hcs⟩ := okWide_struct Tryz.underlying23 hv
  obtain ⟨l⟩ := cs
  match l, hcs.trans Tryz.cellsPnt with
  | [c0, c1], _ =>
    obtain ⟨fuel, hf⟩ := h
    obtain ⟨b, rfl, rfl⟩ := row_pnt (W := W) hf
    exact ⟨b, rfl⟩
end
end Go.Proofs.YtfengddpfeneiaaGreat
