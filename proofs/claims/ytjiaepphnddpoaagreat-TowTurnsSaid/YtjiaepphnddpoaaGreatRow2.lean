/-
  Arguments of rows: bounds, lists of bounds, a streamer with bounds.
-/
import Derived.Test.YtjiaepphnddpoaaGreatRow
namespace Go.Proofs.YtjiaepphnddpoaaGreat
open Go.ChangeShapes Go.WideShapes Go.ChangeAt Go.RowKit Go.Deep
set_option linter.unusedSimpArgs false
set_option linter.unusedVariables false
section
variable {H : Type} {enc : TypeId × Value → H} {W : World} {ts : List TypeId} {ds : List (DataW H)}
theorem Tryz.cellsTail : Tryz.prog.cellsOf 29 = 6 := by kernel_rfl
theorem Tryz.cellsBnds : Tryz.prog.cellsOf 27 = 1 := by kernel_rfl
theorem Tryz.bytesBnd : Tryz.prog.bytesOf 24 = 16 := by kernel_rfl
theorem row_bnds {fuel : Nat} {c1 : Value} {x : DataW H × List MemPlace} (h : DataW.trod enc Tryz.prog W 0 (fun _ => true) true fuel 27 [c1] = some x)
    (hr : ∀ elems spare, x.1 = .slice elems spare → (elems.length + spare.length) * 16 ≤ reachBytes) : ∃ a n c xs, c1 = .slice a n c ∧ SlAt W 0 2 Bnd.cells a n c xs := by
  rcases open_slice_fields Tryz.underlying27 Tryz.underlying24 (by kernel_rfl) Tryz.cellsBnd h with ⟨hcs, _⟩ | ⟨a, len, cap, m, D, Pl, hcs, _, hl, hm, hmm, hx, hi⟩
  · simp at hcs
    subst hcs
    exact ⟨none, 0, 0, [], rfl, SlAt.nil _ _ _ _⟩
  · simp at hcs
    subst hcs
    have hr1 := hr _ _ (by rw [hx])
    simp only [if_true] at hmm
    subst hmm
    have hle : len ≤ 17592186044416 := by
      have := reach44 (show 8 ≤ 16 by omega) hr1
      simp at this
      omega
    have hsec : ∀ i, i < m → ∃ y : Bnd, ∀ j v, y.cells[j]? = some v → W.cell? (a.add (i * 2 + j)) = some v := by
      intro i him
      obtain ⟨ys, n', _, _, _, hf⟩ := hi i him
      obtain ⟨u0, y0, hc0, _, ht0⟩ := hf 0 _ rfl
      obtain ⟨v0, e0, _, _⟩ := DataW.trod_int Tryz.underlying3 ht0
      simp at e0
      subst e0
      obtain ⟨u1, y1, hc1, _, ht1⟩ := hf 1 _ rfl
      obtain ⟨v1, e1, _, _⟩ := DataW.trod_int Tryz.underlying3 ht1
      simp at e1
      subst e1
      refine ⟨⟨v0, v1⟩, fun j v hv => ?_⟩
      match j, hv with
      | 0, hv => simp [Bnd.cells] at hv; subst hv; simpa using hc0
      | 1, hv => simp [Bnd.cells] at hv; subst hv; simpa using hc1
      | q + 2, hv => simp [Bnd.cells] at hv
    have hch : ∃ f : Nat → Bnd, ∀ i, i < m → ∀ j v, (f i).cells[j]? = some v → W.cell? (a.add (i * 2 + j)) = some v :=
      ⟨fun i => if h : i < m then (hsec i h).choose else ⟨0, 0⟩, fun i h => by simp only [dif_pos h]; exact (hsec i h).choose_spec⟩
    obtain ⟨f, hf⟩ := hch
    refine ⟨some a, len, m, (List.range len).map f, rfl, by simp, hl, hle, fun hn => ?_⟩
    have h0 := hf 0 (by omega) 0 _ rfl
    have hs := World.cell?_spot h0
    obtain ⟨b, off, spot⟩ := a
    have hspot : spot = none := by simpa [Addr.add] using hs
    subst hspot
    refine ⟨b, off, rfl, Nat.zero_le _, World.block_lt_of_cell? W _ (by simpa [Addr.add] using h0), fun k y hk jj v hv => ?_⟩
    have hkn : k < len := by have := (List.getElem?_eq_some_iff.1 hk).1; simpa using this
    have hy : f k = y := by simpa [hkn] using hk
    subst hy
    have := hf k (by omega) jj v hv
    rw [add_none] at this
    exact this
set_option maxRecDepth 100000 in
theorem row_bnd {fuel : Nat} {c0 c1 : Value} {x : DataW H × List MemPlace} (hf : DataW.trod enc Tryz.prog W 0 (fun _ => true) true fuel 24 [c0, c1] = some x) :
    ∃ b : Bnd, c0 = .int .i64 b.lo ∧ c1 = .int .i64 b.hi := by
  obtain ⟨zs, m, _, _, _, hlen2, hg2⟩ := DataW.trod_struct Tryz.underlying24 hf
  match zs, hlen2 with
  | [z0, z1], _ =>
    have w0 := hg2 0 _ rfl
    have w1 := hg2 1 _ rfl
    simp at w0 w1
    simp only [Tryz.cellsInt] at w0 w1
    simp at w0 w1
    obtain ⟨lo, g0, _, _⟩ := DataW.trod_int Tryz.underlying3 w0
    obtain ⟨hi, g1, _, _⟩ := DataW.trod_int Tryz.underlying3 w1
    simp at g0 g1
    subst g0 g1
    exact ⟨⟨lo, hi⟩, rfl, rfl⟩
set_option maxRecDepth 100000 in
theorem row_strm_of {fuel : Nat} {c0 c1 c2 c3 c4 : Value} {x : DataW H × List MemPlace} (hf : DataW.trod enc Tryz.prog W 0 (fun _ => true) true fuel 26 [c0, c1, c2, c3, c4] = some x)
    (hr : ∀ d0 elems spare d2 d3, x.1 = .agg [d0, .slice elems spare, d2, d3] → (elems.length + spare.length) * 40 ≤ reachBytes) :
    ∃ (s : Strm) (a : Option Addr) (n c : Nat), c0 = .int .i64 s.head ∧ c1 = .slice a n c ∧ c2 = .int .i64 s.lane.lo ∧ c3 = .int .i64 s.lane.hi ∧ c4 = .int .i64 s.bend ∧ SlAt W 0 5 Sec.cells a n c s.secs := by
  obtain ⟨xs, n, _, hx, _, hlen, hg⟩ := DataW.trod_struct Tryz.underlying26 hf
  match xs, hlen with
  | [y0, y1, y2, y3], _ =>
    have hx1 : x.1 = .agg [y0.1, y1.1, y2.1, y3.1] := by rw [hx]; rfl
    have t0 := hg 0 _ rfl
    have t1 := hg 1 _ rfl
    have t2 := hg 2 _ rfl
    have t3 := hg 3 _ rfl
    simp at t0 t1 t2 t3
    simp only [Tryz.cellsInt] at t0
    simp only [Tryz.cellsSecs] at t1
    simp only [Tryz.cellsBnd] at t2
    simp only [Tryz.cellsInt] at t3
    simp at t0 t1 t2 t3
    obtain ⟨hd0, e0, _, _⟩ := DataW.trod_int Tryz.underlying3 t0
    obtain ⟨be, e3, _, _⟩ := DataW.trod_int Tryz.underlying3 t3
    obtain ⟨b, g0, g1⟩ := row_bnd t2
    obtain ⟨a, n', c', secs, rfl, hs⟩ := row_secs (W := W) t1 (fun elems spare he => hr y0.1 elems spare y2.1 y3.1 (by rw [hx1, he]))
    simp at e0 e3
    subst e0 e3 g0 g1
    exact ⟨⟨hd0, secs, b, be⟩, a, n', c', rfl, rfl, rfl, rfl, rfl, hs⟩
set_option maxRecDepth 100000 in
theorem row_tail {r : Reach} {b0 j : Nat} {v : Value} {d : DataW H} {p : List MemPlace} (hsz : (DataW.weightsEach Tryz.prog ts ds).all (· ≤ reachBytes) = true) (ht : ts[j]? = some 29) (hd : ds[j]? = some d)
    (hv : Value.okWide Tryz.prog W r b0 29 v) (h : DataW.Trod enc Tryz.prog W 0 (fun _ => true) true 29 v d p) :
    ∃ (s : Strm) (a : Option Addr) (n c : Nat) (l : List Bnd) (a' : Option Addr) (n' c' : Nat), v = .agg #[.int .i64 s.head, .slice a n c, .int .i64 s.lane.lo, .int .i64 s.lane.hi, .int .i64 s.bend, .slice a' n' c'] ∧ SlAt W 0 5 Sec.cells a n c s.secs ∧ SlAt W 0 2 Bnd.cells a' n' c' l := by
  obtain ⟨cs, rfl, hcs⟩ := okWide_struct Tryz.underlying29 hv
  obtain ⟨l⟩ := cs
  match l, hcs.trans Tryz.cellsTail with
  | [c0, c1, c2, c3, c4, c5], _ =>
    obtain ⟨fuel, hf⟩ := h
    obtain ⟨xs, n, _, hx, _, hlen, hg⟩ := DataW.trod_struct Tryz.underlying29 hf
    match xs, hlen with
    | [y0, y1], _ =>
      simp only [Prod.mk.injEq] at hx
      have hx1 : d = .agg [y0.1, y1.1] := by rw [hx.1]; rfl
      have t0 := hg 0 _ rfl
      have t1 := hg 1 _ rfl
      simp [Value.cells] at t0 t1
      simp only [Tryz.cellsSt] at t0
      simp only [Tryz.cellsBnds] at t1
      simp at t0 t1
      obtain ⟨a', n', c', l, rfl, hl⟩ := row_bnds (W := W) t1 (fun elems spare he => by
        have := List.all_eq_true.1 hsz _ (DataW.weights_mem_each ht hd ((elems.length + spare.length) * Tryz.prog.bytesOf 24) (by
          rw [hx1]
          simp [DataW.weights, DataW.weightsEach, Tryz.underlying29, he, Tryz.underlying27]))
        rw [Tryz.bytesBnd] at this
        simpa using this)
      obtain ⟨s, a, n0, c, rfl, rfl, rfl, rfl, rfl, hs⟩ := row_strm_of (W := W) t0 (fun d0 elems spare d2 d3 he => by
        have := List.all_eq_true.1 hsz _ (DataW.weights_mem_each ht hd ((elems.length + spare.length) * Tryz.prog.bytesOf 94) (by
          rw [hx1]
          simp [DataW.weights, DataW.weightsEach, Tryz.underlying29, he, Tryz.underlying26, Tryz.underlying22]))
        rw [Tryz.bytesSec] at this
        simpa using this)
      exact ⟨s, a, n0, c, l, a', n', c', rfl, hs, hl⟩
set_option maxRecDepth 100000 in
theorem row_bound {r : Reach} {b0 : Nat} {v : Value} {d : DataW H} {p : List MemPlace} (hv : Value.okWide Tryz.prog W r b0 24 v) (h : DataW.Trod enc Tryz.prog W 0 (fun _ => true) true 24 v d p) :
    ∃ b : Bnd, v = .agg #[.int .i64 b.lo, .int .i64 b.hi] := by
  obtain ⟨cs, rfl, hcs⟩ := okWide_struct Tryz.underlying24 hv
  obtain ⟨l⟩ := cs
  match l, hcs.trans Tryz.cellsBnd with
  | [c0, c1], _ =>
    obtain ⟨fuel, hf⟩ := h
    obtain ⟨b, rfl, rfl⟩ := row_bnd (W := W) hf
    exact ⟨b, rfl⟩
end
end Go.Proofs.YtjiaepphnddpoaaGreat
