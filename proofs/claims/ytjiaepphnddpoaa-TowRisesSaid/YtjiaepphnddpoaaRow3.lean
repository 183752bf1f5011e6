/-
  Arguments of rows: waters, weather, points, headings, regions, pairs.
-/
import Derived.Test.YtjiaepphnddpoaaRow2
namespace Go.Proofs.Ytjiaepphnddpoaa
open Go.ChangeShapes Go.WideShapes Go.ChangeAt Go.RowKit Go.Deep
set_option linter.unusedSimpArgs false
set_option linter.unusedVariables false
section
variable {H : Type} {enc : TypeId × Value → H} {W : World} {ts : List TypeId} {ds : List (DataW H)}
theorem Try.cellsWat : Try.prog.cellsOf 49 = 4 := by kernel_rfl
theorem Try.cellsWats : Try.prog.cellsOf 45 = 1 := by kernel_rfl
theorem Try.bytesWat : Try.prog.bytesOf 49 = 32 := by kernel_rfl
set_option maxRecDepth 100000 in
theorem row_wats {fuel : Nat} {c1 : Value} {x : DataW H × List MemPlace} (h : DataW.trod enc Try.prog W 0 (fun _ => true) true fuel 45 [c1] = some x)
    (hr : ∀ elems spare, x.1 = .slice elems spare → (elems.length + spare.length) * 32 ≤ reachBytes) : ∃ a n c xs, c1 = .slice a n c ∧ SlAt W 0 4 Wat.cells a n c xs := by
  rcases open_slice Try.underlying45 h with ⟨hcs, _⟩ | ⟨a, len, cap, m, n, D, Pl, hcs, hb, hl, hm, hmm, hx, hi⟩
  · simp at hcs
    subst hcs
    exact ⟨none, 0, 0, [], rfl, SlAt.nil _ _ _ _⟩
  · simp at hcs
    subst hcs
    have hr1 := hr _ _ (by rw [hx])
    simp only [if_true] at hmm
    subst hmm
    have hle : len ≤ 17592186044416 := by
      have := reach44 (show 8 ≤ 32 by omega) hr1
      simp at this
      omega
    have hsec : ∀ i, i < m → ∃ y : Wat, ∀ j v, y.cells[j]? = some v → W.cell? (a.add (i * 4 + j)) = some v := by
      intro i him
      obtain ⟨cs', hc, ht'⟩ := hi i him
      rw [Try.cellsWat] at hc
      obtain ⟨_, hcl, hat⟩ := World.cells?_some hc
      match cs', hcl with
      | [u0, u1, u2, u3], _ =>
        obtain ⟨zs, mm, _, _, _, hlen2, hg2⟩ := DataW.trod_struct Try.underlying49 ht'
        match zs, hlen2 with
        | [z0, z1], _ =>
          have w0 := hg2 0 _ rfl
          have w1 := hg2 1 _ rfl
          simp at w0 w1
          simp only [Try.cellsBnd] at w0 w1
          simp at w0 w1
          obtain ⟨b0, e0, e1⟩ := row_bnd w0
          obtain ⟨b1, e2, e3⟩ := row_bnd w1
          subst e0 e1 e2 e3
          refine ⟨⟨b0, b1⟩, fun j v hv => ?_⟩
          have hj : j < 4 := (List.getElem?_eq_some_iff.1 hv).1
          have h9 := hat j hj
          rw [← Go.Deep.add_add, h9]
          exact hv
    have hch : ∃ f : Nat → Wat, ∀ i, i < m → ∀ j v, (f i).cells[j]? = some v → W.cell? (a.add (i * 4 + j)) = some v :=
      ⟨fun i => if h : i < m then (hsec i h).choose else ⟨⟨0, 0⟩, ⟨0, 0⟩⟩, fun i h => by simp only [dif_pos h]; exact (hsec i h).choose_spec⟩
    obtain ⟨f, hf⟩ := hch
    refine ⟨some a, len, m, (List.range len).map f, rfl, by simp, hl, hle, fun hn => ?_⟩
    have h0 := hf 0 (by omega) 0 _ rfl
    have hs := World.cell?_spot h0
    obtain ⟨b, off, spot⟩ := a
    have hspot : spot = none := by simpa [Addr.add] using hs
    subst hspot
    refine ⟨b, off, rfl, Nat.zero_le _, World.block_lt_of_cell? W _ (by simpa [Addr.add] using h0), fun k y hk jj v hv => ?_⟩
    have hkn : k < len := by have := (List.getElem?_eq_some_iff.1 hk).1; simpa using this
    have hy : f k = y := by simpa [hkn] using hk
    subst hy
    have := hf k (by omega) jj v hv
    rw [add_none] at this
    exact this
set_option maxRecDepth 100000 in
theorem row_wats_arg {r : Reach} {b0 j : Nat} {v : Value} {d : DataW H} {p : List MemPlace} (hsz : (DataW.weightsEach Try.prog ts ds).all (· ≤ reachBytes) = true) (ht : ts[j]? = some 45) (hd : ds[j]? = some d)
    (hv : Value.okWide Try.prog W r b0 45 v) (h : DataW.Trod enc Try.prog W 0 (fun _ => true) true 45 v d p) :
    ∃ a n c xs, v = .slice a n c ∧ SlAt W 0 4 Wat.cells a n c xs := by
  obtain ⟨a, n, c, rfl⟩ := okWide_slice Try.underlying45 hv
  obtain ⟨fuel, hf⟩ := h
  simp [Value.cells] at hf
  exact row_wats hf (fun elems spare he => by
    have := List.all_eq_true.1 hsz _ (DataW.weights_mem_each ht hd ((elems.length + spare.length) * Try.prog.bytesOf 49) (by
      dsimp only at he
      rw [he]
      simp [DataW.weights, DataW.weightsEach, Try.underlying45]))
    rw [Try.bytesWat] at this
    simpa using this)
theorem row_ints_of {fuel : Nat} {c1 : Value} {x : DataW H × List MemPlace} (h : DataW.trod enc Try.prog W 0 (fun _ => true) true fuel 27 [c1] = some x)
    (hr : ∀ elems spare, x.1 = .slice elems spare → (elems.length + spare.length) * 8 ≤ reachBytes) : ∃ a n c xs, c1 = .slice a n c ∧ SlAt W 0 1 ivs a n c xs := by
  rcases open_ints Try.underlying27 Try.underlying3 Try.cellsInt h with ⟨hcs, _⟩ | ⟨a, l, c', zs, hcs, _, hl, hm, hz, hx, hcell, hwz⟩
  · simp at hcs
    subst hcs
    exact ⟨none, 0, 0, [], rfl, SlAt.nil _ _ _ _⟩
  · simp at hcs
    subst hcs
    simp only [if_true] at hz
    have hr1 := hr _ _ (by rw [hx])
    have hle : l ≤ 17592186044416 := by
      have := reach44 (Nat.le_refl 8) hr1
      simp [lits] at this
      omega
    refine ⟨some a, l, c', zs.take l, rfl, by simp; omega, hl, hle, fun hn => ?_⟩
    have h0 := hcell 0 (by omega)
    have hs := World.cell?_spot h0
    obtain ⟨b, off, spot⟩ := a
    have hspot : spot = none := by simpa [Addr.add] using hs
    subst hspot
    refine ⟨b, off, rfl, Nat.zero_le _, World.block_lt_of_cell? W _ (by simpa [Addr.add] using h0), fun k y hk jj v hv => ?_⟩
    have hkn : k < l := by have := (List.getElem?_eq_some_iff.1 hk).1; simp at this; omega
    have hc := hcell k (by omega)
    have hy : zs.getD k 0 = y := by
      rw [List.getElem?_take_of_lt hkn] at hk
      rw [List.getD_eq_getElem?_getD, hk]; rfl
    rw [hy] at hc
    match jj, hv with
    | 0, hv =>
      simp [ivs] at hv
      subst hv
      rw [add_none] at hc
      simpa using hc
    | q + 1, hv => simp [ivs] at hv
theorem Try.cellsInts : Try.prog.cellsOf 27 = 1 := by kernel_rfl
theorem Try.cellsWeather : Try.prog.cellsOf 64 = 2 := by kernel_rfl
set_option maxRecDepth 100000 in
theorem row_weather {r : Reach} {b0 j : Nat} {v : Value} {d : DataW H} {p : List MemPlace} (hsz : (DataW.weightsEach Try.prog ts ds).all (· ≤ reachBytes) = true) (ht : ts[j]? = some 64) (hd : ds[j]? = some d)
    (hv : Value.okWide Try.prog W r b0 64 v) (h : DataW.Trod enc Try.prog W 0 (fun _ => true) true 64 v d p) :
    ∃ a n c x a' n' c' y, v = .agg #[.slice a n c, .slice a' n' c'] ∧ SlAt W 0 4 Wat.cells a n c x ∧ SlAt W 0 1 ivs a' n' c' y := by
  obtain ⟨cs, rfl, hcs⟩ := okWide_struct Try.underlying64 hv
  obtain ⟨l⟩ := cs
  match l, hcs.trans Try.cellsWeather with
  | [c0, c1], _ =>
    obtain ⟨fuel, hf⟩ := h
    obtain ⟨xs, n, _, hx, _, hlen, hg⟩ := DataW.trod_struct Try.underlying64 hf
    match xs, hlen with
    | [y0, y1], _ =>
      simp only [Prod.mk.injEq] at hx
      have hx1 : d = .agg [y0.1, y1.1] := by rw [hx.1]; rfl
      have t0 := hg 0 _ rfl
      have t1 := hg 1 _ rfl
      simp [Value.cells] at t0 t1
      simp only [Try.cellsWats, Try.cellsInts] at t0 t1
      simp at t0 t1
      obtain ⟨a, n', c, x, rfl, h1⟩ := row_wats (W := W) t0 (fun elems spare he => by
        have := List.all_eq_true.1 hsz _ (DataW.weights_mem_each ht hd ((elems.length + spare.length) * Try.prog.bytesOf 49) (by
          rw [hx1]
          simp [DataW.weights, DataW.weightsEach, Try.underlying64, he, Try.underlying45]))
        rw [Try.bytesWat] at this
        simpa using this)
      obtain ⟨a2, n2, c2, y, rfl, h2⟩ := row_ints_of (W := W) t1 (fun elems spare he => by
        have := List.all_eq_true.1 hsz _ (DataW.weights_mem_each ht hd ((elems.length + spare.length) * Try.prog.bytesOf 3) (by
          rw [hx1]
          simp [DataW.weights, DataW.weightsEach, Try.underlying64, he, Try.underlying27]))
        rw [Try.bytesInt] at this
        simpa using this)
      exact ⟨a, n', c, x, a2, n2, c2, y, rfl, h1, h2⟩
end
end Go.Proofs.Ytjiaepphnddpoaa
