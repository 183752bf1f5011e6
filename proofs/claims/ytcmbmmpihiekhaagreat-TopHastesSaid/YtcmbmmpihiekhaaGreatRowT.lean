/-
  Arguments of the top chapter's rows: a firing, a streamer with bounds, a race.
-/
import Derived.Test.YtcmbmmpihiekhaaGreatRows
import Derived.WalkKit
import Derived.ProofKit
import Derived.OpenShut
import Derived.ShutString
import Derived.ChangeOld
import Derived.Below
import Derived.SizedLaws
import Derived.Deep.Slices
import Derived.Deep.Fields
import Derived.ChangeSame
import Derived.Test.YtcmbmmpihiekhaaGreatQ1
set_option maxRecDepth 100000
set_option maxHeartbeats 16000000
set_option linter.unusedSimpArgs false
set_option linter.unusedVariables false
namespace Go.Proofs.YtcmbmmpihiekhaaGreat
open Go.ChangeShapes Go.WideShapes Go.ChangeAt Go.RowKit Go.Deep
section
variable {H : Type} {enc : TypeId × Value → H} {P : Program} {w : World} {base : Nat} {spare : Nat → Bool} {held : Bool}
theorem open_slice_fields {t e : TypeId} {fs : Array Field} {fuel : Nat} {cs : List Value} {x : DataW H × List MemPlace} (ht : P.underlying t = some (.slice e)) (he : P.underlying e = some (.struct fs))
    (hone : oneCellFields P fs = true) (hC : P.cellsOf e = fs.size) (h : DataW.trod enc P w base spare held fuel t cs = some x) :
    (cs = [.slice none 0 0] ∧ x = (.nil, [])) ∨
    ∃ (a : Addr) (len cap m : Nat) (D : Nat → DataW H) (Pl : Nat → List MemPlace), cs = [.slice (some a) len cap] ∧ base ≤ a.block ∧ len ≤ cap ∧ cap ≤ maxLen ∧ m = (if spare a.block then cap else len) ∧
      x = (.slice ((List.range len).map D) ((List.range (m - len)).map fun j => D (len + j)), MemPlace.row a (m * fs.size) ++ (List.range m).flatMap Pl) ∧
      ∀ i, i < m → ∃ (ys : List (DataW H × List MemPlace)) (n : Nat), D i = .agg (ys.map (·.1)) ∧ Pl i = ys.flatMap (·.2) ∧ ys.length = fs.size ∧
        ∀ (j : Nat) (f : Field), fs[j]? = some f → ∃ (v : Value) (y : DataW H × List MemPlace), w.cell? (a.add (i * fs.size + j)) = some v ∧ ys[j]? = some y ∧ DataW.trod enc P w base spare held n f.type [v] = some y := by
  rcases open_slice ht h with h0 | ⟨a, len, cap, m, n, D, Pl, hcs, hb, hl, hm, hmm, hx, hi⟩
  · exact .inl h0
  · refine .inr ⟨a, len, cap, m, D, Pl, hcs, hb, hl, hm, hmm, by rw [hC] at hx; exact hx, fun i him => ?_⟩
    obtain ⟨cs', hc, ht'⟩ := hi i him
    rw [hC] at hc
    obtain ⟨ys, n', hn', hy, hlen, hyl, hf⟩ := DataW.trod_struct he ht'
    obtain ⟨_, hcl, hat⟩ := World.cells?_some hc
    simp only [Prod.mk.injEq] at hy
    refine ⟨ys, n', hy.1, hy.2, hyl, fun j f hj => ?_⟩
    obtain ⟨ho, hk⟩ := hone_of hone j f hj
    have hjl : j < fs.size := (Array.getElem?_eq_some_iff.1 hj).1
    have hcell := hat j hjl
    have hv : cs'[j]? = some (cs'[j]'(by omega)) := List.getElem?_eq_getElem (by omega)
    have h1 := hf j f hj
    rw [ho, hk] at h1
    have hone' : (cs'.drop j).take 1 = [cs'[j]'(by omega)] := by
      rw [List.drop_eq_getElem_cons (by omega)]
      rfl
    rw [hone'] at h1
    have hys : ys[j]? = some (ys[j]'(by omega)) := List.getElem?_eq_getElem (by omega)
    refine ⟨_, _, ?_, hys, h1.trans hys⟩
    rw [← Go.Deep.add_add, hcell, hv]
end
theorem Tryz.cellsSt : Tryz.prog.cellsOf 28 = 5 := by kernel_rfl
theorem Tryz.cellsInt : Tryz.prog.cellsOf 3 = 1 := by kernel_rfl
theorem Tryz.cellsSecs : Tryz.prog.cellsOf 24 = 1 := by kernel_rfl
theorem Tryz.cellsBnd : Tryz.prog.cellsOf 26 = 2 := by kernel_rfl
theorem Tryz.cellsSec : Tryz.prog.cellsOf 139 = 5 := by kernel_rfl
theorem Tryz.bytesInt : Tryz.prog.bytesOf 3 = 8 := by kernel_rfl
theorem Tryz.bytesSec : Tryz.prog.bytesOf 139 = 40 := by kernel_rfl
theorem add_none (b off n : Nat) : (⟨b, off, none⟩ : Addr).add n = ⟨b, off + n, none⟩ := by unfold Addr.add; split <;> simp_all
theorem reach44 {n k : Nat} (hk : 8 ≤ k) (h : n * k ≤ reachBytes) : n ≤ 17592186044416 := by
  have h1 : n * 8 ≤ n * k := Nat.mul_le_mul_left n hk
  have := reachBytes_lt
  omega
theorem Tryz.cellsTail : Tryz.prog.cellsOf 31 = 6 := by kernel_rfl
theorem Tryz.cellsBnds : Tryz.prog.cellsOf 29 = 1 := by kernel_rfl
theorem Tryz.bytesBnd : Tryz.prog.bytesOf 26 = 16 := by kernel_rfl
theorem Tryz.cellsWat : Tryz.prog.cellsOf 91 = 4 := by kernel_rfl
theorem Tryz.cellsWats : Tryz.prog.cellsOf 32 = 1 := by kernel_rfl
theorem Tryz.bytesWat : Tryz.prog.bytesOf 91 = 32 := by kernel_rfl
theorem Tryz.cellsInts : Tryz.prog.cellsOf 33 = 1 := by kernel_rfl
theorem Tryz.cellsFir : Tryz.prog.cellsOf 23 = 5 := by kernel_rfl
theorem Tryz.cellsRace : Tryz.prog.cellsOf 35 = 3 := by kernel_rfl
section
variable {H : Type} {enc : TypeId × Value → H} {W : World} {ts : List TypeId} {ds : List (DataW H)}
theorem row_secs {fuel : Nat} {c1 : Value} {x : DataW H × List MemPlace} (h : DataW.trod enc Tryz.prog W 0 (fun _ => true) true fuel 24 [c1] = some x)
    (hr : ∀ elems spare, x.1 = .slice elems spare → (elems.length + spare.length) * 40 ≤ reachBytes) : ∃ a n c xs, c1 = .slice a n c ∧ SlAt W 0 5 Sec.cells a n c xs := by
  rcases open_slice_fields Tryz.underlying24 Tryz.underlying139 (by kernel_rfl) Tryz.cellsSec h with ⟨hcs, _⟩ | ⟨a, len, cap, m, D, Pl, hcs, _, hl, hm, hmm, hx, hi⟩
  · simp at hcs
    subst hcs
    exact ⟨none, 0, 0, [], rfl, SlAt.nil _ _ _ _⟩
  · simp at hcs
    subst hcs
    have hr1 := hr _ _ (by rw [hx])
    simp only [if_true] at hmm
    subst hmm
    have hle : len ≤ 17592186044416 := by
      have := reach44 (show 8 ≤ 40 by omega) hr1
      simp at this
      omega
    have hsec : ∀ i, i < m → ∃ y : Sec, ∀ j v, y.cells[j]? = some v → W.cell? (a.add (i * 5 + j)) = some v := by
      intro i him
      obtain ⟨ys, n', _, _, _, hf⟩ := hi i him
      obtain ⟨u0, y0, hc0, _, ht0⟩ := hf 0 _ rfl
      obtain ⟨v0, e0, _, _⟩ := DataW.trod_int Tryz.underlying3 ht0
      simp at e0
      subst e0
      obtain ⟨u1, y1, hc1, _, ht1⟩ := hf 1 _ rfl
      obtain ⟨v1, e1, _, _⟩ := DataW.trod_int Tryz.underlying3 ht1
      simp at e1
      subst e1
      obtain ⟨u2, y2, hc2, _, ht2⟩ := hf 2 _ rfl
      obtain ⟨v2, e2, _, _⟩ := DataW.trod_int Tryz.underlying3 ht2
      simp at e2
      subst e2
      obtain ⟨u3, y3, hc3, _, ht3⟩ := hf 3 _ rfl
      obtain ⟨v3, e3, _, _⟩ := DataW.trod_int Tryz.underlying3 ht3
      simp at e3
      subst e3
      obtain ⟨u4, y4, hc4, _, ht4⟩ := hf 4 _ rfl
      obtain ⟨v4, e4, _, _⟩ := DataW.trod_int Tryz.underlying3 ht4
      simp at e4
      subst e4
      refine ⟨⟨v0, v1, v2, v3, v4⟩, fun j v hv => ?_⟩
      match j, hv with
      | 0, hv => simp [Sec.cells] at hv; subst hv; simpa using hc0
      | 1, hv => simp [Sec.cells] at hv; subst hv; simpa using hc1
      | 2, hv => simp [Sec.cells] at hv; subst hv; simpa using hc2
      | 3, hv => simp [Sec.cells] at hv; subst hv; simpa using hc3
      | 4, hv => simp [Sec.cells] at hv; subst hv; simpa using hc4
      | q + 5, hv => simp [Sec.cells] at hv
    have hch : ∃ f : Nat → Sec, ∀ i, i < m → ∀ j v, (f i).cells[j]? = some v → W.cell? (a.add (i * 5 + j)) = some v :=
      ⟨fun i => if h : i < m then (hsec i h).choose else ⟨0, 0, 0, 0, 0⟩, fun i h => by simp only [dif_pos h]; exact (hsec i h).choose_spec⟩
    obtain ⟨f, hf⟩ := hch
    refine ⟨some a, len, m, (List.range len).map f, rfl, by simp, hl, hle, fun hn => ?_⟩
    have h0 := hf 0 (by omega) 0 _ rfl
    have hs := World.cell?_spot h0
    obtain ⟨b, off, spot⟩ := a
    have hspot : spot = none := by simpa [Addr.add] using hs
    subst hspot
    refine ⟨b, off, rfl, Nat.zero_le _, World.block_lt_of_cell? W _ (by simpa [Addr.add] using h0), fun k y hk jj v hv => ?_⟩
    have hkn : k < len := by have := (List.getElem?_eq_some_iff.1 hk).1; simpa using this
    have hy : f k = y := by simpa [hkn] using hk
    subst hy
    have := hf k (by omega) jj v hv
    rw [add_none] at this
    exact this
theorem row_bnds {fuel : Nat} {c1 : Value} {x : DataW H × List MemPlace} (h : DataW.trod enc Tryz.prog W 0 (fun _ => true) true fuel 29 [c1] = some x)
    (hr : ∀ elems spare, x.1 = .slice elems spare → (elems.length + spare.length) * 16 ≤ reachBytes) : ∃ a n c xs, c1 = .slice a n c ∧ SlAt W 0 2 Bnd.cells a n c xs := by
  rcases open_slice_fields Tryz.underlying29 Tryz.underlying26 (by kernel_rfl) Tryz.cellsBnd h with ⟨hcs, _⟩ | ⟨a, len, cap, m, D, Pl, hcs, _, hl, hm, hmm, hx, hi⟩
  · simp at hcs
    subst hcs
    exact ⟨none, 0, 0, [], rfl, SlAt.nil _ _ _ _⟩
  · simp at hcs
    subst hcs
    have hr1 := hr _ _ (by rw [hx])
    simp only [if_true] at hmm
    subst hmm
    have hle : len ≤ 17592186044416 := by
      have := reach44 (show 8 ≤ 16 by omega) hr1
      simp at this
      omega
    have hsec : ∀ i, i < m → ∃ y : Bnd, ∀ j v, y.cells[j]? = some v → W.cell? (a.add (i * 2 + j)) = some v := by
      intro i him
      obtain ⟨ys, n', _, _, _, hf⟩ := hi i him
      obtain ⟨u0, y0, hc0, _, ht0⟩ := hf 0 _ rfl
      obtain ⟨v0, e0, _, _⟩ := DataW.trod_int Tryz.underlying3 ht0
      simp at e0
      subst e0
      obtain ⟨u1, y1, hc1, _, ht1⟩ := hf 1 _ rfl
      obtain ⟨v1, e1, _, _⟩ := DataW.trod_int Tryz.underlying3 ht1
      simp at e1
      subst e1
      refine ⟨⟨v0, v1⟩, fun j v hv => ?_⟩
      match j, hv with
      | 0, hv => simp [Bnd.cells] at hv; subst hv; simpa using hc0
      | 1, hv => simp [Bnd.cells] at hv; subst hv; simpa using hc1
      | q + 2, hv => simp [Bnd.cells] at hv
    have hch : ∃ f : Nat → Bnd, ∀ i, i < m → ∀ j v, (f i).cells[j]? = some v → W.cell? (a.add (i * 2 + j)) = some v :=
      ⟨fun i => if h : i < m then (hsec i h).choose else ⟨0, 0⟩, fun i h => by simp only [dif_pos h]; exact (hsec i h).choose_spec⟩
    obtain ⟨f, hf⟩ := hch
    refine ⟨some a, len, m, (List.range len).map f, rfl, by simp, hl, hle, fun hn => ?_⟩
    have h0 := hf 0 (by omega) 0 _ rfl
    have hs := World.cell?_spot h0
    obtain ⟨b, off, spot⟩ := a
    have hspot : spot = none := by simpa [Addr.add] using hs
    subst hspot
    refine ⟨b, off, rfl, Nat.zero_le _, World.block_lt_of_cell? W _ (by simpa [Addr.add] using h0), fun k y hk jj v hv => ?_⟩
    have hkn : k < len := by have := (List.getElem?_eq_some_iff.1 hk).1; simpa using this
    have hy : f k = y := by simpa [hkn] using hk
    subst hy
    have := hf k (by omega) jj v hv
    rw [add_none] at this
    exact this
theorem row_bnd {fuel : Nat} {c0 c1 : Value} {x : DataW H × List MemPlace} (hf : DataW.trod enc Tryz.prog W 0 (fun _ => true) true fuel 26 [c0, c1] = some x) :
    ∃ b : Bnd, c0 = .int .i64 b.lo ∧ c1 = .int .i64 b.hi := by
  obtain ⟨zs, m, _, _, _, hlen2, hg2⟩ := DataW.trod_struct Tryz.underlying26 hf
  match zs, hlen2 with
  | [z0, z1], _ =>
    have w0 := hg2 0 _ rfl
    have w1 := hg2 1 _ rfl
    simp at w0 w1
    simp only [Tryz.cellsInt] at w0 w1
    simp at w0 w1
    obtain ⟨lo, g0, _, _⟩ := DataW.trod_int Tryz.underlying3 w0
    obtain ⟨hi, g1, _, _⟩ := DataW.trod_int Tryz.underlying3 w1
    simp at g0 g1
    subst g0 g1
    exact ⟨⟨lo, hi⟩, rfl, rfl⟩
theorem row_strm_of {fuel : Nat} {c0 c1 c2 c3 c4 : Value} {x : DataW H × List MemPlace} (hf : DataW.trod enc Tryz.prog W 0 (fun _ => true) true fuel 28 [c0, c1, c2, c3, c4] = some x)
    (hr : ∀ d0 elems spare d2 d3, x.1 = .agg [d0, .slice elems spare, d2, d3] → (elems.length + spare.length) * 40 ≤ reachBytes) :
    ∃ (s : Strm) (a : Option Addr) (n c : Nat), c0 = .int .i64 s.head ∧ c1 = .slice a n c ∧ c2 = .int .i64 s.lane.lo ∧ c3 = .int .i64 s.lane.hi ∧ c4 = .int .i64 s.bend ∧ SlAt W 0 5 Sec.cells a n c s.secs := by
  obtain ⟨xs, n, _, hx, _, hlen, hg⟩ := DataW.trod_struct Tryz.underlying28 hf
  match xs, hlen with
  | [y0, y1, y2, y3], _ =>
    have hx1 : x.1 = .agg [y0.1, y1.1, y2.1, y3.1] := by rw [hx]; rfl
    have t0 := hg 0 _ rfl
    have t1 := hg 1 _ rfl
    have t2 := hg 2 _ rfl
    have t3 := hg 3 _ rfl
    simp at t0 t1 t2 t3
    simp only [Tryz.cellsInt] at t0
    simp only [Tryz.cellsSecs] at t1
    simp only [Tryz.cellsBnd] at t2
    simp only [Tryz.cellsInt] at t3
    simp at t0 t1 t2 t3
    obtain ⟨hd0, e0, _, _⟩ := DataW.trod_int Tryz.underlying3 t0
    obtain ⟨be, e3, _, _⟩ := DataW.trod_int Tryz.underlying3 t3
    obtain ⟨b, g0, g1⟩ := row_bnd t2
    obtain ⟨a, n', c', secs, rfl, hs⟩ := row_secs (W := W) t1 (fun elems spare he => hr y0.1 elems spare y2.1 y3.1 (by rw [hx1, he]))
    simp at e0 e3
    subst e0 e3 g0 g1
    exact ⟨⟨hd0, secs, b, be⟩, a, n', c', rfl, rfl, rfl, rfl, rfl, hs⟩
theorem row_tail {r : Reach} {b0 j : Nat} {v : Value} {d : DataW H} {p : List MemPlace} (hsz : (DataW.weightsEach Tryz.prog ts ds).all (· ≤ reachBytes) = true) (ht : ts[j]? = some 31) (hd : ds[j]? = some d)
    (hv : Value.okWide Tryz.prog W r b0 31 v) (h : DataW.Trod enc Tryz.prog W 0 (fun _ => true) true 31 v d p) :
    ∃ (s : Strm) (a : Option Addr) (n c : Nat) (l : List Bnd) (a' : Option Addr) (n' c' : Nat), v = .agg #[.int .i64 s.head, .slice a n c, .int .i64 s.lane.lo, .int .i64 s.lane.hi, .int .i64 s.bend, .slice a' n' c'] ∧ SlAt W 0 5 Sec.cells a n c s.secs ∧ SlAt W 0 2 Bnd.cells a' n' c' l := by
  obtain ⟨cs, rfl, hcs⟩ := okWide_struct Tryz.underlying31 hv
  obtain ⟨l⟩ := cs
  match l, hcs.trans Tryz.cellsTail with
  | [c0, c1, c2, c3, c4, c5], _ =>
    obtain ⟨fuel, hf⟩ := h
    obtain ⟨xs, n, _, hx, _, hlen, hg⟩ := DataW.trod_struct Tryz.underlying31 hf
    match xs, hlen with
    | [y0, y1], _ =>
      simp only [Prod.mk.injEq] at hx
      have hx1 : d = .agg [y0.1, y1.1] := by rw [hx.1]; rfl
      have t0 := hg 0 _ rfl
      have t1 := hg 1 _ rfl
      simp [Value.cells] at t0 t1
      simp only [Tryz.cellsSt] at t0
      simp only [Tryz.cellsBnds] at t1
      simp at t0 t1
      obtain ⟨a', n', c', l, rfl, hl⟩ := row_bnds (W := W) t1 (fun elems spare he => by
        have := List.all_eq_true.1 hsz _ (DataW.weights_mem_each ht hd ((elems.length + spare.length) * Tryz.prog.bytesOf 26) (by
          rw [hx1]
          simp [DataW.weights, DataW.weightsEach, Tryz.underlying31, he, Tryz.underlying29]))
        rw [Tryz.bytesBnd] at this
        simpa using this)
      obtain ⟨s, a, n0, c, rfl, rfl, rfl, rfl, rfl, hs⟩ := row_strm_of (W := W) t0 (fun d0 elems spare d2 d3 he => by
        have := List.all_eq_true.1 hsz _ (DataW.weights_mem_each ht hd ((elems.length + spare.length) * Tryz.prog.bytesOf 139) (by
          rw [hx1]
          simp [DataW.weights, DataW.weightsEach, Tryz.underlying31, he, Tryz.underlying28, Tryz.underlying24]))
        rw [Tryz.bytesSec] at this
        simpa using this)
      exact ⟨s, a, n0, c, l, a', n', c', rfl, hs, hl⟩
theorem row_wats {fuel : Nat} {c1 : Value} {x : DataW H × List MemPlace} (h : DataW.trod enc Tryz.prog W 0 (fun _ => true) true fuel 32 [c1] = some x)
    (hr : ∀ elems spare, x.1 = .slice elems spare → (elems.length + spare.length) * 32 ≤ reachBytes) : ∃ a n c xs, c1 = .slice a n c ∧ SlAt W 0 4 Wat.cells a n c xs := by
  rcases open_slice Tryz.underlying32 h with ⟨hcs, _⟩ | ⟨a, len, cap, m, n, D, Pl, hcs, hb, hl, hm, hmm, hx, hi⟩
  · simp at hcs
    subst hcs
    exact ⟨none, 0, 0, [], rfl, SlAt.nil _ _ _ _⟩
  · simp at hcs
    subst hcs
    have hr1 := hr _ _ (by rw [hx])
    simp only [if_true] at hmm
    subst hmm
    have hle : len ≤ 17592186044416 := by
      have := reach44 (show 8 ≤ 32 by omega) hr1
      simp at this
      omega
    have hsec : ∀ i, i < m → ∃ y : Wat, ∀ j v, y.cells[j]? = some v → W.cell? (a.add (i * 4 + j)) = some v := by
      intro i him
      obtain ⟨cs', hc, ht'⟩ := hi i him
      rw [Tryz.cellsWat] at hc
      obtain ⟨_, hcl, hat⟩ := World.cells?_some hc
      match cs', hcl with
      | [u0, u1, u2, u3], _ =>
        obtain ⟨zs, mm, _, _, _, hlen2, hg2⟩ := DataW.trod_struct Tryz.underlying91 ht'
        match zs, hlen2 with
        | [z0, z1], _ =>
          have w0 := hg2 0 _ rfl
          have w1 := hg2 1 _ rfl
          simp at w0 w1
          simp only [Tryz.cellsBnd] at w0 w1
          simp at w0 w1
          obtain ⟨b0, e0, e1⟩ := row_bnd w0
          obtain ⟨b1, e2, e3⟩ := row_bnd w1
          subst e0 e1 e2 e3
          refine ⟨⟨b0, b1⟩, fun j v hv => ?_⟩
          have hj : j < 4 := (List.getElem?_eq_some_iff.1 hv).1
          have h9 := hat j hj
          rw [← Go.Deep.add_add, h9]
          exact hv
    have hch : ∃ f : Nat → Wat, ∀ i, i < m → ∀ j v, (f i).cells[j]? = some v → W.cell? (a.add (i * 4 + j)) = some v :=
      ⟨fun i => if h : i < m then (hsec i h).choose else ⟨⟨0, 0⟩, ⟨0, 0⟩⟩, fun i h => by simp only [dif_pos h]; exact (hsec i h).choose_spec⟩
    obtain ⟨f, hf⟩ := hch
    refine ⟨some a, len, m, (List.range len).map f, rfl, by simp, hl, hle, fun hn => ?_⟩
    have h0 := hf 0 (by omega) 0 _ rfl
    have hs := World.cell?_spot h0
    obtain ⟨b, off, spot⟩ := a
    have hspot : spot = none := by simpa [Addr.add] using hs
    subst hspot
    refine ⟨b, off, rfl, Nat.zero_le _, World.block_lt_of_cell? W _ (by simpa [Addr.add] using h0), fun k y hk jj v hv => ?_⟩
    have hkn : k < len := by have := (List.getElem?_eq_some_iff.1 hk).1; simpa using this
    have hy : f k = y := by simpa [hkn] using hk
    subst hy
    have := hf k (by omega) jj v hv
    rw [add_none] at this
    exact this
theorem row_ints_of {fuel : Nat} {c1 : Value} {x : DataW H × List MemPlace} (h : DataW.trod enc Tryz.prog W 0 (fun _ => true) true fuel 33 [c1] = some x)
    (hr : ∀ elems spare, x.1 = .slice elems spare → (elems.length + spare.length) * 8 ≤ reachBytes) : ∃ a n c xs, c1 = .slice a n c ∧ SlAt W 0 1 ivs a n c xs := by
  rcases open_ints Tryz.underlying33 Tryz.underlying3 Tryz.cellsInt h with ⟨hcs, _⟩ | ⟨a, l, c', zs, hcs, _, hl, hm, hz, hx, hcell, hwz⟩
  · simp at hcs
    subst hcs
    exact ⟨none, 0, 0, [], rfl, SlAt.nil _ _ _ _⟩
  · simp at hcs
    subst hcs
    simp only [if_true] at hz
    have hr1 := hr _ _ (by rw [hx])
    have hle : l ≤ 17592186044416 := by
      have := reach44 (Nat.le_refl 8) hr1
      simp [lits] at this
      omega
    refine ⟨some a, l, c', zs.take l, rfl, by simp; omega, hl, hle, fun hn => ?_⟩
    have h0 := hcell 0 (by omega)
    have hs := World.cell?_spot h0
    obtain ⟨b, off, spot⟩ := a
    have hspot : spot = none := by simpa [Addr.add] using hs
    subst hspot
    refine ⟨b, off, rfl, Nat.zero_le _, World.block_lt_of_cell? W _ (by simpa [Addr.add] using h0), fun k y hk jj v hv => ?_⟩
    have hkn : k < l := by have := (List.getElem?_eq_some_iff.1 hk).1; simp at this; omega
    have hc := hcell k (by omega)
    have hy : zs.getD k 0 = y := by
      rw [List.getElem?_take_of_lt hkn] at hk
      rw [List.getD_eq_getElem?_getD, hk]; rfl
    rw [hy] at hc
    match jj, hv with
    | 0, hv =>
      simp [ivs] at hv
      subst hv
      rw [add_none] at hc
      simpa using hc
    | q + 1, hv => simp [ivs] at hv
theorem row_fir {r : Reach} {b0 : Nat} {v : Value} {d : DataW H} {p : List MemPlace} (hv : Value.okWide Tryz.prog W r b0 23 v) (h : DataW.Trod enc Tryz.prog W 0 (fun _ => true) true 23 v d p) :
    ∃ f : Fir, v = .agg #[.int .i64 f.start, .int .i64 f.every, .int .i64 f.srcs, .int .i64 f.shots, .int .i64 f.charge] := by
  obtain ⟨cs, rfl, hcs⟩ := okWide_struct Tryz.underlying23 hv
  obtain ⟨l⟩ := cs
  match l, hcs.trans Tryz.cellsFir with
  | [c0, c1, c2, c3, c4], _ =>
    obtain ⟨fuel, hf⟩ := h
    obtain ⟨zs, m, _, _, _, hlen2, hg2⟩ := DataW.trod_struct Tryz.underlying23 hf
    match zs, hlen2 with
    | [z0, z1, z2, z3, z4], _ =>
      have w0 := hg2 0 _ rfl
      have w1 := hg2 1 _ rfl
      have w2 := hg2 2 _ rfl
      have w3 := hg2 3 _ rfl
      have w4 := hg2 4 _ rfl
      simp [Value.cells] at w0 w1 w2 w3 w4
      simp only [Tryz.cellsInt] at w0 w1 w2 w3 w4
      simp [Value.cells] at w0 w1 w2 w3 w4
      obtain ⟨x0, g0, _, _⟩ := DataW.trod_int Tryz.underlying3 w0
      obtain ⟨x1, g1, _, _⟩ := DataW.trod_int Tryz.underlying3 w1
      obtain ⟨x2, g2, _, _⟩ := DataW.trod_int Tryz.underlying3 w2
      obtain ⟨x3, g3, _, _⟩ := DataW.trod_int Tryz.underlying3 w3
      obtain ⟨x4, g4, _, _⟩ := DataW.trod_int Tryz.underlying3 w4
      simp at g0 g1 g2 g3 g4
      subst g0 g1 g2 g3 g4
      exact ⟨⟨x0, x1, x2, x3, x4⟩, rfl⟩
theorem row_race {r : Reach} {b0 j : Nat} {v : Value} {d : DataW H} {p : List MemPlace} (hsz : (DataW.weightsEach Tryz.prog ts ds).all (· ≤ reachBytes) = true) (ht : ts[j]? = some 35) (hd : ds[j]? = some d)
    (hv : Value.okWide Tryz.prog W r b0 35 v) (h : DataW.Trod enc Tryz.prog W 0 (fun _ => true) true 35 v d p) :
    ∃ a n c x a' n' c' y a'' n'' c'' z, v = .agg #[.slice a n c, .slice a' n' c', .slice a'' n'' c''] ∧ SlAt W 0 4 Wat.cells a n c x ∧ SlAt W 0 1 ivs a' n' c' y ∧ SlAt W 0 1 ivs a'' n'' c'' z := by
  obtain ⟨cs, rfl, hcs⟩ := okWide_struct Tryz.underlying35 hv
  obtain ⟨l⟩ := cs
  match l, hcs.trans Tryz.cellsRace with
  | [c0, c1, c2], _ =>
    obtain ⟨fuel, hf⟩ := h
    obtain ⟨xs, n, _, hx, _, hlen, hg⟩ := DataW.trod_struct Tryz.underlying35 hf
    match xs, hlen with
    | [y0, y1, y2], _ =>
      simp only [Prod.mk.injEq] at hx
      have hx1 : d = .agg [y0.1, y1.1, y2.1] := by rw [hx.1]; rfl
      have t0 := hg 0 _ rfl
      have t1 := hg 1 _ rfl
      have t2 := hg 2 _ rfl
      simp [Value.cells] at t0 t1 t2
      simp only [Tryz.cellsWats, Tryz.cellsInts] at t0 t1 t2
      simp at t0 t1 t2
      obtain ⟨a, n', c, x, rfl, h1⟩ := row_wats (W := W) t0 (fun elems spare he => by
        have := List.all_eq_true.1 hsz _ (DataW.weights_mem_each ht hd ((elems.length + spare.length) * Tryz.prog.bytesOf 91) (by
          rw [hx1]
          simp [DataW.weights, DataW.weightsEach, Tryz.underlying35, he, Tryz.underlying32]))
        rw [Tryz.bytesWat] at this
        simpa using this)
      obtain ⟨a2, n2, c2, y, rfl, h2⟩ := row_ints_of (W := W) t1 (fun elems spare he => by
        have := List.all_eq_true.1 hsz _ (DataW.weights_mem_each ht hd ((elems.length + spare.length) * Tryz.prog.bytesOf 3) (by
          rw [hx1]
          simp [DataW.weights, DataW.weightsEach, Tryz.underlying35, he, Tryz.underlying33]))
        rw [Tryz.bytesInt] at this
        simpa using this)
      obtain ⟨a3, n3, c3, z, rfl, h3⟩ := row_ints_of (W := W) t2 (fun elems spare he => by
        have := List.all_eq_true.1 hsz _ (DataW.weights_mem_each ht hd ((elems.length + spare.length) * Tryz.prog.bytesOf 3) (by
          rw [hx1]
          simp [DataW.weights, DataW.weightsEach, Tryz.underlying35, he, Tryz.underlying33]))
        rw [Tryz.bytesInt] at this
        simpa using this)
      exact ⟨a, n', c, x, a2, n2, c2, y, a3, n3, c3, z, rfl, h1, h2, h3⟩
end
end Go.Proofs.YtcmbmmpihiekhaaGreat
