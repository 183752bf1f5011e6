/-
  Plain laws of narrower bounds and waters, as numbers choose them. Nothing of the program stands here.
-/
import Derived.Test.YtjiaepphnddpoaaM4
namespace Go.Proofs.Ytjiaepphnddpoaa
open Go.RowKit Go.Shelf
set_option linter.unusedSimpArgs false
set_option linter.unusedVariables false

def nbAt (bits : List Int) (i : Nat) (b : Bnd) : Bnd := ⟨insB bits 0 i b, b.hi⟩
def nbTo (bs : List Bnd) (bits : List Int) (k : Nat) : List Bnd := (List.range k).map fun i => nbAt bits i (bs.getD i ⟨0, 0⟩)
def nwAt (bits : List Int) (i : Nat) (a : Wat) : Wat :=
  ⟨⟨a.acr.lo, a.acr.hi - restS (pickS bits i) (a.acr.hi - a.acr.lo + 1)⟩, ⟨a.alo.lo + restS (pickS bits (i + 2)) (a.alo.hi - a.alo.lo + 1), a.alo.hi⟩⟩
def nwTo (l : List Wat) (bits : List Int) (k : Nat) : List Wat := (List.range k).map fun i => nwAt bits i (l.getD i wat0)
theorem nbTo_succ {bs : List Bnd} {bits : List Int} {k : Nat} {x : Bnd} (h : bs[k]? = some x) : nbTo bs bits (k + 1) = nbTo bs bits k ++ [nbAt bits k x] := by
  unfold nbTo; rw [List.range_succ, List.map_append, List.map_singleton, getD_of _ h]
theorem nwTo_succ {l : List Wat} {bits : List Int} {k : Nat} {x : Wat} (h : l[k]? = some x) : nwTo l bits (k + 1) = nwTo l bits k ++ [nwAt bits k x] := by
  unfold nwTo; rw [List.range_succ, List.map_append, List.map_singleton, getD_of _ h]
theorem nbTo_len (bs : List Bnd) (bits : List Int) (k : Nat) : (nbTo bs bits k).length = k := by simp [nbTo]
theorem nwTo_len (l : List Wat) (bits : List Int) (k : Nat) : (nwTo l bits k).length = k := by simp [nwTo]
theorem nbTo_at {bs : List Bnd} {bits : List Int} {i : Nat} {x : Bnd} (h : (nbTo bs bits bs.length)[i]? = some x) : ∃ b, bs[i]? = some b ∧ x = nbAt bits i b := by
  have hl := lt_of_at h
  rw [nbTo_len] at hl
  unfold nbTo at h
  rw [List.getElem?_map, List.getElem?_range hl] at h
  exact ⟨_, getD_get ⟨0, 0⟩ hl, by cases h; rfl⟩
theorem nwTo_at {l : List Wat} {bits : List Int} {i : Nat} {x : Wat} (h : (nwTo l bits l.length)[i]? = some x) : ∃ b, l[i]? = some b ∧ x = nwAt bits i b := by
  have hl := lt_of_at h
  rw [nwTo_len] at hl
  unfold nwTo at h
  rw [List.getElem?_map, List.getElem?_range hl] at h
  exact ⟨_, getD_get wat0 hl, by cases h; rfl⟩
theorem nb_nar {bs : List Bnd} (bits : List Int) (h : bs.all (okBnd 16384) = true) : NarL (nbTo bs bits bs.length) bs := by
  refine ⟨nbTo_len _ _ _, fun i x y hx hy => ?_⟩
  obtain ⟨b, hb, rfl⟩ := nbTo_at hx
  rw [hb] at hy
  obtain rfl : b = y := Option.some.inj hy
  have := (insB_in bits 0 i (by omega) (List.all_eq_true.1 h b (List.mem_of_getElem? hb))).1
  exact ⟨this.1, Int.le_refl _⟩
theorem nb_ok {s : Strm} {bs : List Bnd} (bits : List Int) (h : okOffs s bs = true) : okOffs s (nbTo bs bits bs.length) = true := by
  unfold okOffs
  rw [Bool.and_eq_true]
  refine ⟨decide_eq_true (by rw [nbTo_len]; exact okOffs_len h), List.all_eq_true.2 fun x hx => ?_⟩
  obtain ⟨i, hi⟩ := List.mem_iff_getElem?.1 hx
  obtain ⟨b, hb, rfl⟩ := nbTo_at hi
  have hbo := List.all_eq_true.1 (okOffs_all h) b (List.mem_of_getElem? hb)
  obtain ⟨h1, h2, h3⟩ := of_decide_eq_true hbo
  have := (insB_in bits 0 i (by omega) hbo).1
  unfold inB at this
  exact decide_eq_true (by unfold nbAt; dsimp only; omega)
theorem nwAt_nar {bits : List Int} {i : Nat} {a : Wat} (h : okWat a = true) : okWat (nwAt bits i a) = true ∧ NarB (nwAt bits i a).acr a.acr ∧ a.alo.lo ≤ (nwAt bits i a).alo.lo := by
  unfold okWat at h
  rw [Bool.and_eq_true] at h
  obtain ⟨h1, h2, h3⟩ := of_decide_eq_true (p := -100 ≤ a.acr.lo ∧ a.acr.lo ≤ a.acr.hi ∧ a.acr.hi ≤ 100) h.1
  obtain ⟨g1, g2, g3⟩ := of_decide_eq_true (p := -50 ≤ a.alo.lo ∧ a.alo.lo ≤ a.alo.hi ∧ a.alo.hi ≤ 50) h.2
  have r1 := restS_bd (pickS bits i) (many := a.acr.hi - a.acr.lo + 1) (by omega)
  have r2 := restS_bd (pickS bits (i + 2)) (many := a.alo.hi - a.alo.lo + 1) (by omega)
  refine ⟨?_, ⟨Int.le_refl _, by unfold nwAt; dsimp only; omega⟩, by unfold nwAt; dsimp only; omega⟩
  unfold okWat
  rw [Bool.and_eq_true]
  exact ⟨decide_eq_true (by unfold nwAt; dsimp only; omega), decide_eq_true (by unfold nwAt; dsimp only; omega)⟩
theorem nw_nar {l : List Wat} (bits : List Int) (h : l.all okWat = true) : NarW (nwTo l bits l.length) l := by
  intro i
  cases hx : (nwTo l bits l.length)[i]? with
  | none =>
    have : l.length ≤ i := by have := List.getElem?_eq_none_iff.1 hx; rwa [nwTo_len] at this
    rw [List.getD_eq_getElem?_getD, List.getD_eq_getElem?_getD, hx, List.getElem?_eq_none this]
    exact ⟨NarB.refl _, Int.le_refl _⟩
  | some x =>
    obtain ⟨b, hb, rfl⟩ := nwTo_at hx
    rw [getD_of _ hx, getD_of _ hb]
    exact (nwAt_nar (List.all_eq_true.1 h b (List.mem_of_getElem? hb))).2
theorem nw_ok {l : List Wat} (bits : List Int) (h : l.all okWat = true) : (nwTo l bits l.length).all okWat = true := by
  refine List.all_eq_true.2 fun x hx => ?_
  obtain ⟨i, hi⟩ := List.mem_iff_getElem?.1 hx
  obtain ⟨b, hb, rfl⟩ := nwTo_at hi
  exact (nwAt_nar (List.all_eq_true.1 h b (List.mem_of_getElem? hb))).1
theorem errW_of {s : Strm} {bs : List Bnd} {l : List Wat} {v : List Int} (h1 : okStrm s = true) (h2 : okOffs s bs = true) (h3 : l.all okWat = true) (h4 : l.length ≤ 48) (h5 : okSpeeds v = true) (h6 : v.length = l.length) : errW s bs l v = 0 := by
  have e1 : errB s bs = 0 := by rw [errB, if_pos h1, if_pos h2]
  have e2 : okWats l = true := by unfold okWats; rw [Bool.and_eq_true]; exact ⟨decide_eq_true h4, h3⟩
  have e3 : errBW s bs l = 0 := by rw [errBW, if_pos e1, chkWats, if_pos e2]
  rw [errW, if_pos e3, if_pos ⟨h6, h5⟩]
theorem errW_48 {s : Strm} {bs : List Bnd} {l : List Wat} {v : List Int} (h : errW s bs l v = 0) : l.length ≤ 48 := by
  have hbw : errBW s bs l = 0 := by
    by_cases h9 : errBW s bs l = 0
    · exact h9
    · rw [errW, if_neg h9] at h; exact absurd h h9
  have h8 := (errBW_zero hbw).2
  unfold okWats at h8
  simp only [Bool.and_eq_true, decide_eq_true_eq] at h8
  exact h8.1
/-- Narrower bounds and waters keep the limits, too. -/
theorem keepsR_narrow {s : Strm} {bs : List Bnd} {l : List Wat} {v : List Int} (bits : List Int) (h : errW s bs l v = 0) :
    ∃ k, keepsR s (nbTo bs bits bs.length) (nwTo l bits l.length) v = (k, 0) ∧ (keepsS s bs l v = true → k = true) := by
  obtain ⟨ho, hb, hl, hv, hvl, -⟩ := errW_zero h
  have e := errW_of (v := v) ho (nb_ok bits hb) (nw_ok bits hl) (by rw [nwTo_len]; exact errW_48 h) hv (by rw [nwTo_len]; exact hvl)
  refine ⟨keepsS s (nbTo bs bits bs.length) (nwTo l bits l.length) v, by rw [keepsR, if_pos e], fun hk => ?_⟩
  exact keepsS_narrow ho (by rw [nbTo_len]; exact okOffs_len hb) (nb_nar bits (okOffs_all hb)) (nw_nar bits hl) (nwTo_len _ _ _) hk
/-- Fewer steps keep the limits, too. -/
theorem keepsR_take {s : Strm} {bs : List Bnd} {l : List Wat} {v : List Int} (n : Nat) (h : errW s bs l v = 0) :
    ∃ k, keepsR s bs (l.take n) (v.take n) = (k, 0) ∧ (keepsS s bs l v = true → k = true) := by
  obtain ⟨ho, hb, hl, hv, hvl, -⟩ := errW_zero h
  have e := errW_of (s := s) (bs := bs) (l := l.take n) (v := v.take n) ho hb (List.all_eq_true.2 fun x hx => List.all_eq_true.1 hl x (List.mem_of_mem_take hx)) (by rw [List.length_take]; have := errW_48 h; omega)
    (by unfold okSpeeds at *; exact List.all_eq_true.2 fun x hx => List.all_eq_true.1 hv x (List.mem_of_mem_take hx)) (by rw [List.length_take, List.length_take, hvl])
  exact ⟨keepsS s bs (l.take n) (v.take n), by rw [keepsR, if_pos e], fun hk => keepsS_take n hk⟩
end Go.Proofs.Ytjiaepphnddpoaa
