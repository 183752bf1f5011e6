/-
  The least bounds of the ends of all rows.
  The tight region.
-/
import Derived.Test.YthjdjpcomocffaaGreatG5
import Derived.Test.YthjdjpcomocffaaGreatG4
import Derived.LoopN
namespace Go.Proofs.YthjdjpcomocffaaGreat
open Go.RowKit Go.Shelf
attribute [local go_sem] Oper.semAt_some

def hullTo (r : Reg) (k : Nat) : Option Reg := hullL ((ptsL r).take k)
theorem hullTo_succ {r : Reg} {k : Nat} {p : Pnt} (h : (ptsL r)[k]? = some p) : hullTo r (k + 1) = addP (hullTo r k) p := by
  unfold hullTo hullL
  rw [List.take_add_one, h]
  simp
theorem hullTo_all (r : Reg) : hullTo r (ptsL r).length = tightO r := by unfold hullTo tightO; rw [List.take_length]
def optR (o : Option Reg) : Reg := o.getD noReg
theorem zipR_self (p : Pnt) : zipR spanB (ofP p) (ofP p) = ofP p := by simp [zipR, spanB, ofP, still]
theorem optR_add (o : Option Reg) (p : Pnt) : optR (addP o p) = zipR spanB (if o.isSome = true then optR o else ofP p) (ofP p) := by cases o <;> rfl
theorem isSome_add (o : Option Reg) (p : Pnt) : (addP o p).isSome = true := by cases o <;> rfl
/-! All ends lie in the bounds. -/
def midP (p : Pnt) : Prop := -1000000 ≤ p.x ∧ p.x ≤ 1000000 ∧ -1000000 ≤ p.y ∧ p.y ≤ 1000000 ∧ -1000000 ≤ p.x + p.y ∧ p.x + p.y ≤ 1000000 ∧ -1000000 ≤ p.x - p.y ∧ p.x - p.y ≤ 1000000
theorem rowsTo_mem {r : Reg} : ∀ {n : Nat} {q : RRow}, q ∈ rowsTo r n → ∃ j : Nat, j < n ∧ q = rowB r (r.x.lo + j) ∧ q.fr ≤ q.to
  | n + 1, q, h => by
    rw [rowsTo_succ, List.mem_append] at h
    rcases h with h | h
    · obtain ⟨j, h1, h2⟩ := rowsTo_mem h
      exact ⟨j, by omega, h2⟩
    · split at h
      · rename_i hc
        simp only [List.mem_singleton] at h
        subst h
        exact ⟨n, by omega, rfl, hc⟩
      · cases h
theorem ptsL_mid {r : Reg} (hr : okReg r = true) {p : Pnt} (h : p ∈ ptsL r) : -32768 ≤ p.x ∧ p.x ≤ 32768 ∧ -32768 ≤ p.y ∧ p.y ≤ 32768 := by
  unfold ptsL at h
  rw [List.mem_flatMap] at h
  obtain ⟨q, hq, hp⟩ := h
  obtain ⟨j, hj, rfl, hle⟩ := rowsTo_mem hq
  simp only [okReg, Bool.and_eq_true, okBnd, decide_eq_true_eq] at hr
  obtain ⟨⟨⟨⟨x1, x2, x3⟩, ⟨y1, y2, y3⟩⟩, _⟩, _⟩ := hr
  have hx : j < (r.x.hi + 1 - r.x.lo).toNat := hj
  have e1 : (rowB r (r.x.lo + j)).fr = max r.y.lo (max (r.s.lo - (r.x.lo + j)) (r.x.lo + j - r.d.hi)) := rfl
  have e2 : (rowB r (r.x.lo + j)).to = min r.y.hi (min (r.s.hi - (r.x.lo + j)) (r.x.lo + j - r.d.lo)) := rfl
  have e3 : (rowB r (r.x.lo + j)).x = r.x.lo + j := rfl
  have hp2 : p = ⟨(rowB r (r.x.lo + j)).x, (rowB r (r.x.lo + j)).fr⟩ ∨ p = ⟨(rowB r (r.x.lo + j)).x, (rowB r (r.x.lo + j)).to⟩ := by
    unfold rowPts at hp
    split at hp
    · simp only [List.mem_singleton] at hp
      exact .inl hp
    · simpa using hp
  rcases hp2 with rfl | rfl <;> (simp only; omega)
theorem okReg_mid {r : Reg} (hr : okReg r = true) : midR r := by
  simp only [okReg, Bool.and_eq_true, okBnd, decide_eq_true_eq] at hr
  unfold midR midB
  omega
theorem foldl_addP_mid : ∀ (l : List Pnt) (o : Option Reg), (∀ p ∈ l, midP p) → (∀ h, o = some h → midR h) → ∀ h, l.foldl addP o = some h → midR h
  | [], o, _, ho, h, e => ho h e
  | p :: l, o, hl, ho, h, e => by
    refine foldl_addP_mid l (addP o p) (fun q hq => hl q (List.mem_cons_of_mem _ hq)) (fun h' e' => ?_) h e
    have hp := hl p (List.mem_cons_self ..)
    unfold midP at hp
    cases o with
    | none =>
      simp only [addP, Option.some.injEq] at e'
      subst e'
      simp only [midR, midB, zipR, spanB, ofP, still]
      omega
    | some g =>
      have hg := ho g rfl
      unfold midR midB at hg
      simp only [addP, Option.some.injEq] at e'
      subst e'
      simp only [midR, midB, zipR, spanB, ofP, still]
      omega
theorem hullTo_mid {r : Reg} (hr : okReg r = true) (k : Nat) : midR (optR (hullTo r k)) := by
  cases h : hullTo r k with
  | none => simp [optR, midR, midB, noReg]
  | some g =>
    refine foldl_addP_mid _ none (fun p hp => ?_) (fun _ e => by cases e) g h
    have := ptsL_mid hr (List.mem_of_mem_take hp)
    unfold midP
    omega
theorem nc_set8 {B g : Nat} (w : World) (h : g < B) (v0 v1 v2 v3 v4 v5 v6 v7 : Value) : NC B w (set8 w g v0 v1 v2 v3 v4 v5 v6 v7) :=
  (((((((nc_setCell _ ⟨g, 0, none⟩ v0 h).trans (nc_setCell _ ⟨g, 1, none⟩ v1 h)).trans (nc_setCell _ ⟨g, 2, none⟩ v2 h)).trans (nc_setCell _ ⟨g, 3, none⟩ v3 h)).trans (nc_setCell _ ⟨g, 4, none⟩ v4 h)).trans (nc_setCell _ ⟨g, 5, none⟩ v5 h)).trans (nc_setCell _ ⟨g, 6, none⟩ v6 h)).trans (nc_setCell _ ⟨g, 7, none⟩ v7 h)
def HullI (r : Reg) (w : World) (k : Nat) (A : World) : Prop :=
  Blk A w.heap.size 134 (regA (optR (hullTo r k))) ∧ Blk A (w.heap.size + 1) 4 #[.bool (hullTo r k).isSome] ∧ Below w.heap.size w A
theorem HullI.calm {r : Reg} {w A B : World} {k B0 : Nat} (h : HullI r w k A) (hc : Calm B0 A B) (hB : w.heap.size ≤ B0) : HullI r w k B := ⟨calm_blk hc h.1, calm_blk hc h.2.1, calm_below hc h.2.2 hB⟩
set_option maxRecDepth 100000 in
set_option maxHeartbeats 2000000 in
theorem hull_any (r : Reg) (A : Option Addr) (c gf b off : Nat) (w : World) (hr : okReg r = true) (hA : A = some ⟨b, off, none⟩) (hc : w.cell? ⟨b, off, none⟩ = some (.func (.func 100) #[] #[.pointer (some ⟨gf, 0, none⟩)])) (hL : FourL r gf w) :
    Calls Tryz.prog 92 #[.slice A 1 c] w fun e w' => e = .returned (.tuple #[.agg (regA (optR (tightO r))), .bool (tightO r).isSome]) ∧ Below w.heap.size w w' := by
  subst hA
  have hmid := Lib.hid (hullTo_mid hr)
  have hpt := Lib.hid (fun (p : Pnt) (hp : p ∈ ptsL r) => ptsL_mid hr hp)
  have hrm := okReg_mid hr
  replace hr := Lib.hid hr
  have hbl := World.block_lt_of_cell? _ _ hc
  have hgf : gf < w.heap.size := Blk.lt hL
  refine (callsIn_wide (n := 9)).1 ?_
  refine callsIn_of_wp_marks Tryz.func92 rfl trivial ?_ rfl
  simp only [Tryz.ntmps92, List.size_toArray, List.length_cons, List.length_nil, Nat.reduceAdd, Nat.reduceSub, Array.replicate_succ, Array.replicate_zero, List.push_toArray, List.append_toArray, List.nil_append, List.cons_append]
  refine wpIn_wide.2 ?_
  go_wp2_with fail
  refine wp_loop_rounds 2 ?_
  rw [rounds_succ]
  obtain ⟨W0, hW0⟩ : ∃ W0, W0 = (w.alloc (.cells #[.int .i64 0, .int .i64 0, .int .i64 0, .int .i64 0, .int .i64 0, .int .i64 0, .int .i64 0, .int .i64 0] 134)).alloc (.cells #[.bool false] 4) := ⟨_, rfl⟩
  rw [← hW0]
  have hI0 : HullI r w 0 W0 := by rw [hW0]; exact ⟨(Blk.newAt rfl).alloc _, Blk.newAt (by simp), ((Below.refl _ _).alloc (Nat.le_refl _) _).alloc (by simp) _⟩
  have hL0 : FourL r gf W0 := by rw [hW0]; exact (Blk.alloc hL _).alloc _
  have hc0 : W0.cell? ⟨b, off, none⟩ = some (.func (.func 100) #[] #[.pointer (some ⟨gf, 0, none⟩)]) := (hI0.2.2.cell hbl).trans hc
  have hsz : W0.heap.size = w.heap.size + 2 := by rw [hW0]; simp
  clear hW0
  go_wp2_with fail
  refine (wpIn_wide (n := 9)).1 ?_
  refine wp_range rfl (by decide) (gf := 100) (lb := #[.pointer (some ⟨gf, 0, none⟩)]) rfl trivial eg_ends1
    (ends1_iter _ r gf (by decide) hrm) (fun k vs W ⟨_, _, e⟩ => by rw [e]; rfl)
    (HullI r w) (fun _ _ => False) (fun k A B h hc => h.calm hc (by omega)) (fun _ _ _ h _ => h) (fun A B h hc => calm_blk hc h) hI0 hL0 ?round ?done ?stop
  case stop => exact fun _ _ _ _ h _ => h.elim
  case done =>
    rintro D W hD ⟨k1, k2, hb⟩ hK
    rw [hullTo_all] at k1 k2
    obtain ⟨R, hR⟩ : ∃ R, optR (tightO r) = R := ⟨_, rfl⟩
    obtain ⟨S, hS⟩ : ∃ S, (tightO r).isSome = S := ⟨_, rfl⟩
    rw [hR] at k1
    rw [hS] at k2
    replace hR := Lib.hid hR
    replace hS := Lib.hid hS
    simp only [regA] at k1
    obtain ⟨c1, f1, l1⟩ := k1.rules
    obtain ⟨c2, f2, l2⟩ := k2.rules
    go_wp2_with fail
    rw [rounds_succ]
    go_wp2_with fail
    refine wp_held_np ((fun w' : World => (∀ j, w'.cell? ⟨w.heap.size, j, none⟩ = #[Value.int .i64 R.x.lo, .int .i64 R.x.hi, .int .i64 R.y.lo, .int .i64 R.y.hi, .int .i64 R.s.lo, .int .i64 R.s.hi, .int .i64 R.d.lo, .int .i64 R.d.hi][j]?) ∧ (∀ j, w'.cell? ⟨w.heap.size + 1, j, none⟩ = #[Value.bool S][j]?))) (by kernel_rfl) ?_
    have k1d := k1.drew
    have k2d := k2.drew
    have hKd : W.drew.heap[D]? = some (.deferred (some [])) := hK
    replace hb := hb.drew
    clear k1 k2 hK c1 f1 l1 c2 f2 l2
    generalize W.drew = Wd at *
    have hSd : (fun w' : World => (∀ j, w'.cell? ⟨w.heap.size, j, none⟩ = #[Value.int .i64 R.x.lo, .int .i64 R.x.hi, .int .i64 R.y.lo, .int .i64 R.y.hi, .int .i64 R.s.lo, .int .i64 R.s.hi, .int .i64 R.d.lo, .int .i64 R.d.hi][j]?) ∧ (∀ j, w'.cell? ⟨w.heap.size + 1, j, none⟩ = #[Value.bool S][j]?)) Wd := ⟨k1d.cell, k2d.cell⟩
    refine held_take (i := 0) (v := ?_) 24 rfl rfl (by kernel_rfl) (by kernel_rfl) (by kernel_rfl) (fun _ _ _ h => h) (Or.inl ⟨by rfl, ?_⟩) hSd ?_
    rotate_left 1
    · intro w' hSw
      try dsimp only at hSw
      obtain ⟨q1, q2⟩ := hSw
      go_simp
      all_goals with_reducible rfl
    try simp only [Act.put, List.setIfInBounds_toArray, List.set_cons_zero, List.set_cons_succ]
    refine held_take (i := 1) (v := ?_) 25 rfl rfl (by kernel_rfl) (by kernel_rfl) (by kernel_rfl) (fun _ _ _ h => h) (Or.inl ⟨by rfl, ?_⟩) hSd ?_
    rotate_left 1
    · intro w' hSw
      try dsimp only at hSw
      obtain ⟨q1, q2⟩ := hSw
      go_simp
      all_goals with_reducible rfl
    try simp only [Act.put, List.setIfInBounds_toArray, List.set_cons_zero, List.set_cons_succ]
    clear hSd
    have k1z := k1d.set8 (.int .i64 R.x.lo) (.int .i64 R.x.hi) (.int .i64 R.y.lo) (.int .i64 R.y.hi) (.int .i64 R.s.lo) (.int .i64 R.s.hi) (.int .i64 R.d.lo) (.int .i64 R.d.hi)
    have k2z := far_set8 k2d (g := w.heap.size) (by omega) (.int .i64 R.x.lo) (.int .i64 R.x.hi) (.int .i64 R.y.lo) (.int .i64 R.y.hi) (.int .i64 R.s.lo) (.int .i64 R.s.hi) (.int .i64 R.d.lo) (.int .i64 R.d.hi)
    have hbz := below_set8 (g := w.heap.size) hb (Nat.le_refl _) (.int .i64 R.x.lo) (.int .i64 R.x.hi) (.int .i64 R.y.lo) (.int .i64 R.y.hi) (.int .i64 R.s.lo) (.int .i64 R.s.hi) (.int .i64 R.d.lo) (.int .i64 R.d.hi)
    have hKz : (set8 Wd w.heap.size (.int .i64 R.x.lo) (.int .i64 R.x.hi) (.int .i64 R.y.lo) (.int .i64 R.y.hi) (.int .i64 R.s.lo) (.int .i64 R.s.hi) (.int .i64 R.d.lo) (.int .i64 R.d.hi)).heap[D]? = some (.deferred (some [])) := (heap_set8 _ (by omega) _ _ _ _ _ _ _ _).trans hKd
    obtain ⟨wz, hwz⟩ : ∃ x, x = set8 Wd w.heap.size (.int .i64 R.x.lo) (.int .i64 R.x.hi) (.int .i64 R.y.lo) (.int .i64 R.y.hi) (.int .i64 R.s.lo) (.int .i64 R.s.hi) (.int .i64 R.d.lo) (.int .i64 R.d.hi) := ⟨_, rfl⟩
    rw [← hwz] at k1z k2z hbz hKz
    simp only [set8] at hwz
    refine held_one (i := 2) (by kernel_rfl) rfl rfl (fun K hK => ?_)
    obtain ⟨c1, f1, l1⟩ := k1d.rules
    go_simp
    rw [← hwz]
    refine hK _ _ ⟨k1z.cell, k2z.cell⟩ ?_
    clear hK K hwz c1 f1 l1 k1d k2d hb hKd
    try simp only [Act.put, List.setIfInBounds_toArray, List.set_cons_zero, List.set_cons_succ]
    have k1y := k1z.far (p := ⟨w.heap.size + 1, 0, none⟩) (by dsimp only; omega) (.bool S)
    have k2y := k2z.set_ 0 (.bool S)
    have hby := hbz.setCell (p := ⟨w.heap.size + 1, 0, none⟩) (by dsimp only; omega) (.bool S)
    have hKy : (wz.setCell ⟨w.heap.size + 1, 0, none⟩ (.bool S)).heap[D]? = some (.deferred (some [])) := (Below.heap_setCell _ _ _ _ (by dsimp only; omega)).trans hKz
    refine held_one (i := 3) (by kernel_rfl) rfl rfl (fun K hK => ?_)
    obtain ⟨c2, f2, l2⟩ := k2z.rules
    go_simp
    refine hK _ _ ⟨k1y.cell, k2y.cell⟩ ?_
    clear hK K c2 f2 l2 k1z k2z hbz hKz
    generalize wz.setCell ⟨w.heap.size + 1, 0, none⟩ (.bool S) = wy at *
    refine wpAnyH_done (by kernel_rfl) (noPanic_normal ?_) _
    go_wp2_with fail
    refine ⟨by simp, .inl ⟨_, _, rfl, run_takeDeferred hKy, ?_⟩⟩
    have hpu : Below w.heap.size w (wy.putObj D (.deferred none)) := calm_below (calm_put (B := w.heap.size) _ hKy rfl (by omega)) hby (Nat.le_refl _)
    have k1e := calm_blk (calm_put (B := w.heap.size) (.deferred none) hKy rfl (by omega)) k1y
    have k2e := calm_blk (calm_put (B := w.heap.size) (.deferred none) hKy rfl (by omega)) k2y
    obtain ⟨c1, f1, l1⟩ := k1e.rules
    obtain ⟨c2, f2, l2⟩ := k2e.rules
    refine ⟨.tuple #[.agg (regA R), .bool S], ?_, by rw [hR.out, hS.out], hpu⟩
    simp [results, Tryz.results92, go_sem, c1, c2, regA]
  case round =>
    rintro l i vs W hW hi ⟨k1, k2, hb⟩ hLi ⟨p, hp, rfl⟩
    gi_wp2_with fail
    refine ⟨(Below.refl _ _).alloc (Nat.le_refl _) _, fun W2 hc => ?_⟩
    have hc3 : Calm W0.heap.size W W2 := (calm_of_below ((Below.refl _ _).alloc (Nat.le_refl _) _) hW).trans hc
    have k6 : Blk W2 W.heap.size 65 #[.int .i64 p.x, .int .i64 p.y] := calm_blk hc (Blk.new _ _ _)
    replace hLi : FourL r gf W2 := calm_blk hc3 hLi
    have hI : HullI r w i W2 := HullI.calm ⟨k1, k2, hb⟩ hc3 (by omega)
    clear hc hc3 k1 k2 hb hI0 hL0 hc0 hL
    have hpm := hpt.out p (List.mem_of_getElem? hp)
    have hst := Lib.hid (hullTo_succ hp)
    have hm1 := Lib.hid (hmid.out i)
    have hz := Lib.hid (optR_add (hullTo r i) p)
    have hz2 := Lib.hid (isSome_add (hullTo r i) p)
    obtain ⟨k1, k2, hb⟩ := hI
    replace hp := Lib.hid hp
    have hofm : midR (ofP p) := by simp only [midR, midB, ofP, still]; omega
    replace hofm := Lib.hid hofm
    cases hs : (hullTo r i).isSome with
    | true =>
      rw [hs] at k2
      rw [hs, if_pos rfl] at hz
      generalize optR (hullTo r i) = R at *
      simp only [regA] at k1
      obtain ⟨c2, f2, l2⟩ := k2.rules
      gi_wp2_with fail
      clear c2 f2 l2
      have hn := NC.refl W0.heap.size W2
      have hmR := hm1
      refine wpIn_till_round (fun w' => (∀ j, w'.cell? ⟨w.heap.size, j, none⟩ = #[Value.int .i64 R.x.lo, .int .i64 R.x.hi, .int .i64 R.y.lo, .int .i64 R.y.hi, .int .i64 R.s.lo, .int .i64 R.s.hi, .int .i64 R.d.lo, .int .i64 R.d.hi][j]?) ∧ (∀ j, w'.cell? ⟨W.heap.size, j, none⟩ = #[Value.int .i64 p.x, .int .i64 p.y][j]?)) 4 (by kernel_rfl) (by kernel_rfl) (by rintro ⟨_, _, h⟩; exact h) ?_
      have hS : (fun w' : World => (∀ j, w'.cell? ⟨w.heap.size, j, none⟩ = #[Value.int .i64 R.x.lo, .int .i64 R.x.hi, .int .i64 R.y.lo, .int .i64 R.y.hi, .int .i64 R.s.lo, .int .i64 R.s.hi, .int .i64 R.d.lo, .int .i64 R.d.hi][j]?) ∧ (∀ j, w'.cell? ⟨W.heap.size, j, none⟩ = #[Value.int .i64 p.x, .int .i64 p.y][j]?)) W2.drew := ⟨k1.cell, k6.cell⟩
      refine till_taked (i := 0) (v := ?_) 19 rfl rfl (by kernel_rfl) (by kernel_rfl) (by kernel_rfl) (by kernel_rfl) (by kernel_rfl) (by kernel_rfl) (fun _ _ _ h => h) (Or.inl ⟨by rfl, ?_⟩) hS ?_
      rotate_left 1
      · intro w' hSw
        try dsimp only at hSw
        obtain ⟨q1, q2⟩ := hSw
        go_simp
        all_goals with_reducible rfl
      try simp only [Act.put, List.setIfInBounds_toArray, List.set_cons_zero, List.set_cons_succ]
      refine till_taked (i := 1) (v := ?_) 20 rfl rfl (by kernel_rfl) (by kernel_rfl) (by kernel_rfl) (by kernel_rfl) (by kernel_rfl) (by kernel_rfl) (fun _ _ _ h => h) (Or.inl ⟨by rfl, ?_⟩) hS ?_
      rotate_left 1
      · intro w' hSw
        try dsimp only at hSw
        obtain ⟨q1, q2⟩ := hSw
        go_simp
        all_goals with_reducible rfl
      try simp only [Act.put, List.setIfInBounds_toArray, List.set_cons_zero, List.set_cons_succ]
      refine till_one (i := 2) (by kernel_rfl) rfl rfl (fun K hK => ?_)
      go_simp
      refine (of_any p _ (by omega)).mono ?_
      rintro e w5 ⟨rfl, hb5⟩
      replace hb5 := below_of_drew hb5
      replace k1 := k1.below hb5
      replace k2 := k2.below hb5
      replace k6 := k6.below hb5
      replace hb := hb.trans (hb5.mono hb.size)
      replace hn := hn.trans (nc_of_below hb5)
      replace hLi : FourL r gf w5 := Blk.below hLi hb5
      refine hK _ _ (fun _ => ⟨k1.cell, k6.cell⟩) ?_
      clear hK K hS
      try simp only [Act.put, List.setIfInBounds_toArray, List.set_cons_zero, List.set_cons_succ]
      have hcomb := fun W => combined_any R (ofP p) spanB 99 W eg_spanB hmR.out hofm.out op_spanB
      simp only [regA] at hcomb
      refine till_one (i := 3) (by kernel_rfl) rfl rfl (fun K hK => ?_)
      go_simp
      refine (hcomb _).mono ?_
      clear hcomb
      rintro e w6 ⟨rfl, hb6⟩
      replace k1 := k1.below hb6
      replace k2 := k2.below hb6
      replace k6 := k6.below hb6
      replace hb := hb.trans (hb6.mono hb.size)
      replace hn := hn.trans (nc_of_below hb6)
      replace hLi : FourL r gf w6 := Blk.below hLi hb6
      refine hK _ _ (fun _ => ⟨k1.cell, k6.cell⟩) ?_
      clear hK K hb5 hb6
      try simp only [Act.put, List.setIfInBounds_toArray, List.set_cons_zero, List.set_cons_succ]
      refine till_one (i := 4) (by kernel_rfl) rfl rfl (fun K hK => ?_)
      obtain ⟨c1, f1, l1⟩ := k1.rules
      go_simp
      refine hK _ _ (fun h => nomatch (show true = false from h)) ?_
      clear hK K c1 f1 l1
      refine till_done (by kernel_rfl) ?_ _
      refine ⟨hn.trans (nc_set8 _ (by omega) _ _ _ _ _ _ _ _), ⟨?_, ?_, below_set8 (g := w.heap.size) hb (Nat.le_refl _) _ _ _ _ _ _ _ _⟩, far_set8 hLi (g := w.heap.size) (by omega) _ _ _ _ _ _ _ _⟩
      · rw [hst.out, hz.out]; exact k1.set8 _ _ _ _ _ _ _ _
      · rw [hst.out, hz2.out]; exact far_set8 k2 (g := w.heap.size) (by omega) _ _ _ _ _ _ _ _
    | false =>
      rw [hs] at k2
      rw [hs, if_neg (by simp)] at hz
      generalize optR (hullTo r i) = R at *
      simp only [regA] at k1
      obtain ⟨c2, f2, l2⟩ := k2.rules
      obtain ⟨c6, f6, l6⟩ := k6.rules
      gi_wp2_with fail
      refine ⟨trivial, (CallsIn.inRound l (callsIn_wide.2 (of_any p _ (by omega)))).mono ?_⟩
      rintro e w5 ⟨rfl, hb5⟩
      clear c2 f2 l2 c6 f6 l6
      replace k1 := k1.below hb5
      replace k2 := k2.below hb5
      replace k6 := k6.below hb5
      replace hb := hb.trans (hb5.mono hb.size)
      have hn := nc_of_below (B := W0.heap.size) hb5
      replace hLi : FourL r gf w5 := Blk.below hLi hb5
      clear hb5
      have k1z := (k1.set8 (.int .i64 (ofP p).x.lo) (.int .i64 (ofP p).x.hi) (.int .i64 (ofP p).y.lo) (.int .i64 (ofP p).y.hi) (.int .i64 (ofP p).s.lo) (.int .i64 (ofP p).s.hi) (.int .i64 (ofP p).d.lo) (.int .i64 (ofP p).d.hi)).far (p := ⟨w.heap.size + 1, 0, none⟩) (by dsimp only; omega) (.bool true)
      have k2z := (far_set8 k2 (g := w.heap.size) (by omega) (.int .i64 (ofP p).x.lo) (.int .i64 (ofP p).x.hi) (.int .i64 (ofP p).y.lo) (.int .i64 (ofP p).y.hi) (.int .i64 (ofP p).s.lo) (.int .i64 (ofP p).s.hi) (.int .i64 (ofP p).d.lo) (.int .i64 (ofP p).d.hi)).set_ 0 (.bool true)
      have k6z := (far_set8 k6 (g := w.heap.size) (by omega) (.int .i64 (ofP p).x.lo) (.int .i64 (ofP p).x.hi) (.int .i64 (ofP p).y.lo) (.int .i64 (ofP p).y.hi) (.int .i64 (ofP p).s.lo) (.int .i64 (ofP p).s.hi) (.int .i64 (ofP p).d.lo) (.int .i64 (ofP p).d.hi)).far (p := ⟨w.heap.size + 1, 0, none⟩) (by dsimp only; omega) (.bool true)
      have hbz := (below_set8 (g := w.heap.size) hb (Nat.le_refl _) (.int .i64 (ofP p).x.lo) (.int .i64 (ofP p).x.hi) (.int .i64 (ofP p).y.lo) (.int .i64 (ofP p).y.hi) (.int .i64 (ofP p).s.lo) (.int .i64 (ofP p).s.hi) (.int .i64 (ofP p).d.lo) (.int .i64 (ofP p).d.hi)).setCell (p := ⟨w.heap.size + 1, 0, none⟩) (by dsimp only; omega) (.bool true)
      have hnz := (hn.trans (nc_set8 (g := w.heap.size) _ (by omega) (.int .i64 (ofP p).x.lo) (.int .i64 (ofP p).x.hi) (.int .i64 (ofP p).y.lo) (.int .i64 (ofP p).y.hi) (.int .i64 (ofP p).s.lo) (.int .i64 (ofP p).s.hi) (.int .i64 (ofP p).d.lo) (.int .i64 (ofP p).d.hi))).trans (nc_setCell _ ⟨w.heap.size + 1, 0, none⟩ (.bool true) (by dsimp only; omega))
      have hLz : FourL r gf _ := (far_set8 hLi (g := w.heap.size) (by omega) (.int .i64 (ofP p).x.lo) (.int .i64 (ofP p).x.hi) (.int .i64 (ofP p).y.lo) (.int .i64 (ofP p).y.hi) (.int .i64 (ofP p).s.lo) (.int .i64 (ofP p).s.hi) (.int .i64 (ofP p).d.lo) (.int .i64 (ofP p).d.hi)).far (p := ⟨w.heap.size + 1, 0, none⟩) (by dsimp only; omega) (.bool true)
      obtain ⟨wz, hwz⟩ : ∃ x, x = (set8 w5 w.heap.size (.int .i64 (ofP p).x.lo) (.int .i64 (ofP p).x.hi) (.int .i64 (ofP p).y.lo) (.int .i64 (ofP p).y.hi) (.int .i64 (ofP p).s.lo) (.int .i64 (ofP p).s.hi) (.int .i64 (ofP p).d.lo) (.int .i64 (ofP p).d.hi)).setCell ⟨w.heap.size + 1, 0, none⟩ (.bool true) := ⟨_, rfl⟩
      rw [← hwz] at k1z k2z k6z hbz hnz hLz
      simp only [set8] at hwz
      obtain ⟨c1, f1, l1⟩ := k1.rules
      obtain ⟨c2, f2, l2⟩ := k2.rules
      gi_wp2_with fail
      rw [← hwz]
      clear hwz c1 f1 l1 c2 f2 l2 k1 k2 k6 hb hn hLi
      have k1 := k1z
      have k2 := k2z
      have k6 := k6z
      have hb := hbz
      have hn := hnz
      have hLi := hLz
      clear k1z k2z k6z hbz hnz hLz
      have hmR := hofm
      refine wpIn_till_round (fun w' => (∀ j, w'.cell? ⟨w.heap.size, j, none⟩ = #[Value.int .i64 (ofP p).x.lo, .int .i64 (ofP p).x.hi, .int .i64 (ofP p).y.lo, .int .i64 (ofP p).y.hi, .int .i64 (ofP p).s.lo, .int .i64 (ofP p).s.hi, .int .i64 (ofP p).d.lo, .int .i64 (ofP p).d.hi][j]?) ∧ (∀ j, w'.cell? ⟨W.heap.size, j, none⟩ = #[Value.int .i64 p.x, .int .i64 p.y][j]?)) 4 (by kernel_rfl) (by kernel_rfl) (by rintro ⟨_, _, h⟩; exact h) ?_
      have hS : (fun w' : World => (∀ j, w'.cell? ⟨w.heap.size, j, none⟩ = #[Value.int .i64 (ofP p).x.lo, .int .i64 (ofP p).x.hi, .int .i64 (ofP p).y.lo, .int .i64 (ofP p).y.hi, .int .i64 (ofP p).s.lo, .int .i64 (ofP p).s.hi, .int .i64 (ofP p).d.lo, .int .i64 (ofP p).d.hi][j]?) ∧ (∀ j, w'.cell? ⟨W.heap.size, j, none⟩ = #[Value.int .i64 p.x, .int .i64 p.y][j]?)) wz.drew := ⟨k1.cell, k6.cell⟩
      refine till_taked (i := 0) (v := ?_) 19 rfl rfl (by kernel_rfl) (by kernel_rfl) (by kernel_rfl) (by kernel_rfl) (by kernel_rfl) (by kernel_rfl) (fun _ _ _ h => h) (Or.inl ⟨by rfl, ?_⟩) hS ?_
      rotate_left 1
      · intro w' hSw
        try dsimp only at hSw
        obtain ⟨q1, q2⟩ := hSw
        go_simp
        all_goals with_reducible rfl
      try simp only [Act.put, List.setIfInBounds_toArray, List.set_cons_zero, List.set_cons_succ]
      refine till_taked (i := 1) (v := ?_) 20 rfl rfl (by kernel_rfl) (by kernel_rfl) (by kernel_rfl) (by kernel_rfl) (by kernel_rfl) (by kernel_rfl) (fun _ _ _ h => h) (Or.inl ⟨by rfl, ?_⟩) hS ?_
      rotate_left 1
      · intro w' hSw
        try dsimp only at hSw
        obtain ⟨q1, q2⟩ := hSw
        go_simp
        all_goals with_reducible rfl
      try simp only [Act.put, List.setIfInBounds_toArray, List.set_cons_zero, List.set_cons_succ]
      refine till_one (i := 2) (by kernel_rfl) rfl rfl (fun K hK => ?_)
      go_simp
      refine (of_any p _ (by omega)).mono ?_
      rintro e w5 ⟨rfl, hb5⟩
      replace hb5 := below_of_drew hb5
      replace k1 := k1.below hb5
      replace k2 := k2.below hb5
      replace k6 := k6.below hb5
      replace hb := hb.trans (hb5.mono hb.size)
      replace hn := hn.trans (nc_of_below hb5)
      replace hLi : FourL r gf w5 := Blk.below hLi hb5
      refine hK _ _ (fun _ => ⟨k1.cell, k6.cell⟩) ?_
      clear hK K hS
      try simp only [Act.put, List.setIfInBounds_toArray, List.set_cons_zero, List.set_cons_succ]
      have hcomb := fun W => combined_any (ofP p) (ofP p) spanB 99 W eg_spanB hmR.out hofm.out op_spanB
      simp only [regA] at hcomb
      refine till_one (i := 3) (by kernel_rfl) rfl rfl (fun K hK => ?_)
      go_simp
      refine (hcomb _).mono ?_
      clear hcomb
      rintro e w6 ⟨rfl, hb6⟩
      replace k1 := k1.below hb6
      replace k2 := k2.below hb6
      replace k6 := k6.below hb6
      replace hb := hb.trans (hb6.mono hb.size)
      replace hn := hn.trans (nc_of_below hb6)
      replace hLi : FourL r gf w6 := Blk.below hLi hb6
      refine hK _ _ (fun _ => ⟨k1.cell, k6.cell⟩) ?_
      clear hK K hb5 hb6
      try simp only [Act.put, List.setIfInBounds_toArray, List.set_cons_zero, List.set_cons_succ]
      refine till_one (i := 4) (by kernel_rfl) rfl rfl (fun K hK => ?_)
      obtain ⟨c1, f1, l1⟩ := k1.rules
      go_simp
      refine hK _ _ (fun h => nomatch (show true = false from h)) ?_
      clear hK K c1 f1 l1
      refine till_done (by kernel_rfl) ?_ _
      refine ⟨hn.trans (nc_set8 _ (by omega) _ _ _ _ _ _ _ _), ⟨?_, ?_, below_set8 (g := w.heap.size) hb (Nat.le_refl _) _ _ _ _ _ _ _ _⟩, far_set8 hLi (g := w.heap.size) (by omega) _ _ _ _ _ _ _ _⟩
      · rw [hst.out, hz.out]; exact k1.set8 _ _ _ _ _ _ _ _
      · rw [hst.out, hz2.out]; exact far_set8 k2 (g := w.heap.size) (by omega) _ _ _ _ _ _ _ _
end Go.Proofs.YthjdjpcomocffaaGreat
namespace Go.Proofs.YthjdjpcomocffaaGreat
set_option linter.unusedSimpArgs false
set_option linter.unusedVariables false
open Go.RowKit Go.Shelf

set_option maxRecDepth 100000 in
set_option maxHeartbeats 1000000 in
theorem tight_any (r : Reg) (w : World) (hr : okReg r = true) :
    Calls Tryz.prog 73 #[.agg (regA r)] w fun e w' => e = .returned (.tuple #[.agg (regA (doneR (tightO r)).1), .int .i64 (doneR (tightO r)).2]) ∧ Below w.heap.size w w' := by
  have hst : ∀ (a : Addr) (fn : Fn) (b c : Array Value) (m : Mode) (w : World), (store a (.func fn b c) m).run Tryz.prog w = stored Tryz.prog w a (.func fn b c) m := fun _ _ _ _ _ _ => run_store _ _ _ _ _ rfl
  have hend := fun W => ends_any r W
  simp only [regA] at hend
  have hhull := fun A c gf b off W h1 h2 h3 => hull_any r A c gf b off W hr h1 h2 h3
  cases ht : tightO r with
  | none =>
    rw [ht] at hhull
    simp only [optR, Option.getD_none, Option.getD_some, Option.isSome_none, Option.isSome_some] at hhull
    simp only [doneR]
    simp only [regA] at hhull ⊢
    replace hhull := Lib.hid hhull
    clear ht
    go_enter Tryz.func73, Tryz.ntmps73
    go_wp2_with fail
    refine (hend _).mono ?_
    clear hend
    rintro e w1 ⟨rfl, rfl⟩
    go_wp2_with fail
    have k2 := (((Blk.newAt (w := w.alloc (.cells #[.int .i64 r.x.lo, .int .i64 r.x.hi, .int .i64 r.y.lo, .int .i64 r.y.hi, .int .i64 r.s.lo, .int .i64 r.s.hi, .int .i64 r.d.lo, .int .i64 r.d.hi] 134)) (g := w.heap.size + 1) (t := 134) (cs := #[.int .i64 0, .int .i64 0, .int .i64 0, .int .i64 0, .int .i64 0, .int .i64 0, .int .i64 0, .int .i64 0]) (by simp)).alloc (.cells #[.int .i64 r.x.lo, .int .i64 r.x.hi, .int .i64 r.y.lo, .int .i64 r.y.hi, .int .i64 r.s.lo, .int .i64 r.s.hi, .int .i64 r.d.lo, .int .i64 r.d.hi] 134)).alloc (.cells #[.func (.func 100) #[] #[.pointer (some ⟨w.heap.size + 1 + 1, 0, none⟩)]] 154))
    have b0 : Below w.heap.size w ((((w.alloc (.cells #[.int .i64 r.x.lo, .int .i64 r.x.hi, .int .i64 r.y.lo, .int .i64 r.y.hi, .int .i64 r.s.lo, .int .i64 r.s.hi, .int .i64 r.d.lo, .int .i64 r.d.hi] 134)).alloc (.cells #[.int .i64 0, .int .i64 0, .int .i64 0, .int .i64 0, .int .i64 0, .int .i64 0, .int .i64 0, .int .i64 0] 134)).alloc (.cells #[.int .i64 r.x.lo, .int .i64 r.x.hi, .int .i64 r.y.lo, .int .i64 r.y.hi, .int .i64 r.s.lo, .int .i64 r.s.hi, .int .i64 r.d.lo, .int .i64 r.d.hi] 134)).alloc (.cells #[.func (.func 100) #[] #[.pointer (some ⟨w.heap.size + 1 + 1, 0, none⟩)]] 154)) :=
      ((((Below.refl _ _).alloc (Nat.le_refl _) _).alloc (by simp) _).alloc (by simp; omega) _).alloc (by simp; omega) _
    have k3 : Blk ((((w.alloc (.cells #[.int .i64 r.x.lo, .int .i64 r.x.hi, .int .i64 r.y.lo, .int .i64 r.y.hi, .int .i64 r.s.lo, .int .i64 r.s.hi, .int .i64 r.d.lo, .int .i64 r.d.hi] 134)).alloc (.cells #[.int .i64 0, .int .i64 0, .int .i64 0, .int .i64 0, .int .i64 0, .int .i64 0, .int .i64 0, .int .i64 0] 134)).alloc (.cells #[.int .i64 r.x.lo, .int .i64 r.x.hi, .int .i64 r.y.lo, .int .i64 r.y.hi, .int .i64 r.s.lo, .int .i64 r.s.hi, .int .i64 r.d.lo, .int .i64 r.d.hi] 134)).alloc (.cells #[.func (.func 100) #[] #[.pointer (some ⟨w.heap.size + 1 + 1, 0, none⟩)]] 154)) (w.heap.size + 1 + 1 + 1) 154 #[.func (.func 100) #[] #[.pointer (some ⟨w.heap.size + 1 + 1, 0, none⟩)]] := Blk.newAt (by simp)
    refine (hhull.out _ 1 (w.heap.size + 1 + 1) (w.heap.size + 1 + 1 + 1) 0 _ rfl (k3.cell 0) ((Blk.newAt (by simp)).alloc _)).mono ?_
    rintro e w2 ⟨rfl, hb2⟩
    replace k2 := k2.below hb2
    replace b0 := b0.trans (hb2.mono b0.size)
    clear k3 hb2 hhull
    have k4 := Blk.new w2 134 #[.int .i64 noReg.x.lo, .int .i64 noReg.x.hi, .int .i64 noReg.y.lo, .int .i64 noReg.y.hi, .int .i64 noReg.s.lo, .int .i64 noReg.s.hi, .int .i64 noReg.d.lo, .int .i64 noReg.d.hi]
    have kz := (k2.set8 (.int .i64 noReg.x.lo) (.int .i64 noReg.x.hi) (.int .i64 noReg.y.lo) (.int .i64 noReg.y.hi) (.int .i64 noReg.s.lo) (.int .i64 noReg.s.hi) (.int .i64 noReg.d.lo) (.int .i64 noReg.d.hi)).alloc (.cells #[.int .i64 noReg.x.lo, .int .i64 noReg.x.hi, .int .i64 noReg.y.lo, .int .i64 noReg.y.hi, .int .i64 noReg.s.lo, .int .i64 noReg.s.hi, .int .i64 noReg.d.lo, .int .i64 noReg.d.hi] 134)
    have bz0 := below_set8 (g := w.heap.size + 1) b0 (by omega) (.int .i64 noReg.x.lo) (.int .i64 noReg.x.hi) (.int .i64 noReg.y.lo) (.int .i64 noReg.y.hi) (.int .i64 noReg.s.lo) (.int .i64 noReg.s.hi) (.int .i64 noReg.d.lo) (.int .i64 noReg.d.hi)
    have bz := bz0.alloc bz0.size (.cells #[.int .i64 noReg.x.lo, .int .i64 noReg.x.hi, .int .i64 noReg.y.lo, .int .i64 noReg.y.hi, .int .i64 noReg.s.lo, .int .i64 noReg.s.hi, .int .i64 noReg.d.lo, .int .i64 noReg.d.hi] 134)
    obtain ⟨wz, hwz⟩ : ∃ x, x = (set8 w2 (w.heap.size + 1) (.int .i64 noReg.x.lo) (.int .i64 noReg.x.hi) (.int .i64 noReg.y.lo) (.int .i64 noReg.y.hi) (.int .i64 noReg.s.lo) (.int .i64 noReg.s.hi) (.int .i64 noReg.d.lo) (.int .i64 noReg.d.hi)).alloc (.cells #[.int .i64 noReg.x.lo, .int .i64 noReg.x.hi, .int .i64 noReg.y.lo, .int .i64 noReg.y.hi, .int .i64 noReg.s.lo, .int .i64 noReg.s.hi, .int .i64 noReg.d.lo, .int .i64 noReg.d.hi] 134) := ⟨_, rfl⟩
    rw [← hwz] at kz bz
    simp only [set8, noReg] at hwz
    try simp only [noReg] at k4
    obtain ⟨c2, f2, l2⟩ := k2.rules
    obtain ⟨c4, f4, l4⟩ := k4.rules
    clear k4 k2 b0 bz0
    go_wp2
    try simp only [noReg]
    rw [← hwz]
    clear hwz c2 f2 l2 c4 f4 l4
    obtain ⟨c2, f2, l2⟩ := kz.rules
    exact bodyPost_ret (v := .tuple #[.agg #[.int .i64 noReg.x.lo, .int .i64 noReg.x.hi, .int .i64 noReg.y.lo, .int .i64 noReg.y.hi, .int .i64 noReg.s.lo, .int .i64 noReg.s.hi, .int .i64 noReg.d.lo, .int .i64 noReg.d.hi], .int .i64 4]) (by simp [results, Tryz.results73, go_sem, c2, noReg]) rfl ⟨rfl, bz⟩
  | some R =>
    rw [ht] at hhull
    simp only [optR, Option.getD_none, Option.getD_some, Option.isSome_none, Option.isSome_some] at hhull
    simp only [doneR]
    simp only [regA] at hhull ⊢
    replace hhull := Lib.hid hhull
    clear ht
    go_enter Tryz.func73, Tryz.ntmps73
    go_wp2_with fail
    refine (hend _).mono ?_
    clear hend
    rintro e w1 ⟨rfl, rfl⟩
    go_wp2_with fail
    have k2 := (((Blk.newAt (w := w.alloc (.cells #[.int .i64 r.x.lo, .int .i64 r.x.hi, .int .i64 r.y.lo, .int .i64 r.y.hi, .int .i64 r.s.lo, .int .i64 r.s.hi, .int .i64 r.d.lo, .int .i64 r.d.hi] 134)) (g := w.heap.size + 1) (t := 134) (cs := #[.int .i64 0, .int .i64 0, .int .i64 0, .int .i64 0, .int .i64 0, .int .i64 0, .int .i64 0, .int .i64 0]) (by simp)).alloc (.cells #[.int .i64 r.x.lo, .int .i64 r.x.hi, .int .i64 r.y.lo, .int .i64 r.y.hi, .int .i64 r.s.lo, .int .i64 r.s.hi, .int .i64 r.d.lo, .int .i64 r.d.hi] 134)).alloc (.cells #[.func (.func 100) #[] #[.pointer (some ⟨w.heap.size + 1 + 1, 0, none⟩)]] 154))
    have b0 : Below w.heap.size w ((((w.alloc (.cells #[.int .i64 r.x.lo, .int .i64 r.x.hi, .int .i64 r.y.lo, .int .i64 r.y.hi, .int .i64 r.s.lo, .int .i64 r.s.hi, .int .i64 r.d.lo, .int .i64 r.d.hi] 134)).alloc (.cells #[.int .i64 0, .int .i64 0, .int .i64 0, .int .i64 0, .int .i64 0, .int .i64 0, .int .i64 0, .int .i64 0] 134)).alloc (.cells #[.int .i64 r.x.lo, .int .i64 r.x.hi, .int .i64 r.y.lo, .int .i64 r.y.hi, .int .i64 r.s.lo, .int .i64 r.s.hi, .int .i64 r.d.lo, .int .i64 r.d.hi] 134)).alloc (.cells #[.func (.func 100) #[] #[.pointer (some ⟨w.heap.size + 1 + 1, 0, none⟩)]] 154)) :=
      ((((Below.refl _ _).alloc (Nat.le_refl _) _).alloc (by simp) _).alloc (by simp; omega) _).alloc (by simp; omega) _
    have k3 : Blk ((((w.alloc (.cells #[.int .i64 r.x.lo, .int .i64 r.x.hi, .int .i64 r.y.lo, .int .i64 r.y.hi, .int .i64 r.s.lo, .int .i64 r.s.hi, .int .i64 r.d.lo, .int .i64 r.d.hi] 134)).alloc (.cells #[.int .i64 0, .int .i64 0, .int .i64 0, .int .i64 0, .int .i64 0, .int .i64 0, .int .i64 0, .int .i64 0] 134)).alloc (.cells #[.int .i64 r.x.lo, .int .i64 r.x.hi, .int .i64 r.y.lo, .int .i64 r.y.hi, .int .i64 r.s.lo, .int .i64 r.s.hi, .int .i64 r.d.lo, .int .i64 r.d.hi] 134)).alloc (.cells #[.func (.func 100) #[] #[.pointer (some ⟨w.heap.size + 1 + 1, 0, none⟩)]] 154)) (w.heap.size + 1 + 1 + 1) 154 #[.func (.func 100) #[] #[.pointer (some ⟨w.heap.size + 1 + 1, 0, none⟩)]] := Blk.newAt (by simp)
    refine (hhull.out _ 1 (w.heap.size + 1 + 1) (w.heap.size + 1 + 1 + 1) 0 _ rfl (k3.cell 0) ((Blk.newAt (by simp)).alloc _)).mono ?_
    rintro e w2 ⟨rfl, hb2⟩
    replace k2 := k2.below hb2
    replace b0 := b0.trans (hb2.mono b0.size)
    clear k3 hb2 hhull
    have k4 := Blk.new w2 134 #[.int .i64 R.x.lo, .int .i64 R.x.hi, .int .i64 R.y.lo, .int .i64 R.y.hi, .int .i64 R.s.lo, .int .i64 R.s.hi, .int .i64 R.d.lo, .int .i64 R.d.hi]
    have kz := (k2.set8 (.int .i64 R.x.lo) (.int .i64 R.x.hi) (.int .i64 R.y.lo) (.int .i64 R.y.hi) (.int .i64 R.s.lo) (.int .i64 R.s.hi) (.int .i64 R.d.lo) (.int .i64 R.d.hi)).alloc (.cells #[.int .i64 R.x.lo, .int .i64 R.x.hi, .int .i64 R.y.lo, .int .i64 R.y.hi, .int .i64 R.s.lo, .int .i64 R.s.hi, .int .i64 R.d.lo, .int .i64 R.d.hi] 134)
    have bz0 := below_set8 (g := w.heap.size + 1) b0 (by omega) (.int .i64 R.x.lo) (.int .i64 R.x.hi) (.int .i64 R.y.lo) (.int .i64 R.y.hi) (.int .i64 R.s.lo) (.int .i64 R.s.hi) (.int .i64 R.d.lo) (.int .i64 R.d.hi)
    have bz := bz0.alloc bz0.size (.cells #[.int .i64 R.x.lo, .int .i64 R.x.hi, .int .i64 R.y.lo, .int .i64 R.y.hi, .int .i64 R.s.lo, .int .i64 R.s.hi, .int .i64 R.d.lo, .int .i64 R.d.hi] 134)
    obtain ⟨wz, hwz⟩ : ∃ x, x = (set8 w2 (w.heap.size + 1) (.int .i64 R.x.lo) (.int .i64 R.x.hi) (.int .i64 R.y.lo) (.int .i64 R.y.hi) (.int .i64 R.s.lo) (.int .i64 R.s.hi) (.int .i64 R.d.lo) (.int .i64 R.d.hi)).alloc (.cells #[.int .i64 R.x.lo, .int .i64 R.x.hi, .int .i64 R.y.lo, .int .i64 R.y.hi, .int .i64 R.s.lo, .int .i64 R.s.hi, .int .i64 R.d.lo, .int .i64 R.d.hi] 134) := ⟨_, rfl⟩
    rw [← hwz] at kz bz
    simp only [set8, noReg] at hwz
    try simp only [noReg] at k4
    obtain ⟨c2, f2, l2⟩ := k2.rules
    obtain ⟨c4, f4, l4⟩ := k4.rules
    clear k4 k2 b0 bz0
    go_wp2
    try simp only [noReg]
    rw [← hwz]
    clear hwz c2 f2 l2 c4 f4 l4
    obtain ⟨c2, f2, l2⟩ := kz.rules
    exact bodyPost_ret (v := .tuple #[.agg #[.int .i64 R.x.lo, .int .i64 R.x.hi, .int .i64 R.y.lo, .int .i64 R.y.hi, .int .i64 R.s.lo, .int .i64 R.s.hi, .int .i64 R.d.lo, .int .i64 R.d.hi], .int .i64 0]) (by simp [results, Tryz.results73, go_sem, c2, noReg]) rfl ⟨rfl, bz⟩
set_option maxRecDepth 100000 in
set_option maxHeartbeats 1000000 in
theorem Tight_any (r : Reg) (w : World) :
    Calls Tryz.prog 43 #[.agg (regA r)] w fun e w' => e = .returned (.tuple #[.agg (regA (tightR r).1), .int .i64 (tightR r).2]) ∧ Below w.heap.size w w' := by
  have hchk := fun W => rCheck_any r W
  by_cases hr : okReg r = true
  · have hv : tightR r = doneR (tightO r) := by simp [tightR, hr]
    have hk : chkReg r = 0 := by simp [chkReg, hr]
    have hti := fun W => tight_any r W hr
    have hbo := fun W => rbounds_any r W
    rw [hv]
    simp only [hk] at hchk
    clear hv hk hr
    obtain ⟨R, hR⟩ : ∃ R, doneR (tightO r) = R := ⟨_, rfl⟩
    have hde : (if R.2 = 0 then R.1 else noReg) = R.1 := by subst hR; cases tightO r <;> rfl
    rw [hR]
    simp only [hR] at hti
    obtain ⟨R, er⟩ := R
    clear hR
    simp only [regA] at hchk hti hbo ⊢
    have hdo := fun W => done_any R er W
    simp only [hde, regA] at hdo
    clear hde
    go_enter Tryz.func43, Tryz.ntmps43
    go_wp2_with fail
    refine (hchk _).mono ?_
    rintro e w1 ⟨rfl, hb1⟩
    have k1 := ((Blk.new w 58 #[.int .i64 r.x.lo, .int .i64 r.x.hi, .int .i64 r.y.lo, .int .i64 r.y.hi, .int .i64 r.s.lo, .int .i64 r.s.hi, .int .i64 r.d.lo, .int .i64 r.d.hi]).alloc (.cells #[.int .i64 0, .int .i64 0, .int .i64 0, .int .i64 0, .int .i64 0, .int .i64 0, .int .i64 0, .int .i64 0] 58)).below hb1
    have k2 := (Blk.new (w.alloc (.cells #[.int .i64 r.x.lo, .int .i64 r.x.hi, .int .i64 r.y.lo, .int .i64 r.y.hi, .int .i64 r.s.lo, .int .i64 r.s.hi, .int .i64 r.d.lo, .int .i64 r.d.hi] 58)) 58 #[.int .i64 0, .int .i64 0, .int .i64 0, .int .i64 0, .int .i64 0, .int .i64 0, .int .i64 0, .int .i64 0]).below hb1
    rw [World.size_alloc] at k2
    have b0 := (((Below.refl w.heap.size w).alloc (Nat.le_refl _) _).alloc (by simp) _).trans (hb1.mono (by simp; omega))
    clear hb1 hchk
    obtain ⟨c1, f1, l1⟩ := k1.rules
    go_wp2_with fail
    refine (hbo _).mono ?_
    rintro e w2 ⟨rfl, hb2⟩
    replace k2 := k2.below hb2
    replace b0 := b0.trans (hb2.mono b0.size)
    clear c1 f1 l1 k1 hb2 hbo
    go_wp2_with fail
    refine (hti _).mono ?_
    rintro e w3 ⟨rfl, hb2⟩
    replace k2 := k2.below hb2
    replace b0 := b0.trans (hb2.mono b0.size)
    clear hb2 hti
    go_wp2_with fail
    refine (hdo _).mono ?_
    rintro e w4 ⟨rfl, hb2⟩
    replace k2 := k2.below hb2
    replace b0 := b0.trans (hb2.mono b0.size)
    clear hb2 hdo
    have kz := k2.set8 (.int .i64 R.x.lo) (.int .i64 R.x.hi) (.int .i64 R.y.lo) (.int .i64 R.y.hi) (.int .i64 R.s.lo) (.int .i64 R.s.hi) (.int .i64 R.d.lo) (.int .i64 R.d.hi)
    have bz := below_set8 (g := w.heap.size + 1) b0 (by omega) (.int .i64 R.x.lo) (.int .i64 R.x.hi) (.int .i64 R.y.lo) (.int .i64 R.y.hi) (.int .i64 R.s.lo) (.int .i64 R.s.hi) (.int .i64 R.d.lo) (.int .i64 R.d.hi)
    obtain ⟨wz, hwz⟩ : ∃ x, x = set8 w4 (w.heap.size + 1) (.int .i64 R.x.lo) (.int .i64 R.x.hi) (.int .i64 R.y.lo) (.int .i64 R.y.hi) (.int .i64 R.s.lo) (.int .i64 R.s.hi) (.int .i64 R.d.lo) (.int .i64 R.d.hi) := ⟨_, rfl⟩
    rw [← hwz] at kz bz
    simp only [set8] at hwz
    obtain ⟨c2, f2, l2⟩ := k2.rules
    clear k2 b0
    go_wp2
    rw [← hwz]
    clear hwz c2 f2 l2
    obtain ⟨c2, f2, l2⟩ := kz.rules
    exact bodyPost_ret (v := .tuple #[.agg #[.int .i64 R.x.lo, .int .i64 R.x.hi, .int .i64 R.y.lo, .int .i64 R.y.hi, .int .i64 R.s.lo, .int .i64 R.s.hi, .int .i64 R.d.lo, .int .i64 R.d.hi], .int .i64 er]) (by simp [results, Tryz.results43, go_sem, c2]) rfl ⟨rfl, bz⟩
  · have hv : tightR r = (noReg, 11) := by simp [tightR, hr]
    have hk : chkReg r = 11 := by simp [chkReg, hr]
    rw [hv]
    simp only [hk] at hchk
    simp only [regA, noReg] at hchk ⊢
    clear hv hk hr
    go_enter Tryz.func43, Tryz.ntmps43
    go_wp2_with fail
    refine (hchk _).mono ?_
    rintro e w1 ⟨rfl, hb1⟩
    have k2 := (Blk.new (w.alloc (.cells #[.int .i64 r.x.lo, .int .i64 r.x.hi, .int .i64 r.y.lo, .int .i64 r.y.hi, .int .i64 r.s.lo, .int .i64 r.s.hi, .int .i64 r.d.lo, .int .i64 r.d.hi] 58)) 58 #[.int .i64 0, .int .i64 0, .int .i64 0, .int .i64 0, .int .i64 0, .int .i64 0, .int .i64 0, .int .i64 0]).below hb1
    rw [World.size_alloc] at k2
    have b0 := (((Below.refl w.heap.size w).alloc (Nat.le_refl _) _).alloc (by simp) _).trans (hb1.mono (by simp; omega))
    clear hb1 hchk
    have kz := k2.set8 (.int .i64 noReg.x.lo) (.int .i64 noReg.x.hi) (.int .i64 noReg.y.lo) (.int .i64 noReg.y.hi) (.int .i64 noReg.s.lo) (.int .i64 noReg.s.hi) (.int .i64 noReg.d.lo) (.int .i64 noReg.d.hi)
    have bz := below_set8 (g := w.heap.size + 1) b0 (by omega) (.int .i64 noReg.x.lo) (.int .i64 noReg.x.hi) (.int .i64 noReg.y.lo) (.int .i64 noReg.y.hi) (.int .i64 noReg.s.lo) (.int .i64 noReg.s.hi) (.int .i64 noReg.d.lo) (.int .i64 noReg.d.hi)
    simp only [noReg] at kz bz
    obtain ⟨wz, hwz⟩ : ∃ x, x = set8 w1 (w.heap.size + 1) (.int .i64 0) (.int .i64 0) (.int .i64 0) (.int .i64 0) (.int .i64 0) (.int .i64 0) (.int .i64 0) (.int .i64 0)  := ⟨_, rfl⟩
    rw [← hwz] at kz bz
    simp only [set8] at hwz
    obtain ⟨c2, f2, l2⟩ := k2.rules
    clear k2 b0
    go_wp2
    rw [← hwz]
    clear hwz c2 f2 l2
    obtain ⟨c2, f2, l2⟩ := kz.rules
    exact bodyPost_ret (v := .tuple #[.agg #[.int .i64 0, .int .i64 0, .int .i64 0, .int .i64 0, .int .i64 0, .int .i64 0, .int .i64 0, .int .i64 0], .int .i64 11]) (by simp [results, Tryz.results43, go_sem, c2]) rfl ⟨rfl, bz⟩
end Go.Proofs.YthjdjpcomocffaaGreat
