/-
  The hull over the ends of two regions; Join.
-/
import Derived.Test.YtcmbmmpihiekhaaGreatTG
import Derived.Test.YtcmbmmpihiekhaaGreatTM
set_option maxRecDepth 100000
set_option maxHeartbeats 16000000
set_option linter.unusedSimpArgs false
set_option linter.unusedVariables false
namespace Go.Proofs.YtcmbmmpihiekhaaGreat
open Go.RowKit Go.Shelf
attribute [local go_sem] Oper.semAt_some

def hullQ (pre : List Pnt) (r : Reg) (k : Nat) : Option Reg := hullL (pre ++ (ptsL r).take k)
theorem hullQ_succ {pre : List Pnt} {r : Reg} {k : Nat} {p : Pnt} (h : (ptsL r)[k]? = some p) : hullQ pre r (k + 1) = addP (hullQ pre r k) p := by
  unfold hullQ hullL
  rw [List.take_add_one, h, ← List.append_assoc, List.foldl_append]
  simp
theorem hullQ_zero (pre : List Pnt) (r : Reg) : hullQ pre r 0 = hullL pre := by unfold hullQ; simp
theorem hullQ_all (pre : List Pnt) (r : Reg) : hullQ pre r (ptsL r).length = hullL (pre ++ ptsL r) := by unfold hullQ; rw [List.take_length]
theorem hullQ_mid {pre : List Pnt} {r : Reg} (hp : ∀ p ∈ pre, midP p) (hr : okReg r = true) (k : Nat) : midR (optR (hullQ pre r k)) := by
  cases h : hullQ pre r k with
  | none => simp [optR, midR, midB, noReg]
  | some g =>
    refine foldl_addP_mid _ none (fun p hm => ?_) (fun _ e => by cases e) g h
    rcases List.mem_append.1 hm with hm | hm
    · exact hp p hm
    · have := ptsL_mid hr (List.mem_of_mem_take hm)
      unfold midP
      omega
def EK (Ds : List Nat) (lo hi : Nat) (A : World) : Prop := ∀ D ∈ Ds, lo ≤ D ∧ D < hi ∧ A.heap[D]? = some (.deferred (some []))
theorem EK.below {Ds : List Nat} {lo hi : Nat} {A B : World} (h : EK Ds lo hi A) (hb : Below A.heap.size A B) : EK Ds lo hi B := fun D hD => ⟨(h D hD).1, (h D hD).2.1, (hb.block D (Array.getElem?_eq_some_iff.1 (h D hD).2.2).1).trans (h D hD).2.2⟩
theorem EK.calm {Ds : List Nat} {lo hi B0 : Nat} {A B : World} (h : EK Ds lo hi A) (hc : Calm B0 A B) (hB : hi ≤ B0) : EK Ds lo hi B := fun D hD => ⟨(h D hD).1, (h D hD).2.1, (hc.1.block D (by have := (h D hD).2.1; omega)).trans (h D hD).2.2⟩
theorem EK.setc {Ds : List Nat} {lo hi : Nat} {A : World} (h : EK Ds lo hi A) {p : Addr} (hp : p.block < lo) (v : Value) : EK Ds lo hi (A.setCell p v) := fun D hD => ⟨(h D hD).1, (h D hD).2.1, (Below.heap_setCell A p v D (by have := (h D hD).1; omega)).trans (h D hD).2.2⟩
theorem EK.set8 {Ds : List Nat} {lo hi : Nat} {A : World} (h : EK Ds lo hi A) {g : Nat} (hp : g < lo) (v0 v1 v2 v3 v4 v5 v6 v7 : Value) : EK Ds lo hi (Go.Proofs.YtcmbmmpihiekhaaGreat.set8 A g v0 v1 v2 v3 v4 v5 v6 v7) := fun D hD => ⟨(h D hD).1, (h D hD).2.1, (heap_set8 A (by have := (h D hD).1; omega) v0 v1 v2 v3 v4 v5 v6 v7).trans (h D hD).2.2⟩
def HullJ (Ds : List Nat) (hi : Nat) (pre : List Pnt) (r : Reg) (w : World) (k : Nat) (A : World) : Prop :=
  Blk A w.heap.size 173 (regA (optR (hullQ pre r k))) ∧ Blk A (w.heap.size + 1) 4 #[.bool (hullQ pre r k).isSome] ∧ Below w.heap.size w A ∧ EK Ds (w.heap.size + 2) hi A
theorem HullJ.calm {Ds : List Nat} {hi : Nat} {pre : List Pnt} {r : Reg} {w A B : World} {k B0 : Nat} (h : HullJ Ds hi pre r w k A) (hc : Calm B0 A B) (hB : w.heap.size ≤ B0) (hh : hi ≤ B0) : HullJ Ds hi pre r w k B := ⟨calm_blk hc h.1, calm_blk hc h.2.1, calm_below hc h.2.2.1 hB, h.2.2.2.calm hc hh⟩
theorem hull2_any (r1 r2 : Reg) (c gf1 gf2 b : Nat) (w : World) (hr : okReg r1 = true) (hr2 : okReg r2 = true) (hc : w.cell? ⟨b, 0, none⟩ = some (.func (.func 130) #[] #[.pointer (some ⟨gf1, 0, none⟩)])) (hc2 : w.cell? ⟨b, 1, none⟩ = some (.func (.func 130) #[] #[.pointer (some ⟨gf2, 0, none⟩)])) (hL : FourL r1 gf1 w) (hL2 : FourL r2 gf2 w) :
    Calls Tryz.prog 149 #[.slice (some ⟨b, 0, none⟩) 2 c] w fun e w' => e = .returned (.tuple #[.agg (regA (optR (hullL (ptsL r1 ++ ptsL r2)))), .bool (hullL (ptsL r1 ++ ptsL r2)).isSome]) ∧ Below w.heap.size w w' := by
  have hmid1 := Lib.hid (hullQ_mid (pre := []) (fun p h => by cases h) hr)
  have hmid2 := Lib.hid (hullQ_mid (pre := ptsL r1) (fun p h => by have := ptsL_mid hr h; unfold midP; omega) hr2)
  have hpt1 := Lib.hid (fun (p : Pnt) (hp : p ∈ ptsL r1) => ptsL_mid hr hp)
  have hpt2 := Lib.hid (fun (p : Pnt) (hp : p ∈ ptsL r2) => ptsL_mid hr2 hp)
  have hrm1 := okReg_mid hr
  have hrm2 := okReg_mid hr2
  replace hr := Lib.hid hr
  replace hr2 := Lib.hid hr2
  have hbl := World.block_lt_of_cell? _ _ hc
  have hgf1 : gf1 < w.heap.size := Blk.lt hL
  have hgf2 : gf2 < w.heap.size := Blk.lt hL2
  refine (callsIn_wide (n := 9)).1 ?_
  refine callsIn_of_wp_marks Tryz.func149 rfl trivial ?_ rfl
  simp only [Tryz.ntmps149, List.size_toArray, List.length_cons, List.length_nil, Nat.reduceAdd, Nat.reduceSub, Array.replicate_succ, Array.replicate_zero, List.push_toArray, List.append_toArray, List.nil_append, List.cons_append]
  refine wpIn_wide.2 ?_
  go_wp2_with fail
  refine wp_loop_rounds 3 ?_
  rw [rounds_succ]
  obtain ⟨W0, hW0⟩ : ∃ W0, W0 = (w.alloc (.cells #[.int .i64 0, .int .i64 0, .int .i64 0, .int .i64 0, .int .i64 0, .int .i64 0, .int .i64 0, .int .i64 0] 173)).alloc (.cells #[.bool false] 4) := ⟨_, rfl⟩
  rw [← hW0]
  have hI0 : HullJ [] 0 [] r1 w 0 W0 := by rw [hW0]; exact ⟨(Blk.newAt rfl).alloc _, Blk.newAt (by simp), ((Below.refl _ _).alloc (Nat.le_refl _) _).alloc (by simp) _, fun D h => by cases h⟩
  have hL0 : FourL r1 gf1 W0 := by rw [hW0]; exact (Blk.alloc hL _).alloc _
  have hc0 : W0.cell? ⟨b, 0, none⟩ = some (.func (.func 130) #[] #[.pointer (some ⟨gf1, 0, none⟩)]) := (hI0.2.2.1.cell hbl).trans hc
  have hsz : W0.heap.size = w.heap.size + 2 := by rw [hW0]; simp
  clear hW0 hc
  go_wp2_with fail
  refine (wpIn_wide (n := 9)).1 ?_
  refine wp_range rfl (by decide) (gf := 130) (lb := #[.pointer (some ⟨gf1, 0, none⟩)]) rfl trivial eg_ends1
    (ends1_iter _ r1 gf1 (by decide) hrm1) (fun k vs W ⟨_, _, e⟩ => by rw [e]; rfl)
    (HullJ [] 0 [] r1 w) (fun _ _ => False) (fun k A B h hc => h.calm hc (by omega) (by omega)) (fun _ _ _ h _ => h) (fun A B h hc => calm_blk hc h) hI0 hL0 ?round ?done ?stop
  case stop => exact fun _ _ _ _ h _ => h.elim
  case done =>
    rintro D1 W1 hD1 hI1 hK1
    have hD1l : D1 < W1.heap.size := (Array.getElem?_eq_some_iff.1 hK1).1
    have hs1 : W0.heap.size ≤ W1.heap.size := by omega
    have hc1 : W1.cell? ⟨b, 1, none⟩ = some (.func (.func 130) #[] #[.pointer (some ⟨gf2, 0, none⟩)]) := (hI1.2.2.1.cell hbl).trans hc2
    have hLs : FourL r2 gf2 W1 := Blk.belowB hL2 hI1.2.2.1 hgf2
    have hI2 : HullJ [D1] W1.heap.size (ptsL r1) r2 w 0 W1 := by
      obtain ⟨q1, q2, q3, -⟩ := hI1
      rw [hullQ_all, List.nil_append, ← hullQ_zero _ r2] at q1 q2
      exact ⟨q1, q2, q3, fun D h => by simp only [List.mem_singleton] at h; subst h; exact ⟨by omega, hD1l, hK1⟩⟩
    clear hI1 hK1 hI0 hL0 hc0 hL hL2 hc2
    go_wp2_with fail
    rw [rounds_succ]
    go_wp2_with fail
    refine (wpIn_wide (n := 9)).1 ?_
    refine wp_range rfl (by decide) (gf := 130) (lb := #[.pointer (some ⟨gf2, 0, none⟩)]) rfl trivial eg_ends1
      (ends1_iter _ r2 gf2 (by decide) hrm2) (fun k vs W ⟨_, _, e⟩ => by rw [e]; rfl)
      (HullJ [D1] W1.heap.size (ptsL r1) r2 w) (fun _ _ => False) (fun k A B h hc => h.calm hc (by omega) (by omega)) (fun _ _ _ h _ => h) (fun A B h hc => calm_blk hc h) hI2 hLs ?round2 ?done2 ?stop2
    case stop2 => exact fun _ _ _ _ h _ => h.elim
    case done2 =>
      rintro D W hD ⟨k1, k2, hb, hE⟩ hK
      rw [hullQ_all] at k1 k2
      obtain ⟨-, -, hE1⟩ := hE D1 (List.mem_singleton.2 rfl)
      clear hE
      obtain ⟨R, hR⟩ : ∃ R, optR (hullL (ptsL r1 ++ ptsL r2)) = R := ⟨_, rfl⟩
      obtain ⟨S, hS⟩ : ∃ S, (hullL (ptsL r1 ++ ptsL r2)).isSome = S := ⟨_, rfl⟩
      rw [hR] at k1
      rw [hS] at k2
      replace hR := Lib.hid hR
      replace hS := Lib.hid hS
      simp only [regA] at k1
      obtain ⟨c1, f1, l1⟩ := k1.rules
      obtain ⟨c2, f2, l2⟩ := k2.rules
      go_wp2_with fail
      rw [rounds_succ]
      go_wp2_with fail
      refine wp_held_np ((fun w' : World => (∀ j, w'.cell? ⟨w.heap.size, j, none⟩ = #[Value.int .i64 R.x.lo, .int .i64 R.x.hi, .int .i64 R.y.lo, .int .i64 R.y.hi, .int .i64 R.s.lo, .int .i64 R.s.hi, .int .i64 R.d.lo, .int .i64 R.d.hi][j]?) ∧ (∀ j, w'.cell? ⟨w.heap.size + 1, j, none⟩ = #[Value.bool S][j]?))) (by kernel_rfl) ?_
      have k1d := k1.drew
      have k2d := k2.drew
      have hKd : W.drew.heap[D]? = some (.deferred (some [])) := hK
      have hEd : W.drew.heap[D1]? = some (.deferred (some [])) := hE1
      replace hb := hb.drew
      clear k1 k2 hK hE1 c1 f1 l1 c2 f2 l2
      generalize W.drew = Wd at *
      have hSd : (fun w' : World => (∀ j, w'.cell? ⟨w.heap.size, j, none⟩ = #[Value.int .i64 R.x.lo, .int .i64 R.x.hi, .int .i64 R.y.lo, .int .i64 R.y.hi, .int .i64 R.s.lo, .int .i64 R.s.hi, .int .i64 R.d.lo, .int .i64 R.d.hi][j]?) ∧ (∀ j, w'.cell? ⟨w.heap.size + 1, j, none⟩ = #[Value.bool S][j]?)) Wd := ⟨k1d.cell, k2d.cell⟩
      refine held_take (i := 0) (v := ?_) 24 rfl rfl (by kernel_rfl) (by kernel_rfl) (by kernel_rfl) (fun _ _ _ h => h) (Or.inl ⟨by rfl, ?_⟩) hSd ?_
      rotate_left 1
      · intro w' hSw
        try dsimp only at hSw
        obtain ⟨q1, q2⟩ := hSw
        go_simp
        all_goals with_reducible rfl
      try simp only [Act.put, sA, sZ, sS]
      refine held_take (i := 1) (v := ?_) 25 rfl rfl (by kernel_rfl) (by kernel_rfl) (by kernel_rfl) (fun _ _ _ h => h) (Or.inl ⟨by rfl, ?_⟩) hSd ?_
      rotate_left 1
      · intro w' hSw
        try dsimp only at hSw
        obtain ⟨q1, q2⟩ := hSw
        go_simp
        all_goals with_reducible rfl
      try simp only [Act.put, sA, sZ, sS]
      clear hSd
      have k1z := k1d.set8 (.int .i64 R.x.lo) (.int .i64 R.x.hi) (.int .i64 R.y.lo) (.int .i64 R.y.hi) (.int .i64 R.s.lo) (.int .i64 R.s.hi) (.int .i64 R.d.lo) (.int .i64 R.d.hi)
      have k2z := far_set8 k2d (g := w.heap.size) (by omega) (.int .i64 R.x.lo) (.int .i64 R.x.hi) (.int .i64 R.y.lo) (.int .i64 R.y.hi) (.int .i64 R.s.lo) (.int .i64 R.s.hi) (.int .i64 R.d.lo) (.int .i64 R.d.hi)
      have hbz := below_set8 (g := w.heap.size) hb (Nat.le_refl _) (.int .i64 R.x.lo) (.int .i64 R.x.hi) (.int .i64 R.y.lo) (.int .i64 R.y.hi) (.int .i64 R.s.lo) (.int .i64 R.s.hi) (.int .i64 R.d.lo) (.int .i64 R.d.hi)
      have hKz : (set8 Wd w.heap.size (.int .i64 R.x.lo) (.int .i64 R.x.hi) (.int .i64 R.y.lo) (.int .i64 R.y.hi) (.int .i64 R.s.lo) (.int .i64 R.s.hi) (.int .i64 R.d.lo) (.int .i64 R.d.hi)).heap[D]? = some (.deferred (some [])) := (heap_set8 _ (by omega) _ _ _ _ _ _ _ _).trans hKd
      have hEz : (set8 Wd w.heap.size (.int .i64 R.x.lo) (.int .i64 R.x.hi) (.int .i64 R.y.lo) (.int .i64 R.y.hi) (.int .i64 R.s.lo) (.int .i64 R.s.hi) (.int .i64 R.d.lo) (.int .i64 R.d.hi)).heap[D1]? = some (.deferred (some [])) := (heap_set8 _ (by omega) _ _ _ _ _ _ _ _).trans hEd
      obtain ⟨wz, hwz⟩ : ∃ x, x = set8 Wd w.heap.size (.int .i64 R.x.lo) (.int .i64 R.x.hi) (.int .i64 R.y.lo) (.int .i64 R.y.hi) (.int .i64 R.s.lo) (.int .i64 R.s.hi) (.int .i64 R.d.lo) (.int .i64 R.d.hi) := ⟨_, rfl⟩
      rw [← hwz] at k1z k2z hbz hKz hEz
      simp only [set8] at hwz
      refine hOne 2 fun K hK => ?_
      obtain ⟨c1, f1, l1⟩ := k1d.rules
      go_simp
      rw [← hwz]
      refine hK _ _ ⟨k1z.cell, k2z.cell⟩ ?_
      clear hK K hwz c1 f1 l1 k1d k2d hb hKd hEd
      try simp only [Act.put, sA, sZ, sS]
      have k1y := k1z.far (p := ⟨w.heap.size + 1, 0, none⟩) (by dsimp only; omega) (.bool S)
      have k2y := k2z.set_ 0 (.bool S)
      have hby := hbz.setCell (p := ⟨w.heap.size + 1, 0, none⟩) (by dsimp only; omega) (.bool S)
      have hKy : (wz.setCell ⟨w.heap.size + 1, 0, none⟩ (.bool S)).heap[D]? = some (.deferred (some [])) := (Below.heap_setCell _ _ _ _ (by dsimp only; omega)).trans hKz
      have hEy : (wz.setCell ⟨w.heap.size + 1, 0, none⟩ (.bool S)).heap[D1]? = some (.deferred (some [])) := (Below.heap_setCell _ _ _ _ (by dsimp only; omega)).trans hEz
      refine hOne 3 fun K hK => ?_
      obtain ⟨c2, f2, l2⟩ := k2z.rules
      go_simp
      refine hK _ _ ⟨k1y.cell, k2y.cell⟩ ?_
      clear hK K c2 f2 l2 k1z k2z hbz hKz hEz
      generalize wz.setCell ⟨w.heap.size + 1, 0, none⟩ (.bool S) = wy at *
      refine wpAnyH_done (by kernel_rfl) (noPanic_normal ?_) _
      go_wp2_with fail
      have hE2 : (wy.putObj D (.deferred none)).heap[D1]? = some (.deferred (some [])) := (World.putObj_heap_other (by omega)).trans hEy
      refine ⟨by simp, .inl ⟨_, _, rfl, run_takeDeferred hKy, ⟨by simp, .inl ⟨_, _, rfl, run_takeDeferred hE2, ?_⟩⟩⟩⟩
      have hpu : Below w.heap.size w ((wy.putObj D (.deferred none)).putObj D1 (.deferred none)) := calm_below (calm_put (B := w.heap.size) _ hE2 rfl (by omega)) (calm_below (calm_put (B := w.heap.size) _ hKy rfl (by omega)) hby (Nat.le_refl _)) (Nat.le_refl _)
      have k1e := calm_blk (calm_put (B := w.heap.size) (.deferred none) hE2 rfl (by omega)) (calm_blk (calm_put (B := w.heap.size) (.deferred none) hKy rfl (by omega)) k1y)
      have k2e := calm_blk (calm_put (B := w.heap.size) (.deferred none) hE2 rfl (by omega)) (calm_blk (calm_put (B := w.heap.size) (.deferred none) hKy rfl (by omega)) k2y)
      obtain ⟨c1, f1, l1⟩ := k1e.rules
      obtain ⟨c2, f2, l2⟩ := k2e.rules
      refine ⟨.tuple #[.agg (regA R), .bool S], ?_, by rw [hR.out, hS.out], hpu⟩
      simp [results, Tryz.results149, go_sem, c1, c2, regA]
    case round2 =>
      rintro l i vs W hW hi ⟨k1, k2, hb, hE⟩ hLi ⟨p, hp, rfl⟩
      gi_wp2_with fail
      refine ⟨(Below.refl _ _).alloc (Nat.le_refl _) _, fun W2 hc => ?_⟩
      have hc3 : Calm W1.heap.size W W2 := (calm_of_below ((Below.refl _ _).alloc (Nat.le_refl _) _) hW).trans hc
      have k6 : Blk W2 W.heap.size 48 #[.int .i64 p.x, .int .i64 p.y] := calm_blk hc (Blk.new _ _ _)
      replace hLi : FourL r2 gf2 W2 := calm_blk hc3 hLi
      have hI : HullJ [D1] W1.heap.size (ptsL r1) r2 w i W2 := HullJ.calm ⟨k1, k2, hb, hE⟩ hc3 (by omega) (by omega)
      clear hc hc3 k1 k2 hb hE hI2 hLs
      have hpm := hpt2.out p (List.mem_of_getElem? hp)
      have hst := Lib.hid (hullQ_succ (pre := (ptsL r1)) hp)
      have hm1 := Lib.hid (hmid2.out i)
      have hz := Lib.hid (optR_add (hullQ (ptsL r1) r2 i) p)
      have hz2 := Lib.hid (isSome_add (hullQ (ptsL r1) r2 i) p)
      obtain ⟨k1, k2, hb, hE⟩ := hI
      replace hp := Lib.hid hp
      have hofm : midR (ofP p) := by simp only [midR, midB, ofP, still]; omega
      replace hofm := Lib.hid hofm
      cases hs : (hullQ (ptsL r1) r2 i).isSome with
      | true =>
        rw [hs] at k2
        rw [hs, if_pos rfl] at hz
        generalize optR (hullQ (ptsL r1) r2 i) = R at *
        simp only [regA] at k1
        obtain ⟨c2, f2, l2⟩ := k2.rules
        gi_wp2_with fail
        clear c2 f2 l2
        have hn := NC.refl W1.heap.size W2
        have hmR := hm1
        refine wpIn_till_round (fun w' => (∀ j, w'.cell? ⟨w.heap.size, j, none⟩ = #[Value.int .i64 R.x.lo, .int .i64 R.x.hi, .int .i64 R.y.lo, .int .i64 R.y.hi, .int .i64 R.s.lo, .int .i64 R.s.hi, .int .i64 R.d.lo, .int .i64 R.d.hi][j]?) ∧ (∀ j, w'.cell? ⟨W.heap.size, j, none⟩ = #[Value.int .i64 p.x, .int .i64 p.y][j]?)) 4 (by kernel_rfl) (by kernel_rfl) (by rintro ⟨_, _, h⟩; exact h) ?_
        have hS : (fun w' : World => (∀ j, w'.cell? ⟨w.heap.size, j, none⟩ = #[Value.int .i64 R.x.lo, .int .i64 R.x.hi, .int .i64 R.y.lo, .int .i64 R.y.hi, .int .i64 R.s.lo, .int .i64 R.s.hi, .int .i64 R.d.lo, .int .i64 R.d.hi][j]?) ∧ (∀ j, w'.cell? ⟨W.heap.size, j, none⟩ = #[Value.int .i64 p.x, .int .i64 p.y][j]?)) W2.drew := ⟨k1.cell, k6.cell⟩
        refine till_taked (i := 0) (v := ?_) 19 rfl rfl (by kernel_rfl) (by kernel_rfl) (by kernel_rfl) (by kernel_rfl) (by kernel_rfl) (by kernel_rfl) (fun _ _ _ h => h) (Or.inl ⟨by rfl, ?_⟩) hS ?_
        rotate_left 1
        · intro w' hSw
          try dsimp only at hSw
          obtain ⟨q1, q2⟩ := hSw
          go_simp
          all_goals with_reducible rfl
        try simp only [Act.put, sA, sZ, sS]
        refine till_taked (i := 1) (v := ?_) 20 rfl rfl (by kernel_rfl) (by kernel_rfl) (by kernel_rfl) (by kernel_rfl) (by kernel_rfl) (by kernel_rfl) (fun _ _ _ h => h) (Or.inl ⟨by rfl, ?_⟩) hS ?_
        rotate_left 1
        · intro w' hSw
          try dsimp only at hSw
          obtain ⟨q1, q2⟩ := hSw
          go_simp
          all_goals with_reducible rfl
        try simp only [Act.put, sA, sZ, sS]
        refine till_one (i := 2) (by kernel_rfl) rfl rfl (fun K hK => ?_)
        go_simp
        refine (of_any p _ (by omega)).mono ?_
        rintro e w5 ⟨rfl, hb5⟩
        replace hb5 := below_of_drew hb5
        replace k1 := k1.below hb5
        replace k2 := k2.below hb5
        replace k6 := k6.below hb5
        replace hb := hb.trans (hb5.mono hb.size)
        replace hE := hE.below hb5
        replace hn := hn.trans (nc_of_below hb5)
        replace hLi : FourL r2 gf2 w5 := Blk.below hLi hb5
        refine hK _ _ (fun _ => ⟨k1.cell, k6.cell⟩) ?_
        clear hK K hS
        try simp only [Act.put, sA, sZ, sS]
        have hcomb := fun W => combined_any R (ofP p) spanB 166 W eg_spanB hmR.out hofm.out op_spanB
        simp only [regA] at hcomb
        refine till_one (i := 3) (by kernel_rfl) rfl rfl (fun K hK => ?_)
        go_simp
        refine (hcomb _).mono ?_
        clear hcomb
        rintro e w6 ⟨rfl, hb6⟩
        replace k1 := k1.below hb6
        replace k2 := k2.below hb6
        replace k6 := k6.below hb6
        replace hb := hb.trans (hb6.mono hb.size)
        replace hE := hE.below hb6
        replace hn := hn.trans (nc_of_below hb6)
        replace hLi : FourL r2 gf2 w6 := Blk.below hLi hb6
        refine hK _ _ (fun _ => ⟨k1.cell, k6.cell⟩) ?_
        clear hK K hb5 hb6
        try simp only [Act.put, sA, sZ, sS]
        refine till_one (i := 4) (by kernel_rfl) rfl rfl (fun K hK => ?_)
        obtain ⟨c1, f1, l1⟩ := k1.rules
        go_simp
        refine hK _ _ (fun h => nomatch (show true = false from h)) ?_
        clear hK K c1 f1 l1
        refine till_done (by kernel_rfl) ?_ _
        refine ⟨hn.trans (nc_set8 _ (by omega) _ _ _ _ _ _ _ _), ⟨?_, ?_, below_set8 (g := w.heap.size) hb (Nat.le_refl _) _ _ _ _ _ _ _ _, hE.set8 (by omega) _ _ _ _ _ _ _ _⟩, far_set8 hLi (g := w.heap.size) (by omega) _ _ _ _ _ _ _ _⟩
        · rw [hst.out, hz.out]; exact k1.set8 _ _ _ _ _ _ _ _
        · rw [hst.out, hz2.out]; exact far_set8 k2 (g := w.heap.size) (by omega) _ _ _ _ _ _ _ _
      | false =>
        rw [hs] at k2
        rw [hs, if_neg (by simp)] at hz
        generalize optR (hullQ (ptsL r1) r2 i) = R at *
        simp only [regA] at k1
        obtain ⟨c2, f2, l2⟩ := k2.rules
        obtain ⟨c6, f6, l6⟩ := k6.rules
        gi_wp2_with fail
        refine ⟨trivial, (CallsIn.inRound l (callsIn_wide.2 (of_any p _ (by omega)))).mono ?_⟩
        rintro e w5 ⟨rfl, hb5⟩
        clear c2 f2 l2 c6 f6 l6
        replace k1 := k1.below hb5
        replace k2 := k2.below hb5
        replace k6 := k6.below hb5
        replace hb := hb.trans (hb5.mono hb.size)
        have hn := nc_of_below (B := W1.heap.size) hb5
        replace hLi : FourL r2 gf2 w5 := Blk.below hLi hb5
        replace hE := hE.below hb5
        clear hb5
        have k1z := (k1.set8 (.int .i64 (ofP p).x.lo) (.int .i64 (ofP p).x.hi) (.int .i64 (ofP p).y.lo) (.int .i64 (ofP p).y.hi) (.int .i64 (ofP p).s.lo) (.int .i64 (ofP p).s.hi) (.int .i64 (ofP p).d.lo) (.int .i64 (ofP p).d.hi)).far (p := ⟨w.heap.size + 1, 0, none⟩) (by dsimp only; omega) (.bool true)
        have k2z := (far_set8 k2 (g := w.heap.size) (by omega) (.int .i64 (ofP p).x.lo) (.int .i64 (ofP p).x.hi) (.int .i64 (ofP p).y.lo) (.int .i64 (ofP p).y.hi) (.int .i64 (ofP p).s.lo) (.int .i64 (ofP p).s.hi) (.int .i64 (ofP p).d.lo) (.int .i64 (ofP p).d.hi)).set_ 0 (.bool true)
        have k6z := (far_set8 k6 (g := w.heap.size) (by omega) (.int .i64 (ofP p).x.lo) (.int .i64 (ofP p).x.hi) (.int .i64 (ofP p).y.lo) (.int .i64 (ofP p).y.hi) (.int .i64 (ofP p).s.lo) (.int .i64 (ofP p).s.hi) (.int .i64 (ofP p).d.lo) (.int .i64 (ofP p).d.hi)).far (p := ⟨w.heap.size + 1, 0, none⟩) (by dsimp only; omega) (.bool true)
        have hbz := (below_set8 (g := w.heap.size) hb (Nat.le_refl _) (.int .i64 (ofP p).x.lo) (.int .i64 (ofP p).x.hi) (.int .i64 (ofP p).y.lo) (.int .i64 (ofP p).y.hi) (.int .i64 (ofP p).s.lo) (.int .i64 (ofP p).s.hi) (.int .i64 (ofP p).d.lo) (.int .i64 (ofP p).d.hi)).setCell (p := ⟨w.heap.size + 1, 0, none⟩) (by dsimp only; omega) (.bool true)
        have hnz := (hn.trans (nc_set8 (g := w.heap.size) _ (by omega) (.int .i64 (ofP p).x.lo) (.int .i64 (ofP p).x.hi) (.int .i64 (ofP p).y.lo) (.int .i64 (ofP p).y.hi) (.int .i64 (ofP p).s.lo) (.int .i64 (ofP p).s.hi) (.int .i64 (ofP p).d.lo) (.int .i64 (ofP p).d.hi))).trans (nc_setCell _ ⟨w.heap.size + 1, 0, none⟩ (.bool true) (by dsimp only; omega))
        have hLz : FourL r2 gf2 _ := (far_set8 hLi (g := w.heap.size) (by omega) (.int .i64 (ofP p).x.lo) (.int .i64 (ofP p).x.hi) (.int .i64 (ofP p).y.lo) (.int .i64 (ofP p).y.hi) (.int .i64 (ofP p).s.lo) (.int .i64 (ofP p).s.hi) (.int .i64 (ofP p).d.lo) (.int .i64 (ofP p).d.hi)).far (p := ⟨w.heap.size + 1, 0, none⟩) (by dsimp only; omega) (.bool true)
        have hEz := (hE.set8 (g := w.heap.size) (by omega) (.int .i64 (ofP p).x.lo) (.int .i64 (ofP p).x.hi) (.int .i64 (ofP p).y.lo) (.int .i64 (ofP p).y.hi) (.int .i64 (ofP p).s.lo) (.int .i64 (ofP p).s.hi) (.int .i64 (ofP p).d.lo) (.int .i64 (ofP p).d.hi)).setc (p := ⟨w.heap.size + 1, 0, none⟩) (by dsimp only; omega) (.bool true)
        obtain ⟨wz, hwz⟩ : ∃ x, x = (set8 w5 w.heap.size (.int .i64 (ofP p).x.lo) (.int .i64 (ofP p).x.hi) (.int .i64 (ofP p).y.lo) (.int .i64 (ofP p).y.hi) (.int .i64 (ofP p).s.lo) (.int .i64 (ofP p).s.hi) (.int .i64 (ofP p).d.lo) (.int .i64 (ofP p).d.hi)).setCell ⟨w.heap.size + 1, 0, none⟩ (.bool true) := ⟨_, rfl⟩
        rw [← hwz] at k1z k2z k6z hbz hnz hLz hEz
        simp only [set8] at hwz
        obtain ⟨c1, f1, l1⟩ := k1.rules
        obtain ⟨c2, f2, l2⟩ := k2.rules
        gi_wp2_with fail
        rw [← hwz]
        clear hwz c1 f1 l1 c2 f2 l2 k1 k2 k6 hb hn hLi hE
        have k1 := k1z
        have k2 := k2z
        have k6 := k6z
        have hb := hbz
        have hn := hnz
        have hLi := hLz
        have hE := hEz
        clear k1z k2z k6z hbz hnz hLz hEz
        have hmR := hofm
        refine wpIn_till_round (fun w' => (∀ j, w'.cell? ⟨w.heap.size, j, none⟩ = #[Value.int .i64 (ofP p).x.lo, .int .i64 (ofP p).x.hi, .int .i64 (ofP p).y.lo, .int .i64 (ofP p).y.hi, .int .i64 (ofP p).s.lo, .int .i64 (ofP p).s.hi, .int .i64 (ofP p).d.lo, .int .i64 (ofP p).d.hi][j]?) ∧ (∀ j, w'.cell? ⟨W.heap.size, j, none⟩ = #[Value.int .i64 p.x, .int .i64 p.y][j]?)) 4 (by kernel_rfl) (by kernel_rfl) (by rintro ⟨_, _, h⟩; exact h) ?_
        have hS : (fun w' : World => (∀ j, w'.cell? ⟨w.heap.size, j, none⟩ = #[Value.int .i64 (ofP p).x.lo, .int .i64 (ofP p).x.hi, .int .i64 (ofP p).y.lo, .int .i64 (ofP p).y.hi, .int .i64 (ofP p).s.lo, .int .i64 (ofP p).s.hi, .int .i64 (ofP p).d.lo, .int .i64 (ofP p).d.hi][j]?) ∧ (∀ j, w'.cell? ⟨W.heap.size, j, none⟩ = #[Value.int .i64 p.x, .int .i64 p.y][j]?)) wz.drew := ⟨k1.cell, k6.cell⟩
        refine till_taked (i := 0) (v := ?_) 19 rfl rfl (by kernel_rfl) (by kernel_rfl) (by kernel_rfl) (by kernel_rfl) (by kernel_rfl) (by kernel_rfl) (fun _ _ _ h => h) (Or.inl ⟨by rfl, ?_⟩) hS ?_
        rotate_left 1
        · intro w' hSw
          try dsimp only at hSw
          obtain ⟨q1, q2⟩ := hSw
          go_simp
          all_goals with_reducible rfl
        try simp only [Act.put, sA, sZ, sS]
        refine till_taked (i := 1) (v := ?_) 20 rfl rfl (by kernel_rfl) (by kernel_rfl) (by kernel_rfl) (by kernel_rfl) (by kernel_rfl) (by kernel_rfl) (fun _ _ _ h => h) (Or.inl ⟨by rfl, ?_⟩) hS ?_
        rotate_left 1
        · intro w' hSw
          try dsimp only at hSw
          obtain ⟨q1, q2⟩ := hSw
          go_simp
          all_goals with_reducible rfl
        try simp only [Act.put, sA, sZ, sS]
        refine till_one (i := 2) (by kernel_rfl) rfl rfl (fun K hK => ?_)
        go_simp
        refine (of_any p _ (by omega)).mono ?_
        rintro e w5 ⟨rfl, hb5⟩
        replace hb5 := below_of_drew hb5
        replace k1 := k1.below hb5
        replace k2 := k2.below hb5
        replace k6 := k6.below hb5
        replace hb := hb.trans (hb5.mono hb.size)
        replace hE := hE.below hb5
        replace hn := hn.trans (nc_of_below hb5)
        replace hLi : FourL r2 gf2 w5 := Blk.below hLi hb5
        refine hK _ _ (fun _ => ⟨k1.cell, k6.cell⟩) ?_
        clear hK K hS
        try simp only [Act.put, sA, sZ, sS]
        have hcomb := fun W => combined_any (ofP p) (ofP p) spanB 166 W eg_spanB hmR.out hofm.out op_spanB
        simp only [regA] at hcomb
        refine till_one (i := 3) (by kernel_rfl) rfl rfl (fun K hK => ?_)
        go_simp
        refine (hcomb _).mono ?_
        clear hcomb
        rintro e w6 ⟨rfl, hb6⟩
        replace k1 := k1.below hb6
        replace k2 := k2.below hb6
        replace k6 := k6.below hb6
        replace hb := hb.trans (hb6.mono hb.size)
        replace hE := hE.below hb6
        replace hn := hn.trans (nc_of_below hb6)
        replace hLi : FourL r2 gf2 w6 := Blk.below hLi hb6
        refine hK _ _ (fun _ => ⟨k1.cell, k6.cell⟩) ?_
        clear hK K hb5 hb6
        try simp only [Act.put, sA, sZ, sS]
        refine till_one (i := 4) (by kernel_rfl) rfl rfl (fun K hK => ?_)
        obtain ⟨c1, f1, l1⟩ := k1.rules
        go_simp
        refine hK _ _ (fun h => nomatch (show true = false from h)) ?_
        clear hK K c1 f1 l1
        refine till_done (by kernel_rfl) ?_ _
        refine ⟨hn.trans (nc_set8 _ (by omega) _ _ _ _ _ _ _ _), ⟨?_, ?_, below_set8 (g := w.heap.size) hb (Nat.le_refl _) _ _ _ _ _ _ _ _, hE.set8 (by omega) _ _ _ _ _ _ _ _⟩, far_set8 hLi (g := w.heap.size) (by omega) _ _ _ _ _ _ _ _⟩
        · rw [hst.out, hz.out]; exact k1.set8 _ _ _ _ _ _ _ _
        · rw [hst.out, hz2.out]; exact far_set8 k2 (g := w.heap.size) (by omega) _ _ _ _ _ _ _ _
  case round =>
    rintro l i vs W hW hi ⟨k1, k2, hb, hE⟩ hLi ⟨p, hp, rfl⟩
    gi_wp2_with fail
    refine ⟨(Below.refl _ _).alloc (Nat.le_refl _) _, fun W2 hc => ?_⟩
    have hc3 : Calm W0.heap.size W W2 := (calm_of_below ((Below.refl _ _).alloc (Nat.le_refl _) _) hW).trans hc
    have k6 : Blk W2 W.heap.size 48 #[.int .i64 p.x, .int .i64 p.y] := calm_blk hc (Blk.new _ _ _)
    replace hLi : FourL r1 gf1 W2 := calm_blk hc3 hLi
    have hI : HullJ [] 0 [] r1 w i W2 := HullJ.calm ⟨k1, k2, hb, hE⟩ hc3 (by omega) (by omega)
    clear hc hc3 k1 k2 hb hE hI0 hL0 hc0 hL hL2 hc2
    have hpm := hpt1.out p (List.mem_of_getElem? hp)
    have hst := Lib.hid (hullQ_succ (pre := []) hp)
    have hm1 := Lib.hid (hmid1.out i)
    have hz := Lib.hid (optR_add (hullQ [] r1 i) p)
    have hz2 := Lib.hid (isSome_add (hullQ [] r1 i) p)
    obtain ⟨k1, k2, hb, hE⟩ := hI
    replace hp := Lib.hid hp
    have hofm : midR (ofP p) := by simp only [midR, midB, ofP, still]; omega
    replace hofm := Lib.hid hofm
    cases hs : (hullQ [] r1 i).isSome with
    | true =>
      rw [hs] at k2
      rw [hs, if_pos rfl] at hz
      generalize optR (hullQ [] r1 i) = R at *
      simp only [regA] at k1
      obtain ⟨c2, f2, l2⟩ := k2.rules
      gi_wp2_with fail
      clear c2 f2 l2
      have hn := NC.refl W0.heap.size W2
      have hmR := hm1
      refine wpIn_till_round (fun w' => (∀ j, w'.cell? ⟨w.heap.size, j, none⟩ = #[Value.int .i64 R.x.lo, .int .i64 R.x.hi, .int .i64 R.y.lo, .int .i64 R.y.hi, .int .i64 R.s.lo, .int .i64 R.s.hi, .int .i64 R.d.lo, .int .i64 R.d.hi][j]?) ∧ (∀ j, w'.cell? ⟨W.heap.size, j, none⟩ = #[Value.int .i64 p.x, .int .i64 p.y][j]?)) 4 (by kernel_rfl) (by kernel_rfl) (by rintro ⟨_, _, h⟩; exact h) ?_
      have hS : (fun w' : World => (∀ j, w'.cell? ⟨w.heap.size, j, none⟩ = #[Value.int .i64 R.x.lo, .int .i64 R.x.hi, .int .i64 R.y.lo, .int .i64 R.y.hi, .int .i64 R.s.lo, .int .i64 R.s.hi, .int .i64 R.d.lo, .int .i64 R.d.hi][j]?) ∧ (∀ j, w'.cell? ⟨W.heap.size, j, none⟩ = #[Value.int .i64 p.x, .int .i64 p.y][j]?)) W2.drew := ⟨k1.cell, k6.cell⟩
      refine till_taked (i := 0) (v := ?_) 19 rfl rfl (by kernel_rfl) (by kernel_rfl) (by kernel_rfl) (by kernel_rfl) (by kernel_rfl) (by kernel_rfl) (fun _ _ _ h => h) (Or.inl ⟨by rfl, ?_⟩) hS ?_
      rotate_left 1
      · intro w' hSw
        try dsimp only at hSw
        obtain ⟨q1, q2⟩ := hSw
        go_simp
        all_goals with_reducible rfl
      try simp only [Act.put, sA, sZ, sS]
      refine till_taked (i := 1) (v := ?_) 20 rfl rfl (by kernel_rfl) (by kernel_rfl) (by kernel_rfl) (by kernel_rfl) (by kernel_rfl) (by kernel_rfl) (fun _ _ _ h => h) (Or.inl ⟨by rfl, ?_⟩) hS ?_
      rotate_left 1
      · intro w' hSw
        try dsimp only at hSw
        obtain ⟨q1, q2⟩ := hSw
        go_simp
        all_goals with_reducible rfl
      try simp only [Act.put, sA, sZ, sS]
      refine till_one (i := 2) (by kernel_rfl) rfl rfl (fun K hK => ?_)
      go_simp
      refine (of_any p _ (by omega)).mono ?_
      rintro e w5 ⟨rfl, hb5⟩
      replace hb5 := below_of_drew hb5
      replace k1 := k1.below hb5
      replace k2 := k2.below hb5
      replace k6 := k6.below hb5
      replace hb := hb.trans (hb5.mono hb.size)
      replace hE := hE.below hb5
      replace hn := hn.trans (nc_of_below hb5)
      replace hLi : FourL r1 gf1 w5 := Blk.below hLi hb5
      refine hK _ _ (fun _ => ⟨k1.cell, k6.cell⟩) ?_
      clear hK K hS
      try simp only [Act.put, sA, sZ, sS]
      have hcomb := fun W => combined_any R (ofP p) spanB 166 W eg_spanB hmR.out hofm.out op_spanB
      simp only [regA] at hcomb
      refine till_one (i := 3) (by kernel_rfl) rfl rfl (fun K hK => ?_)
      go_simp
      refine (hcomb _).mono ?_
      clear hcomb
      rintro e w6 ⟨rfl, hb6⟩
      replace k1 := k1.below hb6
      replace k2 := k2.below hb6
      replace k6 := k6.below hb6
      replace hb := hb.trans (hb6.mono hb.size)
      replace hE := hE.below hb6
      replace hn := hn.trans (nc_of_below hb6)
      replace hLi : FourL r1 gf1 w6 := Blk.below hLi hb6
      refine hK _ _ (fun _ => ⟨k1.cell, k6.cell⟩) ?_
      clear hK K hb5 hb6
      try simp only [Act.put, sA, sZ, sS]
      refine till_one (i := 4) (by kernel_rfl) rfl rfl (fun K hK => ?_)
      obtain ⟨c1, f1, l1⟩ := k1.rules
      go_simp
      refine hK _ _ (fun h => nomatch (show true = false from h)) ?_
      clear hK K c1 f1 l1
      refine till_done (by kernel_rfl) ?_ _
      refine ⟨hn.trans (nc_set8 _ (by omega) _ _ _ _ _ _ _ _), ⟨?_, ?_, below_set8 (g := w.heap.size) hb (Nat.le_refl _) _ _ _ _ _ _ _ _, hE.set8 (by omega) _ _ _ _ _ _ _ _⟩, far_set8 hLi (g := w.heap.size) (by omega) _ _ _ _ _ _ _ _⟩
      · rw [hst.out, hz.out]; exact k1.set8 _ _ _ _ _ _ _ _
      · rw [hst.out, hz2.out]; exact far_set8 k2 (g := w.heap.size) (by omega) _ _ _ _ _ _ _ _
    | false =>
      rw [hs] at k2
      rw [hs, if_neg (by simp)] at hz
      generalize optR (hullQ [] r1 i) = R at *
      simp only [regA] at k1
      obtain ⟨c2, f2, l2⟩ := k2.rules
      obtain ⟨c6, f6, l6⟩ := k6.rules
      gi_wp2_with fail
      refine ⟨trivial, (CallsIn.inRound l (callsIn_wide.2 (of_any p _ (by omega)))).mono ?_⟩
      rintro e w5 ⟨rfl, hb5⟩
      clear c2 f2 l2 c6 f6 l6
      replace k1 := k1.below hb5
      replace k2 := k2.below hb5
      replace k6 := k6.below hb5
      replace hb := hb.trans (hb5.mono hb.size)
      have hn := nc_of_below (B := W0.heap.size) hb5
      replace hLi : FourL r1 gf1 w5 := Blk.below hLi hb5
      replace hE := hE.below hb5
      clear hb5
      have k1z := (k1.set8 (.int .i64 (ofP p).x.lo) (.int .i64 (ofP p).x.hi) (.int .i64 (ofP p).y.lo) (.int .i64 (ofP p).y.hi) (.int .i64 (ofP p).s.lo) (.int .i64 (ofP p).s.hi) (.int .i64 (ofP p).d.lo) (.int .i64 (ofP p).d.hi)).far (p := ⟨w.heap.size + 1, 0, none⟩) (by dsimp only; omega) (.bool true)
      have k2z := (far_set8 k2 (g := w.heap.size) (by omega) (.int .i64 (ofP p).x.lo) (.int .i64 (ofP p).x.hi) (.int .i64 (ofP p).y.lo) (.int .i64 (ofP p).y.hi) (.int .i64 (ofP p).s.lo) (.int .i64 (ofP p).s.hi) (.int .i64 (ofP p).d.lo) (.int .i64 (ofP p).d.hi)).set_ 0 (.bool true)
      have k6z := (far_set8 k6 (g := w.heap.size) (by omega) (.int .i64 (ofP p).x.lo) (.int .i64 (ofP p).x.hi) (.int .i64 (ofP p).y.lo) (.int .i64 (ofP p).y.hi) (.int .i64 (ofP p).s.lo) (.int .i64 (ofP p).s.hi) (.int .i64 (ofP p).d.lo) (.int .i64 (ofP p).d.hi)).far (p := ⟨w.heap.size + 1, 0, none⟩) (by dsimp only; omega) (.bool true)
      have hbz := (below_set8 (g := w.heap.size) hb (Nat.le_refl _) (.int .i64 (ofP p).x.lo) (.int .i64 (ofP p).x.hi) (.int .i64 (ofP p).y.lo) (.int .i64 (ofP p).y.hi) (.int .i64 (ofP p).s.lo) (.int .i64 (ofP p).s.hi) (.int .i64 (ofP p).d.lo) (.int .i64 (ofP p).d.hi)).setCell (p := ⟨w.heap.size + 1, 0, none⟩) (by dsimp only; omega) (.bool true)
      have hnz := (hn.trans (nc_set8 (g := w.heap.size) _ (by omega) (.int .i64 (ofP p).x.lo) (.int .i64 (ofP p).x.hi) (.int .i64 (ofP p).y.lo) (.int .i64 (ofP p).y.hi) (.int .i64 (ofP p).s.lo) (.int .i64 (ofP p).s.hi) (.int .i64 (ofP p).d.lo) (.int .i64 (ofP p).d.hi))).trans (nc_setCell _ ⟨w.heap.size + 1, 0, none⟩ (.bool true) (by dsimp only; omega))
      have hLz : FourL r1 gf1 _ := (far_set8 hLi (g := w.heap.size) (by omega) (.int .i64 (ofP p).x.lo) (.int .i64 (ofP p).x.hi) (.int .i64 (ofP p).y.lo) (.int .i64 (ofP p).y.hi) (.int .i64 (ofP p).s.lo) (.int .i64 (ofP p).s.hi) (.int .i64 (ofP p).d.lo) (.int .i64 (ofP p).d.hi)).far (p := ⟨w.heap.size + 1, 0, none⟩) (by dsimp only; omega) (.bool true)
      have hEz := (hE.set8 (g := w.heap.size) (by omega) (.int .i64 (ofP p).x.lo) (.int .i64 (ofP p).x.hi) (.int .i64 (ofP p).y.lo) (.int .i64 (ofP p).y.hi) (.int .i64 (ofP p).s.lo) (.int .i64 (ofP p).s.hi) (.int .i64 (ofP p).d.lo) (.int .i64 (ofP p).d.hi)).setc (p := ⟨w.heap.size + 1, 0, none⟩) (by dsimp only; omega) (.bool true)
      obtain ⟨wz, hwz⟩ : ∃ x, x = (set8 w5 w.heap.size (.int .i64 (ofP p).x.lo) (.int .i64 (ofP p).x.hi) (.int .i64 (ofP p).y.lo) (.int .i64 (ofP p).y.hi) (.int .i64 (ofP p).s.lo) (.int .i64 (ofP p).s.hi) (.int .i64 (ofP p).d.lo) (.int .i64 (ofP p).d.hi)).setCell ⟨w.heap.size + 1, 0, none⟩ (.bool true) := ⟨_, rfl⟩
      rw [← hwz] at k1z k2z k6z hbz hnz hLz hEz
      simp only [set8] at hwz
      obtain ⟨c1, f1, l1⟩ := k1.rules
      obtain ⟨c2, f2, l2⟩ := k2.rules
      gi_wp2_with fail
      rw [← hwz]
      clear hwz c1 f1 l1 c2 f2 l2 k1 k2 k6 hb hn hLi hE
      have k1 := k1z
      have k2 := k2z
      have k6 := k6z
      have hb := hbz
      have hn := hnz
      have hLi := hLz
      have hE := hEz
      clear k1z k2z k6z hbz hnz hLz hEz
      have hmR := hofm
      refine wpIn_till_round (fun w' => (∀ j, w'.cell? ⟨w.heap.size, j, none⟩ = #[Value.int .i64 (ofP p).x.lo, .int .i64 (ofP p).x.hi, .int .i64 (ofP p).y.lo, .int .i64 (ofP p).y.hi, .int .i64 (ofP p).s.lo, .int .i64 (ofP p).s.hi, .int .i64 (ofP p).d.lo, .int .i64 (ofP p).d.hi][j]?) ∧ (∀ j, w'.cell? ⟨W.heap.size, j, none⟩ = #[Value.int .i64 p.x, .int .i64 p.y][j]?)) 4 (by kernel_rfl) (by kernel_rfl) (by rintro ⟨_, _, h⟩; exact h) ?_
      have hS : (fun w' : World => (∀ j, w'.cell? ⟨w.heap.size, j, none⟩ = #[Value.int .i64 (ofP p).x.lo, .int .i64 (ofP p).x.hi, .int .i64 (ofP p).y.lo, .int .i64 (ofP p).y.hi, .int .i64 (ofP p).s.lo, .int .i64 (ofP p).s.hi, .int .i64 (ofP p).d.lo, .int .i64 (ofP p).d.hi][j]?) ∧ (∀ j, w'.cell? ⟨W.heap.size, j, none⟩ = #[Value.int .i64 p.x, .int .i64 p.y][j]?)) wz.drew := ⟨k1.cell, k6.cell⟩
      refine till_taked (i := 0) (v := ?_) 19 rfl rfl (by kernel_rfl) (by kernel_rfl) (by kernel_rfl) (by kernel_rfl) (by kernel_rfl) (by kernel_rfl) (fun _ _ _ h => h) (Or.inl ⟨by rfl, ?_⟩) hS ?_
      rotate_left 1
      · intro w' hSw
        try dsimp only at hSw
        obtain ⟨q1, q2⟩ := hSw
        go_simp
        all_goals with_reducible rfl
      try simp only [Act.put, sA, sZ, sS]
      refine till_taked (i := 1) (v := ?_) 20 rfl rfl (by kernel_rfl) (by kernel_rfl) (by kernel_rfl) (by kernel_rfl) (by kernel_rfl) (by kernel_rfl) (fun _ _ _ h => h) (Or.inl ⟨by rfl, ?_⟩) hS ?_
      rotate_left 1
      · intro w' hSw
        try dsimp only at hSw
        obtain ⟨q1, q2⟩ := hSw
        go_simp
        all_goals with_reducible rfl
      try simp only [Act.put, sA, sZ, sS]
      refine till_one (i := 2) (by kernel_rfl) rfl rfl (fun K hK => ?_)
      go_simp
      refine (of_any p _ (by omega)).mono ?_
      rintro e w5 ⟨rfl, hb5⟩
      replace hb5 := below_of_drew hb5
      replace k1 := k1.below hb5
      replace k2 := k2.below hb5
      replace k6 := k6.below hb5
      replace hb := hb.trans (hb5.mono hb.size)
      replace hE := hE.below hb5
      replace hn := hn.trans (nc_of_below hb5)
      replace hLi : FourL r1 gf1 w5 := Blk.below hLi hb5
      refine hK _ _ (fun _ => ⟨k1.cell, k6.cell⟩) ?_
      clear hK K hS
      try simp only [Act.put, sA, sZ, sS]
      have hcomb := fun W => combined_any (ofP p) (ofP p) spanB 166 W eg_spanB hmR.out hofm.out op_spanB
      simp only [regA] at hcomb
      refine till_one (i := 3) (by kernel_rfl) rfl rfl (fun K hK => ?_)
      go_simp
      refine (hcomb _).mono ?_
      clear hcomb
      rintro e w6 ⟨rfl, hb6⟩
      replace k1 := k1.below hb6
      replace k2 := k2.below hb6
      replace k6 := k6.below hb6
      replace hb := hb.trans (hb6.mono hb.size)
      replace hE := hE.below hb6
      replace hn := hn.trans (nc_of_below hb6)
      replace hLi : FourL r1 gf1 w6 := Blk.below hLi hb6
      refine hK _ _ (fun _ => ⟨k1.cell, k6.cell⟩) ?_
      clear hK K hb5 hb6
      try simp only [Act.put, sA, sZ, sS]
      refine till_one (i := 4) (by kernel_rfl) rfl rfl (fun K hK => ?_)
      obtain ⟨c1, f1, l1⟩ := k1.rules
      go_simp
      refine hK _ _ (fun h => nomatch (show true = false from h)) ?_
      clear hK K c1 f1 l1
      refine till_done (by kernel_rfl) ?_ _
      refine ⟨hn.trans (nc_set8 _ (by omega) _ _ _ _ _ _ _ _), ⟨?_, ?_, below_set8 (g := w.heap.size) hb (Nat.le_refl _) _ _ _ _ _ _ _ _, hE.set8 (by omega) _ _ _ _ _ _ _ _⟩, far_set8 hLi (g := w.heap.size) (by omega) _ _ _ _ _ _ _ _⟩
      · rw [hst.out, hz.out]; exact k1.set8 _ _ _ _ _ _ _ _
      · rw [hst.out, hz2.out]; exact far_set8 k2 (g := w.heap.size) (by omega) _ _ _ _ _ _ _ _
end Go.Proofs.YtcmbmmpihiekhaaGreat
