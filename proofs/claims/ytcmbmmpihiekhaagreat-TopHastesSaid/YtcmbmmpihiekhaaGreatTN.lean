/-
  Walks: the squared distances of the points in bounds from the middle (package region).
  Walks: squares, two, Gap (package region).
-/
import Derived.Test.YtcmbmmpihiekhaaGreatTM
set_option maxRecDepth 100000
set_option maxHeartbeats 16000000
set_option linter.unusedSimpArgs false
set_option linter.unusedVariables false
namespace Go.Proofs.YtcmbmmpihiekhaaGreat
open Go.RowKit Go.Shelf
attribute [local go_sem] Oper.semAt_some

/-- The least and the greatest squared distance of the points of a row. -/
def sqB (q : RRow) : Bnd := ⟨q.x * q.x + max q.fr (min 0 q.to) * max q.fr (min 0 q.to), q.x * q.x + max (q.fr * q.fr) (q.to * q.to)⟩
def sqL (r : Reg) : List Bnd := (rowsL r).map sqB
def pickO (f : Bnd → Bnd → Bool) : Option Bnd → Bnd → Option Bnd
  | none, b => some b
  | some c, b => if f b c = true then some b else some c
def pckTo (f : Bnd → Bnd → Bool) (r : Reg) (k : Nat) : Option Bnd := ((sqL r).take k).foldl (pickO f) none
theorem pckTo_succ (f : Bnd → Bnd → Bool) {r : Reg} {k : Nat} {q : RRow} (h : (rowsL r)[k]? = some q) : pckTo f r (k + 1) = pickO f (pckTo f r k) (sqB q) := by
  unfold pckTo
  have e : (sqL r)[k]? = some (sqB q) := by unfold sqL; rw [List.getElem?_map, h]; rfl
  rw [List.take_add_one, e, List.foldl_append]; rfl
theorem pickO_some (f : Bnd → Bnd → Bool) (o : Option Bnd) (b : Bnd) : (pickO f o b).isSome = true := by
  cases o with
  | none => rfl
  | some c => unfold pickO; dsimp only; split <;> rfl
def pckAll (f : Bnd → Bnd → Bool) (r : Reg) : Option Bnd := (sqL r).foldl (pickO f) none
theorem pckTo_all (f : Bnd → Bnd → Bool) (r : Reg) : pckTo f r (rowsL r).length = pckAll f r := by
  unfold pckTo pckAll
  rw [List.take_of_length_le (by unfold sqL; rw [List.length_map]; exact Nat.le_refl _)]
def ltLo (a b : Bnd) : Bool := decide (a.lo < b.lo)
def gtHi (a b : Bnd) : Bool := decide (b.hi < a.hi)
/-- All squared distances: their bounds. -/
def sqsS (r : Reg) : Bnd := ⟨(optB (pckAll ltLo r)).lo, (optB (pckAll gtHi r)).hi⟩
/-- What region.Gap says of two tight regions. -/
def gapS (a b : Reg) : Bnd := sqsS (zipR minusB a b)
def SqG (r : Reg) (k : Nat) (vs : Array Value) (_ : World) : Prop := ∃ q, (rowsL r)[k]? = some q ∧ vs = #[.agg #[.int .i64 (sqB q).lo, .int .i64 (sqB q).hi]]
def SqI (r : Reg) (gf gp : Nat) (W : World) : Prop := FourL r gf W ∧ Blk W gp 48 #[.int .i64 0, .int .i64 0]
theorem sq_bd {a A : Int} (h1 : -A ≤ a) (h2 : a ≤ A) : 0 ≤ a * a ∧ a * a ≤ A * A := by
  have h := smul_bd h1 h2 h1 h2
  refine ⟨?_, h.2⟩
  rcases Int.le_total 0 a with h3 | h3
  · exact Int.mul_nonneg h3 h3
  · have := Int.mul_nonneg (show 0 ≤ -a by omega) (show 0 ≤ -a by omega)
    rw [Int.neg_mul_neg] at this; exact this
theorem row_big {r : Reg} (hr : midR r) {k : Nat} {q : RRow} (h : (rowsL r)[k]? = some q) : (-1000000 ≤ q.x ∧ q.x ≤ 1000000) ∧ (-3000000 ≤ q.fr ∧ q.fr ≤ 3000000) ∧ (-3000000 ≤ q.to ∧ q.to ≤ 3000000) := by
  obtain ⟨j, hj, e, hle⟩ := rowsTo_mem (List.mem_of_getElem? h)
  obtain ⟨⟨x1, x2, x3, x4⟩, ⟨y1, y2, y3, y4⟩, ⟨s1, s2, s3, s4⟩, ⟨d1, d2, d3, d4⟩⟩ := hr
  have hn : r.x.lo + (j : Int) ≤ r.x.hi := by unfold nX at hj; omega
  subst e
  unfold rowB at *
  dsimp only at *
  omega
theorem squares1_iter (m : Nat) (r : Reg) (gf gp : Nat) (hm1 : 1 ≤ m) (hr : midR r) :
    IterK Fence.wide m Tryz.prog 201 #[.pointer (some ⟨gf, 0, none⟩), .pointer (some ⟨gp, 0, none⟩)] (rowsL r).length (SqG r) (SqI r gf gp) := by
  intro lr J Jx W hJ hJx hY hL h0
  have hmax := max2_int
  have hmin := min2_int
  have hbig := fun k q h => row_big hr (k := k) (q := q) h
  refine callsIn_of_wp_marks Tryz.func201 rfl trivial ?_ rfl
  simp only [Tryz.ntmps201, List.size_toArray, List.length_cons, List.length_nil, Nat.reduceAdd, Nat.reduceSub, Array.replicate_succ, Array.replicate_zero, List.push_toArray, List.append_toArray, List.nil_append, List.cons_append]
  have k1 : Blk W gf 173 (regA r) := hL.1
  have k1a := k1.alloc (.cells #[.func (.yield lr) #[] #[]] 136)
  simp only [regA] at k1a
  obtain ⟨c1, f1, l1⟩ := k1a.rules
  have hst := @hstT Tryz.prog
  gi_wp2_with fail
  refine ⟨trivial, ?_⟩
  refine (callsIn_wide.2 (rows_any r _)).mono ?_
  rintro e w1 ⟨rfl, rfl⟩
  clear c1 f1 l1
  gi_wp2_with fail
  obtain ⟨W0, hW0⟩ : ∃ W0, W0 = (W.alloc (.cells #[.func (.yield lr) #[] #[]] 136)).alloc (.cells (regA r) 173) := ⟨_, rfl⟩
  rw [← hW0]
  have hL0 : FourL r (W.heap.size + 1) W0 := by rw [hW0]; exact Blk.newAt (by simp)
  have k2 : Blk W0 W.heap.size 136 #[.func (.yield lr) #[] #[]] := by rw [hW0]; exact (Blk.new _ _ _).alloc _
  have bW : Below W.heap.size W W0 := by rw [hW0]; exact ((Below.refl _ _).alloc (Nat.le_refl _) _).alloc (by simp) _
  have hsz : W0.heap.size = W.heap.size + 2 := by rw [hW0]; simp
  have cW : Calm W.heap.size W W0 := calm_of_below bW (Nat.le_refl _)
  clear hW0
  refine wp_range rfl hm1 (gf := 154) (lb := #[.pointer (some ⟨W.heap.size + 1, 0, none⟩)]) rfl trivial eg_rows1
    (rows1_iter _ r _ hr) (fun k vs W ⟨q, _, e⟩ => by rw [e]; rfl)
    (fun i A => Blk A W.heap.size 136 #[.func (.yield lr) #[] #[]] ∧ J i A ∧ SqI r gf gp A)
    (fun c A => c = .ret ∧ Jx A) (fun k A B h hc => ⟨calm_blk hc h.1, hJ _ _ _ h.2.1 (hc.mono (by omega)), calm_blk hc h.2.2.1, calm_blk hc h.2.2.2⟩) (fun _ A B h hc => ⟨h.1, hJx _ _ h.2 (hc.mono (by omega))⟩) (fun A B h hc => calm_blk hc h)
    ⟨k2, hJ _ _ _ h0 cW, calm_blk cW hL.1, calm_blk cW hL.2⟩ hL0 ?round ?done ?stop
  case stop =>
    rintro D c W3 hD ⟨rfl, hj⟩ hK
    gi_wp2_with fail
    exact ⟨by simp, .inl ⟨_, _, rfl, run_takeDeferred hK, _, results_none rfl _ _ _, ⟨_, rfl⟩, .inr (hJx _ _ hj (calm_put _ hK rfl (by omega)))⟩⟩
  case done =>
    rintro D W3 hD ⟨-, hj, -⟩ hK
    gi_wp2_with fail
    exact ⟨by simp, .inl ⟨_, _, rfl, run_takeDeferred hK, _, results_none rfl _ _ _, ⟨_, rfl⟩, .inl (hJ _ _ _ hj (calm_put _ hK rfl (by omega)))⟩⟩
  case round =>
    rintro l i vs W3 hW hi ⟨k2, hj, hLo⟩ hLi ⟨q, hq, rfl⟩
    gi_wp2_with fail
    refine ⟨(Below.refl _ _).alloc (Nat.le_refl _) _, fun W2 hc => ?_⟩
    have hc3 : Calm W0.heap.size W3 W2 := (calm_of_below ((Below.refl _ _).alloc (Nat.le_refl _) _) hW).trans hc
    have k3 : Blk W2 W3.heap.size 257 #[.int .i64 q.x, .int .i64 q.fr, .int .i64 q.to] := calm_blk hc (Blk.new _ _ _)
    replace k2 := calm_blk hc3 k2
    replace hLo : SqI r gf gp W2 := ⟨calm_blk hc3 hLo.1, calm_blk hc3 hLo.2⟩
    replace hLi : FourL r (W.heap.size + 1) W2 := calm_blk hc3 hLi
    replace hj := hJ _ _ _ hj (hc3.mono (by omega))
    have hs3 : W3.heap.size < W2.heap.size := by have := hc.1.size; simp at this; omega
    have hW2 : W0.heap.size ≤ W2.heap.size := by omega
    obtain ⟨⟨b1, b2⟩, ⟨b3, b4⟩, b5, b6⟩ := hbig i q hq
    have hval : Hid (sqB q = ⟨q.x * q.x + max q.fr (min 0 q.to) * max q.fr (min 0 q.to), q.x * q.x + max (q.fr * q.fr) (q.to * q.to)⟩) := rfl
    have m1 := sq_bd (a := q.x) (A := 1000000) (by omega) (by omega)
    have m2 := sq_bd (a := max q.fr (min 0 q.to)) (A := 3000000) (by omega) (by omega)
    have m3 := sq_bd (a := q.fr) (A := 3000000) (by omega) (by omega)
    have m4 := sq_bd (a := q.to) (A := 3000000) (by omega) (by omega)
    obtain ⟨near, hnear⟩ : ∃ n, max q.fr (min 0 q.to) = n := ⟨_, rfl⟩
    simp only [hnear] at m2 hval
    have z1 : q.x - 0 = q.x := Int.sub_zero _
    have z2 : near - 0 = near := Int.sub_zero _
    have z3 : q.fr - 0 = q.fr := Int.sub_zero _
    have z4 : q.to - 0 = q.to := Int.sub_zero _
    have u1 := IntWalk.i64_in q.x (by omega)
    have u2 := IntWalk.i64_in near (by omega)
    have u3 := IntWalk.i64_in q.fr (by omega)
    have u4 := IntWalk.i64_in q.to (by omega)
    have u5 := IntWalk.i64_in (q.x * q.x) (by omega)
    have u6 := IntWalk.i64_in (near * near) (by omega)
    have u7 := IntWalk.i64_in (q.x * q.x + near * near) (by omega)
    have u8 := IntWalk.i64_in (q.fr * q.fr) (by omega)
    have u9 := IntWalk.i64_in (q.to * q.to) (by omega)
    have u10 := IntWalk.i64_in (q.x * q.x + max (q.fr * q.fr) (q.to * q.to)) (by omega)
    have hJ' := hJ
    have kp := hLo.2
    clear hc hc3 hJ hJx cW bW h0 hL hL0 k1 k1a hbig m1 m2 m3 m4
    have hgq := Lib.hid hq
    obtain ⟨c3, f3, l3⟩ := k3.rules
    obtain ⟨cp, fp, lp⟩ := kp.rules
    gi_wp2_with fail
    (refine wpIn_quiet_round (by kernel_rfl) (by kernel_rfl) (by kernel_rfl) ?_ ?_; rotate_left 1; (iterate 24 (go_big_quiet_step (fail))); apply quiet_end; rintro _ ⟨nq, rfl⟩; rotate_left 1; (rintro ⟨_, _, h⟩; exact h))
    clear c3 f3 l3 cp fp lp
    replace k2 := k2.drewN nq
    replace hLo : SqI r gf gp (W2.drewN nq) := ⟨Blk.drewN hLo.1 nq, hLo.2.drewN nq⟩
    replace hLi : FourL r (W.heap.size + 1) (W2.drewN nq) := Blk.drewN hLi nq
    have hnb : NC W0.heap.size W2 (W2.drewN nq) := nc_drewN _ _
    replace hj := hJ' _ _ _ hj (calm_of_below (B := W.heap.size) (below_drewN (Below.refl W2.heap.size W2) nq) (by omega))
    generalize W2.drewN nq = W5 at *
    obtain ⟨fn, tmps, assign, body, hy, hR⟩ := hY i #[.agg #[.int .i64 (sqB q).lo, .int .i64 (sqB q).hi]] W5 hi hj hLo ⟨_, hq, rfl⟩
    simp only [hval.out] at hy hR
    obtain ⟨c2, f2, l2⟩ := k2.rules
    gi_wp2_with fail
    refine ⟨fun h => (by cases h), (RoundIn.anyl hR).mono ?_⟩
    clear hR hy c2 f2 l2
    rintro e W6 (⟨rfl, hj6, hLo6, hn6⟩ | ⟨rfl, hJx6, hn6⟩)
    · gi_wp2_with fail
      exact ⟨hnb.trans (hn6.mono (by omega)), ⟨nc_blk hn6 k2 (Nat.le_refl _), hj6, hLo6⟩, nc_four hn6 hLi (by omega)⟩
    · gi_wp2_with fail
      exact ⟨hnb.trans (hn6.mono (by omega)), rfl, hJx6⟩
theorem eg_squares1 : Enters Tryz.prog 201 := enters_of Tryz.func201 (by kernel_rfl) rfl
theorem ltLo_any (a b : Bnd) (w : World) :
    Calls Tryz.prog 203 #[.agg #[.int .i64 a.lo, .int .i64 a.hi], .agg #[.int .i64 b.lo, .int .i64 b.hi]] w fun e w' => e = .returned (.bool (ltLo a b)) ∧ Below w.heap.size w w' := by
  go_enter Tryz.func203, Tryz.ntmps203
  go_wp2
  go_ret
  exact ⟨rfl, ((Below.refl w.heap.size w).alloc (Nat.le_refl _) _).alloc (by simp) _⟩
theorem gtHi_any (a b : Bnd) (w : World) :
    Calls Tryz.prog 204 #[.agg #[.int .i64 a.lo, .int .i64 a.hi], .agg #[.int .i64 b.lo, .int .i64 b.hi]] w fun e w' => e = .returned (.bool (gtHi a b)) ∧ Below w.heap.size w w' := by
  go_enter Tryz.func204, Tryz.ntmps204
  go_wp2
  go_ret
  exact ⟨rfl, ((Below.refl w.heap.size w).alloc (Nat.le_refl _) _).alloc (by simp) _⟩
def PickI (g : Nat) (f : Bnd → Bnd → Bool) (r : Reg) (w : World) (k : Nat) (A : World) : Prop :=
  Blk A w.heap.size 327 #[.func (.func g) #[] #[]] ∧ Blk A (w.heap.size + 1) 26 #[.int .i64 (optB (pckTo f r k)).lo, .int .i64 (optB (pckTo f r k)).hi] ∧ Blk A (w.heap.size + 1 + 1) 4 #[.bool (pckTo f r k).isSome] ∧ Below w.heap.size w A
theorem PickI.calm {g : Nat} {f : Bnd → Bnd → Bool} {r : Reg} {w A B : World} {k B0 : Nat} (h : PickI g f r w k A) (hc : Calm B0 A B) (hB : w.heap.size ≤ B0) : PickI g f r w k B := ⟨calm_blk hc h.1, calm_blk hc h.2.1, calm_blk hc h.2.2.1, calm_below hc h.2.2.2 hB⟩
theorem pick_ltLo (r : Reg) (gf gp : Nat) (w : World) (hr : midR r) (hL : SqI r gf gp w) :
    Calls Tryz.prog 202 #[.func (.func 201) #[] #[.pointer (some ⟨gf, 0, none⟩), .pointer (some ⟨gp, 0, none⟩)], .func (.func 203) #[] #[]] w fun e w' => e = .returned (.tuple #[.agg #[.int .i64 (optB (pckAll ltLo r)).lo, .int .i64 (optB (pckAll ltLo r)).hi], .bool (pckAll ltLo r).isSome]) ∧ Below w.heap.size w w' := by
  have hlt := fun a b W => ltLo_any a b W
  have hgf : gf < w.heap.size := Blk.lt hL.1
  have hgp : gp < w.heap.size := hL.2.lt
  refine (callsIn_wide (n := 9)).1 ?_
  refine callsIn_of_wp_marks Tryz.func202 rfl trivial ?_ rfl
  simp only [Tryz.ntmps202, List.size_toArray, List.length_cons, List.length_nil, Nat.reduceAdd, Nat.reduceSub, Array.replicate_succ, Array.replicate_zero, List.push_toArray, List.append_toArray, List.nil_append, List.cons_append]
  refine wpIn_wide.2 ?_
  have hst := @hstT Tryz.prog
  go_wp2_with fail
  obtain ⟨W0, hW0⟩ : ∃ W0, W0 = ((w.alloc (.cells #[.func (.func 203) #[] #[]] 327)).alloc (.cells #[.int .i64 0, .int .i64 0] 26)).alloc (.cells #[.bool false] 4) := ⟨_, rfl⟩
  rw [← hW0]
  have hI0 : PickI 203 ltLo r w 0 W0 := by rw [hW0]; exact ⟨((Blk.new _ _ _).alloc _).alloc _, (Blk.newAt (by simp)).alloc _, Blk.newAt (by simp), (((Below.refl _ _).alloc (Nat.le_refl _) _).alloc (by simp) _).alloc (by simp; omega) _⟩
  have hL0 : SqI r gf gp W0 := by rw [hW0]; exact ⟨((Blk.alloc hL.1 _).alloc _).alloc _, ((hL.2.alloc _).alloc _).alloc _⟩
  have hsz : W0.heap.size = w.heap.size + 3 := by rw [hW0]; simp
  clear hW0
  refine (wpIn_wide (n := 9)).1 ?_
  refine wp_range rfl (by decide) (gf := 201) (lb := #[.pointer (some ⟨gf, 0, none⟩), .pointer (some ⟨gp, 0, none⟩)]) rfl trivial eg_squares1
    (squares1_iter _ r gf gp (by decide) hr) (fun k vs W ⟨_, _, e⟩ => by rw [e]; rfl)
    (PickI 203 ltLo r w) (fun _ _ => False) (fun k A B h hc => h.calm hc (by omega)) (fun _ _ _ h _ => h) (fun A B h hc => ⟨calm_blk hc h.1, calm_blk hc h.2⟩) hI0 hL0 ?round ?done ?stop
  case stop => exact fun _ _ _ _ h _ => h.elim
  case done =>
    rintro D W hD ⟨-, k1, k2, hb⟩ hK
    rw [pckTo_all] at k1 k2
    obtain ⟨B, hB⟩ : ∃ B, optB (pckAll ltLo r) = B := ⟨_, rfl⟩
    rw [hB] at k1
    replace hB := Lib.hid hB
    obtain ⟨S, hSo⟩ : ∃ S, (pckAll ltLo r).isSome = S := ⟨_, rfl⟩
    rw [hSo] at k2
    replace hSo := Lib.hid hSo
    go_wp2_with fail
    refine wp_held_np ((fun w' : World => (∀ j, w'.cell? ⟨w.heap.size + 1, j, none⟩ = #[Value.int .i64 B.lo, .int .i64 B.hi][j]?) ∧ (∀ j, w'.cell? ⟨w.heap.size + 1 + 1, j, none⟩ = #[Value.bool S][j]?))) (by kernel_rfl) ?_
    have k1d := k1.drew
    have k2d := k2.drew
    have hKd : W.drew.heap[D]? = some (.deferred (some [])) := hK
    replace hb := hb.drew
    clear k1 k2 hK
    generalize W.drew = Wd at *
    have hS : (fun w' : World => (∀ j, w'.cell? ⟨w.heap.size + 1, j, none⟩ = #[Value.int .i64 B.lo, .int .i64 B.hi][j]?) ∧ (∀ j, w'.cell? ⟨w.heap.size + 1 + 1, j, none⟩ = #[Value.bool S][j]?)) Wd := ⟨k1d.cell, k2d.cell⟩
    refine hTk 0 18 ?_
    refine hTk 1 19 ?_
    clear hS
    have k1z := (k1d.set_ 0 (.int .i64 B.lo)).set_ 1 (.int .i64 B.hi)
    simp only [sA, sZ, sS] at k1z
    have k2z := (k2d.far (p := ⟨w.heap.size + 1, 0, none⟩) (by dsimp only; omega) (.int .i64 B.lo)).far (p := ⟨w.heap.size + 1, 1, none⟩) (by dsimp only; omega) (.int .i64 B.hi)
    have hbz := (hb.setCell (p := ⟨w.heap.size + 1, 0, none⟩) (by dsimp only; omega) (.int .i64 B.lo)).setCell (p := ⟨w.heap.size + 1, 1, none⟩) (by dsimp only; omega) (.int .i64 B.hi)
    have hKz : ((Wd.setCell ⟨w.heap.size + 1, 0, none⟩ (.int .i64 B.lo)).setCell ⟨w.heap.size + 1, 1, none⟩ (.int .i64 B.hi)).heap[D]? = some (.deferred (some [])) := (Below.heap_setCell _ _ _ _ (by dsimp only; omega)).trans ((Below.heap_setCell _ _ _ _ (by dsimp only; omega)).trans hKd)
    obtain ⟨wz, hwz⟩ : ∃ x, x = (Wd.setCell ⟨w.heap.size + 1, 0, none⟩ (.int .i64 B.lo)).setCell ⟨w.heap.size + 1, 1, none⟩ (.int .i64 B.hi) := ⟨_, rfl⟩
    rw [← hwz] at k1z k2z hbz hKz
    refine hOne 2 fun K hK => ?_
    obtain ⟨c1, f1, l1⟩ := k1d.rules
    go_simp
    rw [← hwz]
    refine hK _ _ ⟨k1z.cell, k2z.cell⟩ ?_
    clear hK K hwz c1 f1 l1 k1d k2d hb hKd
    try simp only [Act.put, sA, sZ, sS]
    have k1y := k1z.far (p := ⟨w.heap.size + 1 + 1, 0, none⟩) (by dsimp only; omega) (.bool S)
    have k2y := k2z.set_ 0 (.bool S)
    have hby := hbz.setCell (p := ⟨w.heap.size + 1 + 1, 0, none⟩) (by dsimp only; omega) (.bool S)
    have hKy : (wz.setCell ⟨w.heap.size + 1 + 1, 0, none⟩ (.bool S)).heap[D]? = some (.deferred (some [])) := (Below.heap_setCell _ _ _ _ (by dsimp only; omega)).trans hKz
    refine hOne 3 fun K hK => ?_
    obtain ⟨c2, f2, l2⟩ := k2z.rules
    go_simp
    refine hK _ _ ⟨k1y.cell, k2y.cell⟩ ?_
    clear hK K c2 f2 l2 k1z k2z hbz hKz
    generalize wz.setCell ⟨w.heap.size + 1 + 1, 0, none⟩ (.bool S) = wy at *
    refine wpAnyH_done (by kernel_rfl) (noPanic_normal ?_) _
    go_wp2_with fail
    refine ⟨by simp, .inl ⟨_, _, rfl, run_takeDeferred hKy, ?_⟩⟩
    have hpu : Below w.heap.size w (wy.putObj D (.deferred none)) := calm_below (calm_put (B := w.heap.size) _ hKy rfl (by omega)) hby (Nat.le_refl _)
    have k1e := calm_blk (calm_put (B := w.heap.size) (.deferred none) hKy rfl (by omega)) k1y
    have k2e := calm_blk (calm_put (B := w.heap.size) (.deferred none) hKy rfl (by omega)) k2y
    obtain ⟨c1, f1, l1⟩ := k1e.rules
    obtain ⟨c2, f2, l2⟩ := k2e.rules
    refine ⟨.tuple #[.agg #[.int .i64 B.lo, .int .i64 B.hi], .bool S], ?_, by rw [hB.out, hSo.out], hpu⟩
    simp [results, Tryz.results202, go_sem, c1, c2]
  case round =>
    rintro l i vs W hW hi ⟨k0, k1, k2, hb⟩ hLi ⟨q, hq, rfl⟩
    gi_wp2_with fail
    refine ⟨(Below.refl _ _).alloc (Nat.le_refl _) _, fun W2 hc => ?_⟩
    have hc3 : Calm W0.heap.size W W2 := (calm_of_below ((Below.refl _ _).alloc (Nat.le_refl _) _) hW).trans hc
    have hst := Lib.hid (pckTo_succ ltLo hq)
    have hsm := Lib.hid (pickO_some ltLo (pckTo ltLo r i) (sqB q))
    generalize sqB q = b at *
    have k6 : Blk W2 W.heap.size 26 #[.int .i64 b.lo, .int .i64 b.hi] := calm_blk hc (Blk.new _ _ _)
    replace hLi : SqI r gf gp W2 := ⟨calm_blk hc3 hLi.1, calm_blk hc3 hLi.2⟩
    have hI : PickI 203 ltLo r w i W2 := PickI.calm ⟨k0, k1, k2, hb⟩ hc3 (by omega)
    have hsW : W.heap.size < W2.heap.size := by have := hc.1.size; simp at this; omega
    clear hc hc3 k0 k1 k2 hb hI0 hL0 hL
    obtain ⟨k0, k1, k2, hb⟩ := hI
    replace hq := Lib.hid hq
    obtain ⟨o, ho⟩ : ∃ o, pckTo ltLo r i = o := ⟨_, rfl⟩
    rw [ho] at k1 k2 hst hsm
    replace ho := Lib.hid ho
    cases o with
    | none =>
      simp only [Option.isSome_none] at k2
      replace hst : Hid (pckTo ltLo r (i + 1) = some b) := hst
      have hn := NC.refl W0.heap.size W2
      have kz := (k1.set_ 0 (.int .i64 b.lo)).set_ 1 (.int .i64 b.hi)
      simp only [sA, sZ, sS] at kz
      obtain ⟨c1, f1, l1⟩ := k1.rules
      obtain ⟨c2, f2, l2⟩ := k2.rules
      obtain ⟨c6, f6, l6⟩ := k6.rules
      gi_wp2_with fail
      refine ⟨fun _ h => (by cases h), ?_⟩
      gi_wp2_with fail
      clear c1 f1 l1 c2 f2 l2 c6 f6 l6
      have hn2 := ((hn.trans (nc_setCell _ ⟨w.heap.size + 1, 0, none⟩ (.int .i64 b.lo) (by dsimp only; omega))).trans (nc_setCell _ ⟨w.heap.size + 1, 1, none⟩ (.int .i64 b.hi) (by dsimp only; omega))).trans (nc_setCell _ ⟨w.heap.size + 1 + 1, 0, none⟩ (.bool true) (by dsimp only; omega))
      have kz0 := ((k0.far (p := ⟨w.heap.size + 1, 0, none⟩) (by dsimp only; omega) (.int .i64 b.lo)).far (p := ⟨w.heap.size + 1, 1, none⟩) (by dsimp only; omega) (.int .i64 b.hi)).far (p := ⟨w.heap.size + 1 + 1, 0, none⟩) (by dsimp only; omega) (.bool true)
      have kz1 := kz.far (p := ⟨w.heap.size + 1 + 1, 0, none⟩) (by dsimp only; omega) (.bool true)
      have kz2 := ((k2.far (p := ⟨w.heap.size + 1, 0, none⟩) (by dsimp only; omega) (.int .i64 b.lo)).far (p := ⟨w.heap.size + 1, 1, none⟩) (by dsimp only; omega) (.int .i64 b.hi)).set_ 0 (.bool true)
      have hbz := ((hb.setCell (p := ⟨w.heap.size + 1, 0, none⟩) (by dsimp only; omega) (.int .i64 b.lo)).setCell (p := ⟨w.heap.size + 1, 1, none⟩) (by dsimp only; omega) (.int .i64 b.hi)).setCell (p := ⟨w.heap.size + 1 + 1, 0, none⟩) (by dsimp only; omega) (.bool true)
      have hLz : FourL r gf _ := ((Blk.far hLi.1 (p := ⟨w.heap.size + 1, 0, none⟩) (by dsimp only; omega) (.int .i64 b.lo)).far (p := ⟨w.heap.size + 1, 1, none⟩) (by dsimp only; omega) (.int .i64 b.hi)).far (p := ⟨w.heap.size + 1 + 1, 0, none⟩) (by dsimp only; omega) (.bool true)
      have hPz := ((hLi.2.far (p := ⟨w.heap.size + 1, 0, none⟩) (by dsimp only; omega) (.int .i64 b.lo)).far (p := ⟨w.heap.size + 1, 1, none⟩) (by dsimp only; omega) (.int .i64 b.hi)).far (p := ⟨w.heap.size + 1 + 1, 0, none⟩) (by dsimp only; omega) (.bool true)
      exact ⟨hn2, ⟨kz0, by rw [hst.out]; exact kz1, by rw [hst.out]; exact kz2, hbz⟩, hLz, hPz⟩
    | some cc =>
      simp only [Option.isSome_some, optB, Option.getD_some] at k1 k2
      obtain ⟨c0, f0, l0⟩ := k0.rules
      obtain ⟨c1, f1, l1⟩ := k1.rules
      obtain ⟨c2, f2, l2⟩ := k2.rules
      obtain ⟨c6, f6, l6⟩ := k6.rules
      gi_wp2_with fail
      refine ⟨trivial, (CallsIn.inRound l (callsIn_wide.2 (hlt b cc _))).mono ?_⟩
      rintro e W5 ⟨rfl, hbel⟩
      clear c0 f0 l0 c1 f1 l1 c2 f2 l2 c6 f6 l6
      have hn : NC W0.heap.size W2 W5 := nc_of_below hbel
      replace k0 := k0.below hbel
      replace k1 := k1.below hbel
      replace k2 := k2.below hbel
      replace k6 := k6.below hbel
      replace hb := hb.trans (hbel.mono hb.size)
      replace hLi : SqI r gf gp W5 := ⟨Blk.below hLi.1 hbel, hLi.2.below hbel⟩
      clear hbel
      cases hf : ltLo b cc with
      | false =>
        replace hst : Hid (pckTo ltLo r (i + 1) = some cc) := by show _ = _; rw [hst.out]; unfold pickO; dsimp only; rw [if_neg (by rw [hf]; simp)]
        replace hf := Lib.hid hf
        gi_wp2_with fail
        exact ⟨hn, ⟨k0, by rw [hst.out]; exact k1, by rw [hst.out]; exact k2, hb⟩, hLi⟩
      | true =>
        replace hst : Hid (pckTo ltLo r (i + 1) = some b) := by show _ = _; rw [hst.out]; unfold pickO; dsimp only; rw [if_pos hf]
        replace hf := Lib.hid hf
        have kz := (k1.set_ 0 (.int .i64 b.lo)).set_ 1 (.int .i64 b.hi)
        simp only [sA, sZ, sS] at kz
        obtain ⟨c1, f1, l1⟩ := k1.rules
        obtain ⟨c2, f2, l2⟩ := k2.rules
        obtain ⟨c6, f6, l6⟩ := k6.rules
        gi_wp2_with fail
        clear c1 f1 l1 c2 f2 l2 c6 f6 l6
        have hn2 := ((hn.trans (nc_setCell _ ⟨w.heap.size + 1, 0, none⟩ (.int .i64 b.lo) (by dsimp only; omega))).trans (nc_setCell _ ⟨w.heap.size + 1, 1, none⟩ (.int .i64 b.hi) (by dsimp only; omega))).trans (nc_setCell _ ⟨w.heap.size + 1 + 1, 0, none⟩ (.bool true) (by dsimp only; omega))
        have kz0 := ((k0.far (p := ⟨w.heap.size + 1, 0, none⟩) (by dsimp only; omega) (.int .i64 b.lo)).far (p := ⟨w.heap.size + 1, 1, none⟩) (by dsimp only; omega) (.int .i64 b.hi)).far (p := ⟨w.heap.size + 1 + 1, 0, none⟩) (by dsimp only; omega) (.bool true)
        have kz1 := kz.far (p := ⟨w.heap.size + 1 + 1, 0, none⟩) (by dsimp only; omega) (.bool true)
        have kz2 := ((k2.far (p := ⟨w.heap.size + 1, 0, none⟩) (by dsimp only; omega) (.int .i64 b.lo)).far (p := ⟨w.heap.size + 1, 1, none⟩) (by dsimp only; omega) (.int .i64 b.hi)).set_ 0 (.bool true)
        have hbz := ((hb.setCell (p := ⟨w.heap.size + 1, 0, none⟩) (by dsimp only; omega) (.int .i64 b.lo)).setCell (p := ⟨w.heap.size + 1, 1, none⟩) (by dsimp only; omega) (.int .i64 b.hi)).setCell (p := ⟨w.heap.size + 1 + 1, 0, none⟩) (by dsimp only; omega) (.bool true)
        have hLz : FourL r gf _ := ((Blk.far hLi.1 (p := ⟨w.heap.size + 1, 0, none⟩) (by dsimp only; omega) (.int .i64 b.lo)).far (p := ⟨w.heap.size + 1, 1, none⟩) (by dsimp only; omega) (.int .i64 b.hi)).far (p := ⟨w.heap.size + 1 + 1, 0, none⟩) (by dsimp only; omega) (.bool true)
        have hPz := ((hLi.2.far (p := ⟨w.heap.size + 1, 0, none⟩) (by dsimp only; omega) (.int .i64 b.lo)).far (p := ⟨w.heap.size + 1, 1, none⟩) (by dsimp only; omega) (.int .i64 b.hi)).far (p := ⟨w.heap.size + 1 + 1, 0, none⟩) (by dsimp only; omega) (.bool true)
        exact ⟨hn2, ⟨kz0, by rw [hst.out]; exact kz1, by rw [hst.out]; exact kz2, hbz⟩, hLz, hPz⟩
theorem pick_gtHi (r : Reg) (gf gp : Nat) (w : World) (hr : midR r) (hL : SqI r gf gp w) :
    Calls Tryz.prog 202 #[.func (.func 201) #[] #[.pointer (some ⟨gf, 0, none⟩), .pointer (some ⟨gp, 0, none⟩)], .func (.func 204) #[] #[]] w fun e w' => e = .returned (.tuple #[.agg #[.int .i64 (optB (pckAll gtHi r)).lo, .int .i64 (optB (pckAll gtHi r)).hi], .bool (pckAll gtHi r).isSome]) ∧ Below w.heap.size w w' := by
  have hlt := fun a b W => gtHi_any a b W
  have hgf : gf < w.heap.size := Blk.lt hL.1
  have hgp : gp < w.heap.size := hL.2.lt
  refine (callsIn_wide (n := 9)).1 ?_
  refine callsIn_of_wp_marks Tryz.func202 rfl trivial ?_ rfl
  simp only [Tryz.ntmps202, List.size_toArray, List.length_cons, List.length_nil, Nat.reduceAdd, Nat.reduceSub, Array.replicate_succ, Array.replicate_zero, List.push_toArray, List.append_toArray, List.nil_append, List.cons_append]
  refine wpIn_wide.2 ?_
  have hst := @hstT Tryz.prog
  go_wp2_with fail
  obtain ⟨W0, hW0⟩ : ∃ W0, W0 = ((w.alloc (.cells #[.func (.func 204) #[] #[]] 327)).alloc (.cells #[.int .i64 0, .int .i64 0] 26)).alloc (.cells #[.bool false] 4) := ⟨_, rfl⟩
  rw [← hW0]
  have hI0 : PickI 204 gtHi r w 0 W0 := by rw [hW0]; exact ⟨((Blk.new _ _ _).alloc _).alloc _, (Blk.newAt (by simp)).alloc _, Blk.newAt (by simp), (((Below.refl _ _).alloc (Nat.le_refl _) _).alloc (by simp) _).alloc (by simp; omega) _⟩
  have hL0 : SqI r gf gp W0 := by rw [hW0]; exact ⟨((Blk.alloc hL.1 _).alloc _).alloc _, ((hL.2.alloc _).alloc _).alloc _⟩
  have hsz : W0.heap.size = w.heap.size + 3 := by rw [hW0]; simp
  clear hW0
  refine (wpIn_wide (n := 9)).1 ?_
  refine wp_range rfl (by decide) (gf := 201) (lb := #[.pointer (some ⟨gf, 0, none⟩), .pointer (some ⟨gp, 0, none⟩)]) rfl trivial eg_squares1
    (squares1_iter _ r gf gp (by decide) hr) (fun k vs W ⟨_, _, e⟩ => by rw [e]; rfl)
    (PickI 204 gtHi r w) (fun _ _ => False) (fun k A B h hc => h.calm hc (by omega)) (fun _ _ _ h _ => h) (fun A B h hc => ⟨calm_blk hc h.1, calm_blk hc h.2⟩) hI0 hL0 ?round ?done ?stop
  case stop => exact fun _ _ _ _ h _ => h.elim
  case done =>
    rintro D W hD ⟨-, k1, k2, hb⟩ hK
    rw [pckTo_all] at k1 k2
    obtain ⟨B, hB⟩ : ∃ B, optB (pckAll gtHi r) = B := ⟨_, rfl⟩
    rw [hB] at k1
    replace hB := Lib.hid hB
    obtain ⟨S, hSo⟩ : ∃ S, (pckAll gtHi r).isSome = S := ⟨_, rfl⟩
    rw [hSo] at k2
    replace hSo := Lib.hid hSo
    go_wp2_with fail
    refine wp_held_np ((fun w' : World => (∀ j, w'.cell? ⟨w.heap.size + 1, j, none⟩ = #[Value.int .i64 B.lo, .int .i64 B.hi][j]?) ∧ (∀ j, w'.cell? ⟨w.heap.size + 1 + 1, j, none⟩ = #[Value.bool S][j]?))) (by kernel_rfl) ?_
    have k1d := k1.drew
    have k2d := k2.drew
    have hKd : W.drew.heap[D]? = some (.deferred (some [])) := hK
    replace hb := hb.drew
    clear k1 k2 hK
    generalize W.drew = Wd at *
    have hS : (fun w' : World => (∀ j, w'.cell? ⟨w.heap.size + 1, j, none⟩ = #[Value.int .i64 B.lo, .int .i64 B.hi][j]?) ∧ (∀ j, w'.cell? ⟨w.heap.size + 1 + 1, j, none⟩ = #[Value.bool S][j]?)) Wd := ⟨k1d.cell, k2d.cell⟩
    refine hTk 0 18 ?_
    refine hTk 1 19 ?_
    clear hS
    have k1z := (k1d.set_ 0 (.int .i64 B.lo)).set_ 1 (.int .i64 B.hi)
    simp only [sA, sZ, sS] at k1z
    have k2z := (k2d.far (p := ⟨w.heap.size + 1, 0, none⟩) (by dsimp only; omega) (.int .i64 B.lo)).far (p := ⟨w.heap.size + 1, 1, none⟩) (by dsimp only; omega) (.int .i64 B.hi)
    have hbz := (hb.setCell (p := ⟨w.heap.size + 1, 0, none⟩) (by dsimp only; omega) (.int .i64 B.lo)).setCell (p := ⟨w.heap.size + 1, 1, none⟩) (by dsimp only; omega) (.int .i64 B.hi)
    have hKz : ((Wd.setCell ⟨w.heap.size + 1, 0, none⟩ (.int .i64 B.lo)).setCell ⟨w.heap.size + 1, 1, none⟩ (.int .i64 B.hi)).heap[D]? = some (.deferred (some [])) := (Below.heap_setCell _ _ _ _ (by dsimp only; omega)).trans ((Below.heap_setCell _ _ _ _ (by dsimp only; omega)).trans hKd)
    obtain ⟨wz, hwz⟩ : ∃ x, x = (Wd.setCell ⟨w.heap.size + 1, 0, none⟩ (.int .i64 B.lo)).setCell ⟨w.heap.size + 1, 1, none⟩ (.int .i64 B.hi) := ⟨_, rfl⟩
    rw [← hwz] at k1z k2z hbz hKz
    refine hOne 2 fun K hK => ?_
    obtain ⟨c1, f1, l1⟩ := k1d.rules
    go_simp
    rw [← hwz]
    refine hK _ _ ⟨k1z.cell, k2z.cell⟩ ?_
    clear hK K hwz c1 f1 l1 k1d k2d hb hKd
    try simp only [Act.put, sA, sZ, sS]
    have k1y := k1z.far (p := ⟨w.heap.size + 1 + 1, 0, none⟩) (by dsimp only; omega) (.bool S)
    have k2y := k2z.set_ 0 (.bool S)
    have hby := hbz.setCell (p := ⟨w.heap.size + 1 + 1, 0, none⟩) (by dsimp only; omega) (.bool S)
    have hKy : (wz.setCell ⟨w.heap.size + 1 + 1, 0, none⟩ (.bool S)).heap[D]? = some (.deferred (some [])) := (Below.heap_setCell _ _ _ _ (by dsimp only; omega)).trans hKz
    refine hOne 3 fun K hK => ?_
    obtain ⟨c2, f2, l2⟩ := k2z.rules
    go_simp
    refine hK _ _ ⟨k1y.cell, k2y.cell⟩ ?_
    clear hK K c2 f2 l2 k1z k2z hbz hKz
    generalize wz.setCell ⟨w.heap.size + 1 + 1, 0, none⟩ (.bool S) = wy at *
    refine wpAnyH_done (by kernel_rfl) (noPanic_normal ?_) _
    go_wp2_with fail
    refine ⟨by simp, .inl ⟨_, _, rfl, run_takeDeferred hKy, ?_⟩⟩
    have hpu : Below w.heap.size w (wy.putObj D (.deferred none)) := calm_below (calm_put (B := w.heap.size) _ hKy rfl (by omega)) hby (Nat.le_refl _)
    have k1e := calm_blk (calm_put (B := w.heap.size) (.deferred none) hKy rfl (by omega)) k1y
    have k2e := calm_blk (calm_put (B := w.heap.size) (.deferred none) hKy rfl (by omega)) k2y
    obtain ⟨c1, f1, l1⟩ := k1e.rules
    obtain ⟨c2, f2, l2⟩ := k2e.rules
    refine ⟨.tuple #[.agg #[.int .i64 B.lo, .int .i64 B.hi], .bool S], ?_, by rw [hB.out, hSo.out], hpu⟩
    simp [results, Tryz.results202, go_sem, c1, c2]
  case round =>
    rintro l i vs W hW hi ⟨k0, k1, k2, hb⟩ hLi ⟨q, hq, rfl⟩
    gi_wp2_with fail
    refine ⟨(Below.refl _ _).alloc (Nat.le_refl _) _, fun W2 hc => ?_⟩
    have hc3 : Calm W0.heap.size W W2 := (calm_of_below ((Below.refl _ _).alloc (Nat.le_refl _) _) hW).trans hc
    have hst := Lib.hid (pckTo_succ gtHi hq)
    have hsm := Lib.hid (pickO_some gtHi (pckTo gtHi r i) (sqB q))
    generalize sqB q = b at *
    have k6 : Blk W2 W.heap.size 26 #[.int .i64 b.lo, .int .i64 b.hi] := calm_blk hc (Blk.new _ _ _)
    replace hLi : SqI r gf gp W2 := ⟨calm_blk hc3 hLi.1, calm_blk hc3 hLi.2⟩
    have hI : PickI 204 gtHi r w i W2 := PickI.calm ⟨k0, k1, k2, hb⟩ hc3 (by omega)
    have hsW : W.heap.size < W2.heap.size := by have := hc.1.size; simp at this; omega
    clear hc hc3 k0 k1 k2 hb hI0 hL0 hL
    obtain ⟨k0, k1, k2, hb⟩ := hI
    replace hq := Lib.hid hq
    obtain ⟨o, ho⟩ : ∃ o, pckTo gtHi r i = o := ⟨_, rfl⟩
    rw [ho] at k1 k2 hst hsm
    replace ho := Lib.hid ho
    cases o with
    | none =>
      simp only [Option.isSome_none] at k2
      replace hst : Hid (pckTo gtHi r (i + 1) = some b) := hst
      have hn := NC.refl W0.heap.size W2
      have kz := (k1.set_ 0 (.int .i64 b.lo)).set_ 1 (.int .i64 b.hi)
      simp only [sA, sZ, sS] at kz
      obtain ⟨c1, f1, l1⟩ := k1.rules
      obtain ⟨c2, f2, l2⟩ := k2.rules
      obtain ⟨c6, f6, l6⟩ := k6.rules
      gi_wp2_with fail
      refine ⟨fun _ h => (by cases h), ?_⟩
      gi_wp2_with fail
      clear c1 f1 l1 c2 f2 l2 c6 f6 l6
      have hn2 := ((hn.trans (nc_setCell _ ⟨w.heap.size + 1, 0, none⟩ (.int .i64 b.lo) (by dsimp only; omega))).trans (nc_setCell _ ⟨w.heap.size + 1, 1, none⟩ (.int .i64 b.hi) (by dsimp only; omega))).trans (nc_setCell _ ⟨w.heap.size + 1 + 1, 0, none⟩ (.bool true) (by dsimp only; omega))
      have kz0 := ((k0.far (p := ⟨w.heap.size + 1, 0, none⟩) (by dsimp only; omega) (.int .i64 b.lo)).far (p := ⟨w.heap.size + 1, 1, none⟩) (by dsimp only; omega) (.int .i64 b.hi)).far (p := ⟨w.heap.size + 1 + 1, 0, none⟩) (by dsimp only; omega) (.bool true)
      have kz1 := kz.far (p := ⟨w.heap.size + 1 + 1, 0, none⟩) (by dsimp only; omega) (.bool true)
      have kz2 := ((k2.far (p := ⟨w.heap.size + 1, 0, none⟩) (by dsimp only; omega) (.int .i64 b.lo)).far (p := ⟨w.heap.size + 1, 1, none⟩) (by dsimp only; omega) (.int .i64 b.hi)).set_ 0 (.bool true)
      have hbz := ((hb.setCell (p := ⟨w.heap.size + 1, 0, none⟩) (by dsimp only; omega) (.int .i64 b.lo)).setCell (p := ⟨w.heap.size + 1, 1, none⟩) (by dsimp only; omega) (.int .i64 b.hi)).setCell (p := ⟨w.heap.size + 1 + 1, 0, none⟩) (by dsimp only; omega) (.bool true)
      have hLz : FourL r gf _ := ((Blk.far hLi.1 (p := ⟨w.heap.size + 1, 0, none⟩) (by dsimp only; omega) (.int .i64 b.lo)).far (p := ⟨w.heap.size + 1, 1, none⟩) (by dsimp only; omega) (.int .i64 b.hi)).far (p := ⟨w.heap.size + 1 + 1, 0, none⟩) (by dsimp only; omega) (.bool true)
      have hPz := ((hLi.2.far (p := ⟨w.heap.size + 1, 0, none⟩) (by dsimp only; omega) (.int .i64 b.lo)).far (p := ⟨w.heap.size + 1, 1, none⟩) (by dsimp only; omega) (.int .i64 b.hi)).far (p := ⟨w.heap.size + 1 + 1, 0, none⟩) (by dsimp only; omega) (.bool true)
      exact ⟨hn2, ⟨kz0, by rw [hst.out]; exact kz1, by rw [hst.out]; exact kz2, hbz⟩, hLz, hPz⟩
    | some cc =>
      simp only [Option.isSome_some, optB, Option.getD_some] at k1 k2
      obtain ⟨c0, f0, l0⟩ := k0.rules
      obtain ⟨c1, f1, l1⟩ := k1.rules
      obtain ⟨c2, f2, l2⟩ := k2.rules
      obtain ⟨c6, f6, l6⟩ := k6.rules
      gi_wp2_with fail
      refine ⟨trivial, (CallsIn.inRound l (callsIn_wide.2 (hlt b cc _))).mono ?_⟩
      rintro e W5 ⟨rfl, hbel⟩
      clear c0 f0 l0 c1 f1 l1 c2 f2 l2 c6 f6 l6
      have hn : NC W0.heap.size W2 W5 := nc_of_below hbel
      replace k0 := k0.below hbel
      replace k1 := k1.below hbel
      replace k2 := k2.below hbel
      replace k6 := k6.below hbel
      replace hb := hb.trans (hbel.mono hb.size)
      replace hLi : SqI r gf gp W5 := ⟨Blk.below hLi.1 hbel, hLi.2.below hbel⟩
      clear hbel
      cases hf : gtHi b cc with
      | false =>
        replace hst : Hid (pckTo gtHi r (i + 1) = some cc) := by show _ = _; rw [hst.out]; unfold pickO; dsimp only; rw [if_neg (by rw [hf]; simp)]
        replace hf := Lib.hid hf
        gi_wp2_with fail
        exact ⟨hn, ⟨k0, by rw [hst.out]; exact k1, by rw [hst.out]; exact k2, hb⟩, hLi⟩
      | true =>
        replace hst : Hid (pckTo gtHi r (i + 1) = some b) := by show _ = _; rw [hst.out]; unfold pickO; dsimp only; rw [if_pos hf]
        replace hf := Lib.hid hf
        have kz := (k1.set_ 0 (.int .i64 b.lo)).set_ 1 (.int .i64 b.hi)
        simp only [sA, sZ, sS] at kz
        obtain ⟨c1, f1, l1⟩ := k1.rules
        obtain ⟨c2, f2, l2⟩ := k2.rules
        obtain ⟨c6, f6, l6⟩ := k6.rules
        gi_wp2_with fail
        clear c1 f1 l1 c2 f2 l2 c6 f6 l6
        have hn2 := ((hn.trans (nc_setCell _ ⟨w.heap.size + 1, 0, none⟩ (.int .i64 b.lo) (by dsimp only; omega))).trans (nc_setCell _ ⟨w.heap.size + 1, 1, none⟩ (.int .i64 b.hi) (by dsimp only; omega))).trans (nc_setCell _ ⟨w.heap.size + 1 + 1, 0, none⟩ (.bool true) (by dsimp only; omega))
        have kz0 := ((k0.far (p := ⟨w.heap.size + 1, 0, none⟩) (by dsimp only; omega) (.int .i64 b.lo)).far (p := ⟨w.heap.size + 1, 1, none⟩) (by dsimp only; omega) (.int .i64 b.hi)).far (p := ⟨w.heap.size + 1 + 1, 0, none⟩) (by dsimp only; omega) (.bool true)
        have kz1 := kz.far (p := ⟨w.heap.size + 1 + 1, 0, none⟩) (by dsimp only; omega) (.bool true)
        have kz2 := ((k2.far (p := ⟨w.heap.size + 1, 0, none⟩) (by dsimp only; omega) (.int .i64 b.lo)).far (p := ⟨w.heap.size + 1, 1, none⟩) (by dsimp only; omega) (.int .i64 b.hi)).set_ 0 (.bool true)
        have hbz := ((hb.setCell (p := ⟨w.heap.size + 1, 0, none⟩) (by dsimp only; omega) (.int .i64 b.lo)).setCell (p := ⟨w.heap.size + 1, 1, none⟩) (by dsimp only; omega) (.int .i64 b.hi)).setCell (p := ⟨w.heap.size + 1 + 1, 0, none⟩) (by dsimp only; omega) (.bool true)
        have hLz : FourL r gf _ := ((Blk.far hLi.1 (p := ⟨w.heap.size + 1, 0, none⟩) (by dsimp only; omega) (.int .i64 b.lo)).far (p := ⟨w.heap.size + 1, 1, none⟩) (by dsimp only; omega) (.int .i64 b.hi)).far (p := ⟨w.heap.size + 1 + 1, 0, none⟩) (by dsimp only; omega) (.bool true)
        have hPz := ((hLi.2.far (p := ⟨w.heap.size + 1, 0, none⟩) (by dsimp only; omega) (.int .i64 b.lo)).far (p := ⟨w.heap.size + 1, 1, none⟩) (by dsimp only; omega) (.int .i64 b.hi)).far (p := ⟨w.heap.size + 1 + 1, 0, none⟩) (by dsimp only; omega) (.bool true)
        exact ⟨hn2, ⟨kz0, by rw [hst.out]; exact kz1, by rw [hst.out]; exact kz2, hbz⟩, hLz, hPz⟩
end Go.Proofs.YtcmbmmpihiekhaaGreat
namespace Go.Proofs.YtcmbmmpihiekhaaGreat
open Go.RowKit Go.Shelf

theorem squares_any (r : Reg) (w : World) (hr : midR r) :
    Calls Tryz.prog 186 #[.agg (regA r), .agg #[.int .i64 0, .int .i64 0]] w fun e w' => e = .returned (.tuple #[.agg #[.int .i64 (sqsS r).lo, .int .i64 (sqsS r).hi], .bool (pckAll ltLo r).isSome]) ∧ Below w.heap.size w w' := by
  have h1 := fun gf gp W h => pick_ltLo r gf gp W hr h
  have h2 := fun gf gp W h => pick_gtHi r gf gp W hr h
  have hsq : Hid (sqsS r = ⟨(optB (pckAll ltLo r)).lo, (optB (pckAll gtHi r)).hi⟩) := rfl
  obtain ⟨P, hP⟩ : ∃ P, optB (pckAll ltLo r) = P := ⟨_, rfl⟩
  obtain ⟨Q, hQ⟩ : ∃ Q, optB (pckAll gtHi r) = Q := ⟨_, rfl⟩
  simp only [hP] at h1 hsq
  simp only [hQ] at h2 hsq
  clear hP hQ
  generalize (pckAll ltLo r).isSome = S at *
  generalize (pckAll gtHi r).isSome = S2 at *
  have e1 := hsq.out
  rw [e1]
  clear hsq e1
  dsimp only
  replace hr := Lib.hid hr
  obtain ⟨w1, hw1⟩ : ∃ w1, w1 = ((w.alloc (.cells (regA r) 173)).alloc (.cells #[.int .i64 0, .int .i64 0] 48)).alloc (.cells #[.int .i64 0, .int .i64 0] 26) := ⟨_, rfl⟩
  have k2 : Blk w1 w.heap.size 173 (regA r) := by rw [hw1]; exact ((Blk.new _ _ _).alloc _).alloc _
  have k3 : Blk w1 (w.heap.size + 1) 48 #[.int .i64 0, .int .i64 0] := by rw [hw1]; exact (Blk.newAt (by simp)).alloc _
  have k4 : Blk w1 (w.heap.size + 1 + 1) 26 #[.int .i64 0, .int .i64 0] := by rw [hw1]; exact Blk.newAt (by simp)
  have hb : Below w.heap.size w w1 := by rw [hw1]; exact (((Below.refl _ _).alloc (Nat.le_refl _) _).alloc (by simp) _).alloc (by simp; omega) _
  simp only [regA] at hw1 ⊢
  go_enter Tryz.func186, Tryz.ntmps186
  go_wp2_with fail
  rw [← hw1]
  clear hw1
  refine (h1 _ _ _ ⟨k2, k3⟩).mono ?_
  rintro e W ⟨rfl, hbel⟩
  clear h1
  replace k2 := k2.below hbel
  replace k3 := k3.below hbel
  replace k4 := k4.below hbel
  replace hb := hb.trans (hbel.mono hb.size)
  clear hbel
  go_wp2_with fail
  have hg7 : w.heap.size + 1 + 1 < W.heap.size := k4.lt
  have k7 := Blk.new W 26 #[.int .i64 P.lo, .int .i64 P.hi]
  have hbel := (Below.refl W.heap.size W).alloc (Nat.le_refl _) (.cells #[.int .i64 P.lo, .int .i64 P.hi] 26)
  replace k2 := k2.below hbel
  replace k3 := k3.below hbel
  replace k4 := k4.below hbel
  replace hb := hb.trans (hbel.mono hb.size)
  clear hbel
  generalize W.alloc (.cells #[.int .i64 P.lo, .int .i64 P.hi] 26) = W2 at *
  generalize W.heap.size = g7 at *
  refine (h2 _ _ _ ⟨k2, k3⟩).mono ?_
  rintro e W ⟨rfl, hbel⟩
  clear h2
  replace k2 := k2.below hbel
  replace k3 := k3.below hbel
  replace k4 := k4.below hbel
  replace hb := hb.trans (hbel.mono hb.size)
  replace k7 := k7.below hbel
  clear hbel
  have kz0 := (k4.set_ 0 (.int .i64 P.lo)).set_ 1 (.int .i64 Q.hi)
  simp only [sA, sZ, sS] at kz0
  have kz := kz0.alloc (.cells #[.int .i64 Q.lo, .int .i64 Q.hi] 26)
  have bz0 := (hb.setCell (p := ⟨w.heap.size + 1 + 1, 0, none⟩) (by dsimp only; omega) (.int .i64 P.lo)).setCell (p := ⟨w.heap.size + 1 + 1, 1, none⟩) (by dsimp only; omega) (.int .i64 Q.hi)
  have bz := bz0.alloc bz0.size (.cells #[.int .i64 Q.lo, .int .i64 Q.hi] 26)
  obtain ⟨wz, hwz⟩ : ∃ x, x = ((W.setCell ⟨w.heap.size + 1 + 1, 0, none⟩ (.int .i64 P.lo)).setCell ⟨w.heap.size + 1 + 1, 1, none⟩ (.int .i64 Q.hi)).alloc (.cells #[.int .i64 Q.lo, .int .i64 Q.hi] 26) := ⟨_, rfl⟩
  rw [← hwz] at kz bz
  obtain ⟨c7, f7, l7⟩ := k7.rules
  obtain ⟨c4, f4, l4⟩ := k4.rules
  go_wp2
  rw [← hwz]
  clear hwz c4 f4 l4 c7 f7 l7
  obtain ⟨c4, f4, l4⟩ := kz.rules
  exact bodyPost_ret (v := .tuple #[.agg #[.int .i64 P.lo, .int .i64 Q.hi], .bool S]) (by simp [results, Tryz.results186, go_sem, c4]) rfl ⟨rfl, bz⟩
theorem rminusB_any (a b : Bnd) (w : World) (h1 : -1000000 ≤ a.lo ∧ a.lo ≤ 1000000 ∧ -1000000 ≤ a.hi ∧ a.hi ≤ 1000000) (h2 : -1000000 ≤ b.lo ∧ b.lo ≤ 1000000 ∧ -1000000 ≤ b.hi ∧ b.hi ≤ 1000000) :
    Calls Tryz.prog 187 #[.agg #[.int .i64 a.lo, .int .i64 a.hi], .agg #[.int .i64 b.lo, .int .i64 b.hi]] w fun e w' => e = .returned (.agg #[.int .i64 (minusB a b).lo, .int .i64 (minusB a b).hi]) ∧ Below w.heap.size w w' := by
  go_enter Tryz.func187, Tryz.ntmps187
  go_wp2
  all_goals
    refine bodyPost_ret (v := .agg #[.int .i64 (minusB a b).lo, .int .i64 (minusB a b).hi]) (by simp [results, Tryz.results187, go_sem, minusB] <;> omega) rfl ⟨rfl, ?_⟩
    exact (((Below.refl w.heap.size w).alloc (Nat.le_refl _) _).alloc (by simp) _).alloc (by simp; omega) _
theorem op_minusB : OpB 187 minusB := fun W a b h1 h2 => rminusB_any a b W h1 h2
theorem eg_minusB : Enters Tryz.prog 187 := enters_of Tryz.func187 (by kernel_rfl) rfl
theorem SlAt.two {w : World} {g : Nat} {t : TypeId} {a b : Int} (k : Blk w g t #[.int .i64 a, .int .i64 b]) : SlAt w 0 1 ivs (some ⟨g, 0, none⟩) 2 2 [a, b] :=
  ⟨rfl, Nat.le_refl _, by omega, fun _ => ⟨g, 0, rfl, Nat.zero_le _, k.lt, fun i x hi j v hv => by
    match i, hi with
    | 0, hi => simp at hi; subst hi; match j, hv with
      | 0, hv => simp [ivs] at hv; subst hv; exact k.cell 0
      | j + 1, hv => simp [ivs] at hv
    | 1, hi => simp at hi; subst hi; match j, hv with
      | 0, hv => simp [ivs] at hv; subst hv; exact k.cell 1
      | j + 1, hv => simp [ivs] at hv
    | i + 2, hi => simp at hi⟩⟩
theorem two_any (a b x y : Reg) (w : World) (ha : okReg a = true) (hb0 : okReg b = true) (hx : tightO a = some x) (hy : tightO b = some y) :
    Calls Tryz.prog 185 #[.agg (regA a), .agg (regA b)] w fun e w' => e = .returned (.tuple #[.agg (regA x), .agg (regA y), .int .i64 0]) ∧ Below w.heap.size w w' := by
  have hc1 := fun W => rCheck_any a W
  have hc2 := fun W => rCheck_any b W
  have e1 : chkReg a = 0 := by simp [chkReg, ha]
  have e2 : chkReg b = 0 := by simp [chkReg, hb0]
  simp only [e1] at hc1
  simp only [e2] at hc2
  have hr1 := fun W => rbounds_any a W
  have hr2 := fun W => rbounds_any b W
  have ht1 := fun W => tight_any a W ha
  have ht2 := fun W => tight_any b W hb0
  simp only [hx, doneR] at ht1
  simp only [hy, doneR] at ht2
  have hfi := fun g W h => firstE_any (some ⟨g, 0, none⟩) 2 2 0 [0, 0] W h
  have e3 : firstE [0, 0] = 0 := rfl
  simp only [e3] at hfi
  simp only [regA] at hc1 hc2 hr1 hr2 ht1 ht2 ⊢
  clear e1 e2 e3 ha hb0 hx hy
  obtain ⟨w1, hw1⟩ : ∃ w1, w1 = (((w.alloc (.cells #[.int .i64 a.x.lo, .int .i64 a.x.hi, .int .i64 a.y.lo, .int .i64 a.y.hi, .int .i64 a.s.lo, .int .i64 a.s.hi, .int .i64 a.d.lo, .int .i64 a.d.hi] 68)).alloc (.cells #[.int .i64 b.x.lo, .int .i64 b.x.hi, .int .i64 b.y.lo, .int .i64 b.y.hi, .int .i64 b.s.lo, .int .i64 b.s.hi, .int .i64 b.d.lo, .int .i64 b.d.hi] 68)).alloc (.cells #[.int .i64 0, .int .i64 0, .int .i64 0, .int .i64 0, .int .i64 0, .int .i64 0, .int .i64 0, .int .i64 0] 173)).alloc (.cells #[.int .i64 0, .int .i64 0, .int .i64 0, .int .i64 0, .int .i64 0, .int .i64 0, .int .i64 0, .int .i64 0] 173) := ⟨_, rfl⟩
  have k2 : Blk w1 w.heap.size 68 #[.int .i64 a.x.lo, .int .i64 a.x.hi, .int .i64 a.y.lo, .int .i64 a.y.hi, .int .i64 a.s.lo, .int .i64 a.s.hi, .int .i64 a.d.lo, .int .i64 a.d.hi] := by rw [hw1]; exact (((Blk.new _ _ _).alloc _).alloc _).alloc _
  have k3 : Blk w1 (w.heap.size + 1) 68 #[.int .i64 b.x.lo, .int .i64 b.x.hi, .int .i64 b.y.lo, .int .i64 b.y.hi, .int .i64 b.s.lo, .int .i64 b.s.hi, .int .i64 b.d.lo, .int .i64 b.d.hi] := by rw [hw1]; exact ((Blk.newAt (by simp)).alloc _).alloc _
  have k4 : Blk w1 (w.heap.size + 1 + 1) 173 #[.int .i64 0, .int .i64 0, .int .i64 0, .int .i64 0, .int .i64 0, .int .i64 0, .int .i64 0, .int .i64 0] := by rw [hw1]; exact (Blk.newAt (by simp)).alloc _
  have k5 : Blk w1 (w.heap.size + 1 + 1 + 1) 173 #[.int .i64 0, .int .i64 0, .int .i64 0, .int .i64 0, .int .i64 0, .int .i64 0, .int .i64 0, .int .i64 0] := by rw [hw1]; exact Blk.newAt (by simp)
  have hb : Below w.heap.size w w1 := by rw [hw1]; exact ((((Below.refl _ _).alloc (Nat.le_refl _) _).alloc (by simp) _).alloc (by simp; omega) _).alloc (by simp; omega) _
  go_enter Tryz.func185, Tryz.ntmps185
  go_wp2_with fail
  rw [← hw1]
  clear hw1
  refine wp_held_np (fun w' : World => (∀ j, w'.cell? ⟨w.heap.size, j, none⟩ = #[Value.int .i64 a.x.lo, .int .i64 a.x.hi, .int .i64 a.y.lo, .int .i64 a.y.hi, .int .i64 a.s.lo, .int .i64 a.s.hi, .int .i64 a.d.lo, .int .i64 a.d.hi][j]?) ∧ (∀ j, w'.cell? ⟨w.heap.size + 1, j, none⟩ = #[Value.int .i64 b.x.lo, .int .i64 b.x.hi, .int .i64 b.y.lo, .int .i64 b.y.hi, .int .i64 b.s.lo, .int .i64 b.s.hi, .int .i64 b.d.lo, .int .i64 b.d.hi][j]?)) (by kernel_rfl) ?_
  have hbel : Below w1.heap.size w1 w1.drew := (Below.refl _ _).drew
  replace k2 := k2.below hbel
  replace k3 := k3.below hbel
  replace k4 := k4.below hbel
  replace k5 := k5.below hbel
  replace hb := hb.trans (hbel.mono hb.size)
  clear hbel
  generalize w1.drew = W at *
  have hS : (fun w' : World => (∀ j, w'.cell? ⟨w.heap.size, j, none⟩ = #[Value.int .i64 a.x.lo, .int .i64 a.x.hi, .int .i64 a.y.lo, .int .i64 a.y.hi, .int .i64 a.s.lo, .int .i64 a.s.hi, .int .i64 a.d.lo, .int .i64 a.d.hi][j]?) ∧ (∀ j, w'.cell? ⟨w.heap.size + 1, j, none⟩ = #[Value.int .i64 b.x.lo, .int .i64 b.x.hi, .int .i64 b.y.lo, .int .i64 b.y.hi, .int .i64 b.s.lo, .int .i64 b.s.hi, .int .i64 b.d.lo, .int .i64 b.d.hi][j]?)) W := ⟨k2.cell, k3.cell⟩
  refine hTk 0 10 ?_
  refine hTk 2 12 ?_
  refine hOne 1 fun K hK => ?_
  go_simp
  refine (hc1 _).mono ?_
  rintro e W2 ⟨rfl, hbel⟩
  clear hS
  replace k2 := k2.below hbel
  replace k3 := k3.below hbel
  replace k4 := k4.below hbel
  replace k5 := k5.below hbel
  replace hb := hb.trans (hbel.mono hb.size)
  clear hbel
  have hS : (fun w' : World => (∀ j, w'.cell? ⟨w.heap.size, j, none⟩ = #[Value.int .i64 a.x.lo, .int .i64 a.x.hi, .int .i64 a.y.lo, .int .i64 a.y.hi, .int .i64 a.s.lo, .int .i64 a.s.hi, .int .i64 a.d.lo, .int .i64 a.d.hi][j]?) ∧ (∀ j, w'.cell? ⟨w.heap.size + 1, j, none⟩ = #[Value.int .i64 b.x.lo, .int .i64 b.x.hi, .int .i64 b.y.lo, .int .i64 b.y.hi, .int .i64 b.s.lo, .int .i64 b.s.hi, .int .i64 b.d.lo, .int .i64 b.d.hi][j]?)) W2 := ⟨k2.cell, k3.cell⟩
  refine hK _ _ hS ?_
  clear hK K
  try simp only [Act.put, sA, sZ, sS]
  refine hOne 3 fun K hK => ?_
  go_simp
  refine (hc2 _).mono ?_
  rintro e W3 ⟨rfl, hbel⟩
  clear hS
  replace k2 := k2.below hbel
  replace k3 := k3.below hbel
  replace k4 := k4.below hbel
  replace k5 := k5.below hbel
  replace hb := hb.trans (hbel.mono hb.size)
  clear hbel
  have hS : (fun w' : World => (∀ j, w'.cell? ⟨w.heap.size, j, none⟩ = #[Value.int .i64 a.x.lo, .int .i64 a.x.hi, .int .i64 a.y.lo, .int .i64 a.y.hi, .int .i64 a.s.lo, .int .i64 a.s.hi, .int .i64 a.d.lo, .int .i64 a.d.hi][j]?) ∧ (∀ j, w'.cell? ⟨w.heap.size + 1, j, none⟩ = #[Value.int .i64 b.x.lo, .int .i64 b.x.hi, .int .i64 b.y.lo, .int .i64 b.y.hi, .int .i64 b.s.lo, .int .i64 b.s.hi, .int .i64 b.d.lo, .int .i64 b.d.hi][j]?)) W3 := ⟨k2.cell, k3.cell⟩
  refine hK _ _ hS ?_
  clear hK K
  try simp only [Act.put, sA, sZ, sS]
  have hbel := (Below.refl W3.heap.size W3).alloc (Nat.le_refl _) (.cells #[.int .i64 0, .int .i64 0] 36)
  have kl := Blk.new W3 36 #[.int .i64 0, .int .i64 0]
  replace k2 := k2.below hbel
  replace k3 := k3.below hbel
  replace k4 := k4.below hbel
  replace k5 := k5.below hbel
  replace hb := hb.trans (hbel.mono hb.size)
  clear hbel
  have hS2 : (fun w' : World => (∀ j, w'.cell? ⟨w.heap.size, j, none⟩ = #[Value.int .i64 a.x.lo, .int .i64 a.x.hi, .int .i64 a.y.lo, .int .i64 a.y.hi, .int .i64 a.s.lo, .int .i64 a.s.hi, .int .i64 a.d.lo, .int .i64 a.d.hi][j]?) ∧ (∀ j, w'.cell? ⟨w.heap.size + 1, j, none⟩ = #[Value.int .i64 b.x.lo, .int .i64 b.x.hi, .int .i64 b.y.lo, .int .i64 b.y.hi, .int .i64 b.s.lo, .int .i64 b.s.hi, .int .i64 b.d.lo, .int .i64 b.d.hi][j]?)) (W3.alloc (.cells #[.int .i64 0, .int .i64 0] 36)) := ⟨k2.cell, k3.cell⟩
  refine hOne 4 fun K hK => ?_
  go_simp
  refine hK _ _ hS2 ?_
  clear hK K hS
  have hS := hS2
  clear hS2
  try simp only [Act.put, sA, sZ, sS]
  generalize W3.alloc (.cells #[.int .i64 0, .int .i64 0] 36) = W4 at *
  generalize W3.heap.size = gl at *
  have hsl := SlAt.two kl
  refine hOne 5 fun K hK => ?_
  go_simp
  refine (hfi _ _ hsl).mono ?_
  rintro e w' ⟨rfl, rfl⟩
  refine hK _ _ hS ?_
  clear hK K hsl kl
  try simp only [Act.put, sA, sZ, sS]
  refine hTk 6 7 ?_
  refine wpAnyH_done (by kernel_rfl) (noPanic_normal ?_) _
  clear hS hc1 hc2
  obtain ⟨c2, f2, l2⟩ := k2.rules
  go_wp2_with fail
  clear c2 f2 l2
  refine (hr1 _).mono ?_
  rintro e W5 ⟨rfl, hbel⟩
  clear hr1
  replace k2 := k2.below hbel
  replace k3 := k3.below hbel
  replace k4 := k4.below hbel
  replace k5 := k5.below hbel
  replace hb := hb.trans (hbel.mono hb.size)
  clear hbel
  go_wp2_with fail
  refine (ht1 _).mono ?_
  rintro e W6 ⟨rfl, hbel⟩
  clear ht1
  replace k2 := k2.below hbel
  replace k3 := k3.below hbel
  replace k4 := k4.below hbel
  replace k5 := k5.below hbel
  replace hb := hb.trans (hbel.mono hb.size)
  clear hbel
  have k4a := k4.set8 (.int .i64 x.x.lo) (.int .i64 x.x.hi) (.int .i64 x.y.lo) (.int .i64 x.y.hi) (.int .i64 x.s.lo) (.int .i64 x.s.hi) (.int .i64 x.d.lo) (.int .i64 x.d.hi)
  have k2a := far_set8 k2 (show w.heap.size ≠ w.heap.size + 1 + 1 by omega) (.int .i64 x.x.lo) (.int .i64 x.x.hi) (.int .i64 x.y.lo) (.int .i64 x.y.hi) (.int .i64 x.s.lo) (.int .i64 x.s.hi) (.int .i64 x.d.lo) (.int .i64 x.d.hi)
  have k3a := far_set8 k3 (show w.heap.size + 1 ≠ w.heap.size + 1 + 1 by omega) (.int .i64 x.x.lo) (.int .i64 x.x.hi) (.int .i64 x.y.lo) (.int .i64 x.y.hi) (.int .i64 x.s.lo) (.int .i64 x.s.hi) (.int .i64 x.d.lo) (.int .i64 x.d.hi)
  have k5a := far_set8 k5 (show w.heap.size + 1 + 1 + 1 ≠ w.heap.size + 1 + 1 by omega) (.int .i64 x.x.lo) (.int .i64 x.x.hi) (.int .i64 x.y.lo) (.int .i64 x.y.hi) (.int .i64 x.s.lo) (.int .i64 x.s.hi) (.int .i64 x.d.lo) (.int .i64 x.d.hi)
  have hba := below_set8 (g := w.heap.size + 1 + 1) hb (by omega) (.int .i64 x.x.lo) (.int .i64 x.x.hi) (.int .i64 x.y.lo) (.int .i64 x.y.hi) (.int .i64 x.s.lo) (.int .i64 x.s.hi) (.int .i64 x.d.lo) (.int .i64 x.d.hi)
  obtain ⟨wz, hwz⟩ : ∃ q, q = set8 W6 (w.heap.size + 1 + 1) (.int .i64 x.x.lo) (.int .i64 x.x.hi) (.int .i64 x.y.lo) (.int .i64 x.y.hi) (.int .i64 x.s.lo) (.int .i64 x.s.hi) (.int .i64 x.d.lo) (.int .i64 x.d.hi) := ⟨_, rfl⟩
  rw [← hwz] at k4a k2a k3a k5a hba
  simp only [set8] at hwz
  obtain ⟨c4, f4, l4⟩ := k4.rules
  obtain ⟨c3, f3, l3⟩ := k3.rules
  go_wp2_with fail
  rw [← hwz]
  clear hwz c4 f4 l4 c3 f3 l3 k2 k3 k4 k5 hb
  refine (hr2 _).mono ?_
  rintro e W7 ⟨rfl, hbel⟩
  clear hr2
  replace k3 := k3a.below hbel
  replace k4 := k4a.below hbel
  replace k5 := k5a.below hbel
  replace hb := hba.trans (hbel.mono hba.size)
  clear hbel k2a k3a k4a k5a hba
  go_wp2_with fail
  refine (ht2 _).mono ?_
  rintro e W8 ⟨rfl, hbel⟩
  clear ht2
  replace k4 := k4.below hbel
  replace k5 := k5.below hbel
  replace hb := hb.trans (hbel.mono hb.size)
  clear hbel k3
  have k5a := (k5.set8 (.int .i64 y.x.lo) (.int .i64 y.x.hi) (.int .i64 y.y.lo) (.int .i64 y.y.hi) (.int .i64 y.s.lo) (.int .i64 y.s.hi) (.int .i64 y.d.lo) (.int .i64 y.d.hi))
  have k4a := far_set8 k4 (show w.heap.size + 1 + 1 ≠ w.heap.size + 1 + 1 + 1 by omega) (.int .i64 y.x.lo) (.int .i64 y.x.hi) (.int .i64 y.y.lo) (.int .i64 y.y.hi) (.int .i64 y.s.lo) (.int .i64 y.s.hi) (.int .i64 y.d.lo) (.int .i64 y.d.hi)
  have hba := below_set8 (g := w.heap.size + 1 + 1 + 1) hb (by omega) (.int .i64 y.x.lo) (.int .i64 y.x.hi) (.int .i64 y.y.lo) (.int .i64 y.y.hi) (.int .i64 y.s.lo) (.int .i64 y.s.hi) (.int .i64 y.d.lo) (.int .i64 y.d.hi)
  obtain ⟨wy, hwy⟩ : ∃ q, q = set8 W8 (w.heap.size + 1 + 1 + 1) (.int .i64 y.x.lo) (.int .i64 y.x.hi) (.int .i64 y.y.lo) (.int .i64 y.y.hi) (.int .i64 y.s.lo) (.int .i64 y.s.hi) (.int .i64 y.d.lo) (.int .i64 y.d.hi) := ⟨_, rfl⟩
  rw [← hwy] at k5a k4a hba
  simp only [set8] at hwy
  obtain ⟨c5, f5, l5⟩ := k5.rules
  have hsz8 : wy.heap.size = W8.heap.size := by rw [hwy]; simp [World.setCell]
  have kl : Blk (wy.alloc (.cells #[.int .i64 0, .int .i64 0] 36)) W8.heap.size 36 #[.int .i64 0, .int .i64 0] := by rw [← hsz8]; exact Blk.new _ _ _
  have hbel := (Below.refl wy.heap.size wy).alloc (Nat.le_refl _) (.cells #[.int .i64 0, .int .i64 0] 36)
  replace k5a := k5a.below hbel
  replace k4a := k4a.below hbel
  replace hba := hba.trans (hbel.mono hba.size)
  clear hbel hsz8
  go_wp2_with fail
  rw [← hwy]
  clear hwy c5 f5 l5 k4 k5 hb
  generalize wy.alloc (.cells #[.int .i64 0, .int .i64 0] 36) = W9 at *
  generalize W8.heap.size = g9 at *
  refine (hfi _ _ (SlAt.two kl)).mono ?_
  rintro e w' ⟨rfl, rfl⟩
  clear hfi kl
  go_wp2_with fail
  refine wp_held_np (fun w' : World => (∀ j, w'.cell? ⟨w.heap.size + 1 + 1, j, none⟩ = #[Value.int .i64 x.x.lo, .int .i64 x.x.hi, .int .i64 x.y.lo, .int .i64 x.y.hi, .int .i64 x.s.lo, .int .i64 x.s.hi, .int .i64 x.d.lo, .int .i64 x.d.hi][j]?) ∧ (∀ j, w'.cell? ⟨w.heap.size + 1 + 1 + 1, j, none⟩ = #[Value.int .i64 y.x.lo, .int .i64 y.x.hi, .int .i64 y.y.lo, .int .i64 y.y.hi, .int .i64 y.s.lo, .int .i64 y.s.hi, .int .i64 y.d.lo, .int .i64 y.d.hi][j]?)) (by kernel_rfl) ?_
  replace k4a := k4a.drew
  replace k5a := k5a.drew
  replace hba := hba.drew
  generalize W9.drew = Wd at *
  have hS : (fun w' : World => (∀ j, w'.cell? ⟨w.heap.size + 1 + 1, j, none⟩ = #[Value.int .i64 x.x.lo, .int .i64 x.x.hi, .int .i64 x.y.lo, .int .i64 x.y.hi, .int .i64 x.s.lo, .int .i64 x.s.hi, .int .i64 x.d.lo, .int .i64 x.d.hi][j]?) ∧ (∀ j, w'.cell? ⟨w.heap.size + 1 + 1 + 1, j, none⟩ = #[Value.int .i64 y.x.lo, .int .i64 y.x.hi, .int .i64 y.y.lo, .int .i64 y.y.hi, .int .i64 y.s.lo, .int .i64 y.s.hi, .int .i64 y.d.lo, .int .i64 y.d.hi][j]?)) Wd := ⟨k4a.cell, k5a.cell⟩
  refine hTk 0 42 ?_
  refine hTk 1 43 ?_
  have k4z := k4a.set8 (.int .i64 x.x.lo) (.int .i64 x.x.hi) (.int .i64 x.y.lo) (.int .i64 x.y.hi) (.int .i64 x.s.lo) (.int .i64 x.s.hi) (.int .i64 x.d.lo) (.int .i64 x.d.hi)
  have k5z := far_set8 k5a (show w.heap.size + 1 + 1 + 1 ≠ w.heap.size + 1 + 1 by omega) (.int .i64 x.x.lo) (.int .i64 x.x.hi) (.int .i64 x.y.lo) (.int .i64 x.y.hi) (.int .i64 x.s.lo) (.int .i64 x.s.hi) (.int .i64 x.d.lo) (.int .i64 x.d.hi)
  have hbz := below_set8 (g := w.heap.size + 1 + 1) hba (by omega) (.int .i64 x.x.lo) (.int .i64 x.x.hi) (.int .i64 x.y.lo) (.int .i64 x.y.hi) (.int .i64 x.s.lo) (.int .i64 x.s.hi) (.int .i64 x.d.lo) (.int .i64 x.d.hi)
  obtain ⟨wz, hwz⟩ : ∃ q, q = set8 Wd (w.heap.size + 1 + 1) (.int .i64 x.x.lo) (.int .i64 x.x.hi) (.int .i64 x.y.lo) (.int .i64 x.y.hi) (.int .i64 x.s.lo) (.int .i64 x.s.hi) (.int .i64 x.d.lo) (.int .i64 x.d.hi) := ⟨_, rfl⟩
  rw [← hwz] at k4z k5z hbz
  simp only [set8] at hwz
  obtain ⟨c4, f4, l4⟩ := k4a.rules
  refine hOne 2 fun K hK => ?_
  go_simp
  rw [← hwz]
  refine hK _ _ ⟨k4z.cell, k5z.cell⟩ ?_
  clear hK K hwz c4 f4 l4 k4a k5a hba hS
  try simp only [Act.put, sA, sZ, sS]
  have k5y := k5z.set8 (.int .i64 y.x.lo) (.int .i64 y.x.hi) (.int .i64 y.y.lo) (.int .i64 y.y.hi) (.int .i64 y.s.lo) (.int .i64 y.s.hi) (.int .i64 y.d.lo) (.int .i64 y.d.hi)
  have k4y := far_set8 k4z (show w.heap.size + 1 + 1 ≠ w.heap.size + 1 + 1 + 1 by omega) (.int .i64 y.x.lo) (.int .i64 y.x.hi) (.int .i64 y.y.lo) (.int .i64 y.y.hi) (.int .i64 y.s.lo) (.int .i64 y.s.hi) (.int .i64 y.d.lo) (.int .i64 y.d.hi)
  have hby := below_set8 (g := w.heap.size + 1 + 1 + 1) hbz (by omega) (.int .i64 y.x.lo) (.int .i64 y.x.hi) (.int .i64 y.y.lo) (.int .i64 y.y.hi) (.int .i64 y.s.lo) (.int .i64 y.s.hi) (.int .i64 y.d.lo) (.int .i64 y.d.hi)
  obtain ⟨wy2, hwy⟩ : ∃ q, q = set8 wz (w.heap.size + 1 + 1 + 1) (.int .i64 y.x.lo) (.int .i64 y.x.hi) (.int .i64 y.y.lo) (.int .i64 y.y.hi) (.int .i64 y.s.lo) (.int .i64 y.s.hi) (.int .i64 y.d.lo) (.int .i64 y.d.hi) := ⟨_, rfl⟩
  rw [← hwy] at k4y k5y hby
  simp only [set8] at hwy
  obtain ⟨c5, f5, l5⟩ := k5z.rules
  refine hOne 3 fun K hK => ?_
  go_simp
  rw [← hwy]
  have hS : (fun w' : World => (∀ j, w'.cell? ⟨w.heap.size + 1 + 1, j, none⟩ = #[Value.int .i64 x.x.lo, .int .i64 x.x.hi, .int .i64 x.y.lo, .int .i64 x.y.hi, .int .i64 x.s.lo, .int .i64 x.s.hi, .int .i64 x.d.lo, .int .i64 x.d.hi][j]?) ∧ (∀ j, w'.cell? ⟨w.heap.size + 1 + 1 + 1, j, none⟩ = #[Value.int .i64 y.x.lo, .int .i64 y.x.hi, .int .i64 y.y.lo, .int .i64 y.y.hi, .int .i64 y.s.lo, .int .i64 y.s.hi, .int .i64 y.d.lo, .int .i64 y.d.hi][j]?)) wy2 := ⟨k4y.cell, k5y.cell⟩
  refine hK _ _ hS ?_
  clear hK K hwy c5 f5 l5 k4z k5z hbz
  try simp only [Act.put, sA, sZ, sS]
  refine hTk 4 6 ?_
  refine wpAnyH_done (by kernel_rfl) (noPanic_normal ?_) _
  clear hS
  go_wp2
  obtain ⟨c4, f4, l4⟩ := k4y.rules
  obtain ⟨c5, f5, l5⟩ := k5y.rules
  exact bodyPost_ret (v := .tuple #[.agg #[.int .i64 x.x.lo, .int .i64 x.x.hi, .int .i64 x.y.lo, .int .i64 x.y.hi, .int .i64 x.s.lo, .int .i64 x.s.hi, .int .i64 x.d.lo, .int .i64 x.d.hi], .agg #[.int .i64 y.x.lo, .int .i64 y.x.hi, .int .i64 y.y.lo, .int .i64 y.y.hi, .int .i64 y.s.lo, .int .i64 y.s.hi, .int .i64 y.d.lo, .int .i64 y.d.hi], .int .i64 0]) (by simp [results, Tryz.results185, go_sem, c4, c5]) rfl ⟨rfl, hby⟩
theorem minus_mid {a b : Reg} (ha : okReg a = true) (hb : okReg b = true) : midR (zipR minusB a b) := by
  obtain ⟨⟨x1, x2, x3⟩, ⟨y1, y2, y3⟩, ⟨s1, s2, s3⟩, d1, d2, d3⟩ := okReg_iff.1 ha
  obtain ⟨⟨a1, a2, a3⟩, ⟨b1, b2, b3⟩, ⟨c1, c2, c3⟩, e1, e2, e3⟩ := okReg_iff.1 hb
  unfold midR midB zipR minusB
  dsimp only
  omega
theorem Gap_any (a b x y : Reg) (w : World) (ha : okReg a = true) (hb0 : okReg b = true) (hx : tightO a = some x) (hy : tightO b = some y) :
    Calls Tryz.prog 170 #[.agg (regA a), .agg (regA b)] w fun e w' => e = .returned (.tuple #[.agg #[.int .i64 (gapS x y).lo, .int .i64 (gapS x y).hi], .int .i64 0]) ∧ Below w.heap.size w w' := by
  have h1 := fun W => two_any a b x y W ha hb0 hx hy
  have hox := tight_ok ha hx
  have hoy := tight_ok hb0 hy
  have h2 := fun W => combined_any x y minusB 187 W eg_minusB (okReg_mid hox) (okReg_mid hoy) op_minusB
  have h3 := fun W => squares_any (zipR minusB x y) W (minus_mid hox hoy)
  have hg : gapS x y = sqsS (zipR minusB x y) := rfl
  rw [hg]
  clear hg
  generalize zipR minusB x y = M at *
  generalize sqsS M = B at *
  generalize (pckAll ltLo M).isSome = S at *
  simp only [regA] at h1 h2 h3 ⊢
  clear ha hb0 hx hy hox hoy
  obtain ⟨w1, hw1⟩ : ∃ w1, w1 = ((w.alloc (.cells #[.int .i64 a.x.lo, .int .i64 a.x.hi, .int .i64 a.y.lo, .int .i64 a.y.hi, .int .i64 a.s.lo, .int .i64 a.s.hi, .int .i64 a.d.lo, .int .i64 a.d.hi] 68)).alloc (.cells #[.int .i64 b.x.lo, .int .i64 b.x.hi, .int .i64 b.y.lo, .int .i64 b.y.hi, .int .i64 b.s.lo, .int .i64 b.s.hi, .int .i64 b.d.lo, .int .i64 b.d.hi] 68)).alloc (.cells #[.int .i64 0, .int .i64 0] 26) := ⟨_, rfl⟩
  have k2 : Blk w1 w.heap.size 68 #[.int .i64 a.x.lo, .int .i64 a.x.hi, .int .i64 a.y.lo, .int .i64 a.y.hi, .int .i64 a.s.lo, .int .i64 a.s.hi, .int .i64 a.d.lo, .int .i64 a.d.hi] := by rw [hw1]; exact ((Blk.new _ _ _).alloc _).alloc _
  have k3 : Blk w1 (w.heap.size + 1) 68 #[.int .i64 b.x.lo, .int .i64 b.x.hi, .int .i64 b.y.lo, .int .i64 b.y.hi, .int .i64 b.s.lo, .int .i64 b.s.hi, .int .i64 b.d.lo, .int .i64 b.d.hi] := by rw [hw1]; exact (Blk.newAt (by simp)).alloc _
  have k4 : Blk w1 (w.heap.size + 1 + 1) 26 #[.int .i64 0, .int .i64 0] := by rw [hw1]; exact Blk.newAt (by simp)
  have hb : Below w.heap.size w w1 := by rw [hw1]; exact (((Below.refl _ _).alloc (Nat.le_refl _) _).alloc (by simp) _).alloc (by simp; omega) _
  go_enter Tryz.func170, Tryz.ntmps170
  go_wp2_with fail
  rw [← hw1]
  clear hw1
  refine (h1 _).mono ?_
  rintro e W ⟨rfl, hbel⟩
  clear h1
  replace k2 := k2.below hbel
  replace k3 := k3.below hbel
  replace k4 := k4.below hbel
  replace hb := hb.trans (hbel.mono hb.size)
  clear hbel
  go_wp2_with fail
  have hbel := ((Below.refl W.heap.size W).alloc (Nat.le_refl _) (.cells #[.int .i64 x.x.lo, .int .i64 x.x.hi, .int .i64 x.y.lo, .int .i64 x.y.hi, .int .i64 x.s.lo, .int .i64 x.s.hi, .int .i64 x.d.lo, .int .i64 x.d.hi] 173)).alloc (by simp) (.cells #[.int .i64 y.x.lo, .int .i64 y.x.hi, .int .i64 y.y.lo, .int .i64 y.y.hi, .int .i64 y.s.lo, .int .i64 y.s.hi, .int .i64 y.d.lo, .int .i64 y.d.hi] 173)
  replace k2 := k2.below hbel
  replace k3 := k3.below hbel
  replace k4 := k4.below hbel
  replace hb := hb.trans (hbel.mono hb.size)
  clear hbel
  generalize (W.alloc (.cells #[.int .i64 x.x.lo, .int .i64 x.x.hi, .int .i64 x.y.lo, .int .i64 x.y.hi, .int .i64 x.s.lo, .int .i64 x.s.hi, .int .i64 x.d.lo, .int .i64 x.d.hi] 173)).alloc (.cells #[.int .i64 y.x.lo, .int .i64 y.x.hi, .int .i64 y.y.lo, .int .i64 y.y.hi, .int .i64 y.s.lo, .int .i64 y.s.hi, .int .i64 y.d.lo, .int .i64 y.d.hi] 173) = W2 at *
  refine (h2 _).mono ?_
  rintro e W3 ⟨rfl, hbel⟩
  clear h2
  replace k2 := k2.below hbel
  replace k3 := k3.below hbel
  replace k4 := k4.below hbel
  replace hb := hb.trans (hbel.mono hb.size)
  clear hbel
  go_wp2_with fail
  refine (h3 _).mono ?_
  rintro e W4 ⟨rfl, hbel⟩
  clear h3
  replace k2 := k2.below hbel
  replace k3 := k3.below hbel
  replace k4 := k4.below hbel
  replace hb := hb.trans (hbel.mono hb.size)
  clear hbel
  have kz0 := (k4.set_ 0 (.int .i64 B.lo)).set_ 1 (.int .i64 B.hi)
  simp only [sA, sZ, sS] at kz0
  have kz := kz0.alloc (.cells #[.int .i64 B.lo, .int .i64 B.hi] 26)
  have bz0 := (hb.setCell (p := ⟨w.heap.size + 1 + 1, 0, none⟩) (by dsimp only; omega) (.int .i64 B.lo)).setCell (p := ⟨w.heap.size + 1 + 1, 1, none⟩) (by dsimp only; omega) (.int .i64 B.hi)
  have bz := bz0.alloc bz0.size (.cells #[.int .i64 B.lo, .int .i64 B.hi] 26)
  obtain ⟨wz, hwz⟩ : ∃ x, x = ((W4.setCell ⟨w.heap.size + 1 + 1, 0, none⟩ (.int .i64 B.lo)).setCell ⟨w.heap.size + 1 + 1, 1, none⟩ (.int .i64 B.hi)).alloc (.cells #[.int .i64 B.lo, .int .i64 B.hi] 26) := ⟨_, rfl⟩
  rw [← hwz] at kz bz
  obtain ⟨c4, f4, l4⟩ := k4.rules
  go_wp2
  rw [← hwz]
  clear hwz c4 f4 l4
  obtain ⟨c4, f4, l4⟩ := kz.rules
  exact bodyPost_ret (v := .tuple #[.agg #[.int .i64 B.lo, .int .i64 B.hi], .int .i64 0]) (by simp [results, Tryz.results170, go_sem, c4]) rfl ⟨rfl, bz⟩
end Go.Proofs.YtcmbmmpihiekhaaGreat
