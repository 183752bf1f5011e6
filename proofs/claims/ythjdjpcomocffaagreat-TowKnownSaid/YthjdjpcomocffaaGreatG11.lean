/-
  Walks: the squared distances of the points in bounds from the middle (package region).
-/
import Derived.Test.YthjdjpcomocffaaGreatG9
namespace Go.Proofs.YthjdjpcomocffaaGreat
open Go.RowKit Go.Shelf
set_option linter.unusedSimpArgs false
set_option linter.unusedVariables false
attribute [local go_sem] Oper.semAt_some

/-- The least and the greatest squared distance of the points of a row. -/
def sqB (q : RRow) : Bnd := ⟨q.x * q.x + max q.fr (min 0 q.to) * max q.fr (min 0 q.to), q.x * q.x + max (q.fr * q.fr) (q.to * q.to)⟩
def sqL (r : Reg) : List Bnd := (rowsL r).map sqB
def pickO (f : Bnd → Bnd → Bool) : Option Bnd → Bnd → Option Bnd
  | none, b => some b
  | some c, b => if f b c = true then some b else some c
def pckTo (f : Bnd → Bnd → Bool) (r : Reg) (k : Nat) : Option Bnd := ((sqL r).take k).foldl (pickO f) none
theorem pckTo_succ (f : Bnd → Bnd → Bool) {r : Reg} {k : Nat} {q : RRow} (h : (rowsL r)[k]? = some q) : pckTo f r (k + 1) = pickO f (pckTo f r k) (sqB q) := by
  unfold pckTo
  have e : (sqL r)[k]? = some (sqB q) := by unfold sqL; rw [List.getElem?_map, h]; rfl
  rw [List.take_add_one, e, List.foldl_append]; rfl
theorem pckTo_zero (f : Bnd → Bnd → Bool) (r : Reg) : pckTo f r 0 = none := rfl
theorem pickO_some (f : Bnd → Bnd → Bool) (o : Option Bnd) (b : Bnd) : (pickO f o b).isSome = true := by
  cases o with
  | none => rfl
  | some c => unfold pickO; dsimp only; split <;> rfl
def pckAll (f : Bnd → Bnd → Bool) (r : Reg) : Option Bnd := (sqL r).foldl (pickO f) none
theorem pckTo_all (f : Bnd → Bnd → Bool) (r : Reg) : pckTo f r (rowsL r).length = pckAll f r := by
  unfold pckTo pckAll
  rw [List.take_of_length_le (by unfold sqL; rw [List.length_map]; exact Nat.le_refl _)]
def ltLo (a b : Bnd) : Bool := decide (a.lo < b.lo)
def gtHi (a b : Bnd) : Bool := decide (b.hi < a.hi)
/-- All squared distances: their bounds. -/
def sqsS (r : Reg) : Bnd := ⟨(optB (pckAll ltLo r)).lo, (optB (pckAll gtHi r)).hi⟩
/-- What region.Gap says of two tight regions. -/
def gapS (a b : Reg) : Bnd := sqsS (zipR minusB a b)
def SqG (r : Reg) (k : Nat) (vs : Array Value) (_ : World) : Prop := ∃ q, (rowsL r)[k]? = some q ∧ vs = #[.agg #[.int .i64 (sqB q).lo, .int .i64 (sqB q).hi]]
def SqI (r : Reg) (gf gp : Nat) (W : World) : Prop := FourL r gf W ∧ Blk W gp 65 #[.int .i64 0, .int .i64 0]
theorem sq_bd {a A : Int} (h1 : -A ≤ a) (h2 : a ≤ A) : 0 ≤ a * a ∧ a * a ≤ A * A := by
  have h := smul_bd h1 h2 h1 h2
  refine ⟨?_, h.2⟩
  rcases Int.le_total 0 a with h3 | h3
  · exact Int.mul_nonneg h3 h3
  · have := Int.mul_nonneg (show 0 ≤ -a by omega) (show 0 ≤ -a by omega)
    rw [Int.neg_mul_neg] at this; exact this
theorem row_big {r : Reg} (hr : midR r) {k : Nat} {q : RRow} (h : (rowsL r)[k]? = some q) : (-1000000 ≤ q.x ∧ q.x ≤ 1000000) ∧ (-3000000 ≤ q.fr ∧ q.fr ≤ 3000000) ∧ (-3000000 ≤ q.to ∧ q.to ≤ 3000000) := by
  obtain ⟨j, hj, e, hle⟩ := rowsTo_mem (List.mem_of_getElem? h)
  obtain ⟨⟨x1, x2, x3, x4⟩, ⟨y1, y2, y3, y4⟩, ⟨s1, s2, s3, s4⟩, ⟨d1, d2, d3, d4⟩⟩ := hr
  have hn : r.x.lo + (j : Int) ≤ r.x.hi := by unfold nX at hj; omega
  subst e
  unfold rowB at *
  dsimp only at *
  omega
set_option maxRecDepth 100000 in
set_option maxHeartbeats 1000000 in
theorem squares1_iter (m : Nat) (r : Reg) (gf gp : Nat) (hm1 : 1 ≤ m) (hr : midR r) :
    IterK Fence.wide m Tryz.prog 105 #[.pointer (some ⟨gf, 0, none⟩), .pointer (some ⟨gp, 0, none⟩)] (rowsL r).length (SqG r) (SqI r gf gp) := by
  intro lr J Jx W hJ hJx hY hL h0
  have hmax := max2_int
  have hmin := min2_int
  have hbig := fun k q h => row_big hr (k := k) (q := q) h
  refine callsIn_of_wp_marks Tryz.func105 rfl trivial ?_ rfl
  simp only [Tryz.ntmps105, List.size_toArray, List.length_cons, List.length_nil, Nat.reduceAdd, Nat.reduceSub, Array.replicate_succ, Array.replicate_zero, List.push_toArray, List.append_toArray, List.nil_append, List.cons_append]
  have k1 : Blk W gf 134 (regA r) := hL.1
  have k1a := k1.alloc (.cells #[.func (.yield lr) #[] #[]] 81)
  simp only [regA] at k1a
  obtain ⟨c1, f1, l1⟩ := k1a.rules
  have hst : ∀ (a : Addr) (fn : Fn) (b c : Array Value) (m : Mode) (w : World), (store a (.func fn b c) m).run Tryz.prog w = stored Tryz.prog w a (.func fn b c) m := fun _ _ _ _ _ _ => run_store _ _ _ _ _ rfl
  gi_wp2_with fail
  refine ⟨trivial, ?_⟩
  refine (callsIn_wide.2 (rows_any r _)).mono ?_
  rintro e w1 ⟨rfl, rfl⟩
  clear c1 f1 l1
  gi_wp2_with fail
  obtain ⟨W0, hW0⟩ : ∃ W0, W0 = (W.alloc (.cells #[.func (.yield lr) #[] #[]] 81)).alloc (.cells (regA r) 134) := ⟨_, rfl⟩
  rw [← hW0]
  have hL0 : FourL r (W.heap.size + 1) W0 := by rw [hW0]; exact Blk.newAt (by simp)
  have k2 : Blk W0 W.heap.size 81 #[.func (.yield lr) #[] #[]] := by rw [hW0]; exact (Blk.new _ _ _).alloc _
  have bW : Below W.heap.size W W0 := by rw [hW0]; exact ((Below.refl _ _).alloc (Nat.le_refl _) _).alloc (by simp) _
  have hsz : W0.heap.size = W.heap.size + 2 := by rw [hW0]; simp
  have cW : Calm W.heap.size W W0 := calm_of_below bW (Nat.le_refl _)
  clear hW0
  refine wp_range rfl hm1 (gf := 109) (lb := #[.pointer (some ⟨W.heap.size + 1, 0, none⟩)]) rfl trivial eg_rows1
    (rows1_iter _ r _ hr) (fun k vs W ⟨q, _, e⟩ => by rw [e]; rfl)
    (fun i A => Blk A W.heap.size 81 #[.func (.yield lr) #[] #[]] ∧ J i A ∧ SqI r gf gp A)
    (fun c A => c = .ret ∧ Jx A) (fun k A B h hc => ⟨calm_blk hc h.1, hJ _ _ _ h.2.1 (hc.mono (by omega)), calm_blk hc h.2.2.1, calm_blk hc h.2.2.2⟩) (fun _ A B h hc => ⟨h.1, hJx _ _ h.2 (hc.mono (by omega))⟩) (fun A B h hc => calm_blk hc h)
    ⟨k2, hJ _ _ _ h0 cW, calm_blk cW hL.1, calm_blk cW hL.2⟩ hL0 ?round ?done ?stop
  case stop =>
    rintro D c W3 hD ⟨rfl, hj⟩ hK
    gi_wp2_with fail
    exact ⟨by simp, .inl ⟨_, _, rfl, run_takeDeferred hK, _, results_none rfl _ _ _, ⟨_, rfl⟩, .inr (hJx _ _ hj (calm_put _ hK rfl (by omega)))⟩⟩
  case done =>
    rintro D W3 hD ⟨-, hj, -⟩ hK
    gi_wp2_with fail
    exact ⟨by simp, .inl ⟨_, _, rfl, run_takeDeferred hK, _, results_none rfl _ _ _, ⟨_, rfl⟩, .inl (hJ _ _ _ hj (calm_put _ hK rfl (by omega)))⟩⟩
  case round =>
    rintro l i vs W3 hW hi ⟨k2, hj, hLo⟩ hLi ⟨q, hq, rfl⟩
    gi_wp2_with fail
    refine ⟨(Below.refl _ _).alloc (Nat.le_refl _) _, fun W2 hc => ?_⟩
    have hc3 : Calm W0.heap.size W3 W2 := (calm_of_below ((Below.refl _ _).alloc (Nat.le_refl _) _) hW).trans hc
    have k3 : Blk W2 W3.heap.size 168 #[.int .i64 q.x, .int .i64 q.fr, .int .i64 q.to] := calm_blk hc (Blk.new _ _ _)
    replace k2 := calm_blk hc3 k2
    replace hLo : SqI r gf gp W2 := ⟨calm_blk hc3 hLo.1, calm_blk hc3 hLo.2⟩
    replace hLi : FourL r (W.heap.size + 1) W2 := calm_blk hc3 hLi
    replace hj := hJ _ _ _ hj (hc3.mono (by omega))
    have hs3 : W3.heap.size < W2.heap.size := by have := hc.1.size; simp at this; omega
    have hW2 : W0.heap.size ≤ W2.heap.size := by omega
    obtain ⟨⟨b1, b2⟩, ⟨b3, b4⟩, b5, b6⟩ := hbig i q hq
    have hval : Hid (sqB q = ⟨q.x * q.x + max q.fr (min 0 q.to) * max q.fr (min 0 q.to), q.x * q.x + max (q.fr * q.fr) (q.to * q.to)⟩) := rfl
    have m1 := sq_bd (a := q.x) (A := 1000000) (by omega) (by omega)
    have m2 := sq_bd (a := max q.fr (min 0 q.to)) (A := 3000000) (by omega) (by omega)
    have m3 := sq_bd (a := q.fr) (A := 3000000) (by omega) (by omega)
    have m4 := sq_bd (a := q.to) (A := 3000000) (by omega) (by omega)
    obtain ⟨near, hnear⟩ : ∃ n, max q.fr (min 0 q.to) = n := ⟨_, rfl⟩
    simp only [hnear] at m2 hval
    have z1 : q.x - 0 = q.x := Int.sub_zero _
    have z2 : near - 0 = near := Int.sub_zero _
    have z3 : q.fr - 0 = q.fr := Int.sub_zero _
    have z4 : q.to - 0 = q.to := Int.sub_zero _
    have u1 := IntWalk.i64_in q.x (by omega)
    have u2 := IntWalk.i64_in near (by omega)
    have u3 := IntWalk.i64_in q.fr (by omega)
    have u4 := IntWalk.i64_in q.to (by omega)
    have u5 := IntWalk.i64_in (q.x * q.x) (by omega)
    have u6 := IntWalk.i64_in (near * near) (by omega)
    have u7 := IntWalk.i64_in (q.x * q.x + near * near) (by omega)
    have u8 := IntWalk.i64_in (q.fr * q.fr) (by omega)
    have u9 := IntWalk.i64_in (q.to * q.to) (by omega)
    have u10 := IntWalk.i64_in (q.x * q.x + max (q.fr * q.fr) (q.to * q.to)) (by omega)
    have hJ' := hJ
    have kp := hLo.2
    clear hc hc3 hJ hJx cW bW h0 hL hL0 k1 k1a hbig m1 m2 m3 m4
    have hgq := Lib.hid hq
    obtain ⟨c3, f3, l3⟩ := k3.rules
    obtain ⟨cp, fp, lp⟩ := kp.rules
    gi_wp2_with fail
    (refine wpIn_quiet_round (by kernel_rfl) (by kernel_rfl) (by kernel_rfl) ?_ ?_; rotate_left 1; (iterate 24 (go_big_quiet_step (fail))); apply quiet_end; rintro _ ⟨nq, rfl⟩; rotate_left 1; (rintro ⟨_, _, h⟩; exact h))
    clear c3 f3 l3 cp fp lp
    replace k2 := k2.drewN nq
    replace hLo : SqI r gf gp (W2.drewN nq) := ⟨Blk.drewN hLo.1 nq, hLo.2.drewN nq⟩
    replace hLi : FourL r (W.heap.size + 1) (W2.drewN nq) := Blk.drewN hLi nq
    have hnb : NC W0.heap.size W2 (W2.drewN nq) := nc_drewN _ _
    replace hj := hJ' _ _ _ hj (calm_of_below (B := W.heap.size) (below_drewN (Below.refl W2.heap.size W2) nq) (by omega))
    generalize W2.drewN nq = W5 at *
    obtain ⟨fn, tmps, assign, body, hy, hR⟩ := hY i #[.agg #[.int .i64 (sqB q).lo, .int .i64 (sqB q).hi]] W5 hi hj hLo ⟨_, hq, rfl⟩
    simp only [hval.out] at hy hR
    obtain ⟨c2, f2, l2⟩ := k2.rules
    gi_wp2_with fail
    refine ⟨fun h => (by cases h), (RoundIn.anyl hR).mono ?_⟩
    clear hR hy c2 f2 l2
    rintro e W6 (⟨rfl, hj6, hLo6, hn6⟩ | ⟨rfl, hJx6, hn6⟩)
    · gi_wp2_with fail
      exact ⟨hnb.trans (hn6.mono (by omega)), ⟨nc_blk hn6 k2 (Nat.le_refl _), hj6, hLo6⟩, nc_four hn6 hLi (by omega)⟩
    · gi_wp2_with fail
      exact ⟨hnb.trans (hn6.mono (by omega)), rfl, hJx6⟩
theorem eg_squares1 : Enters Tryz.prog 105 := enters_of Tryz.func105 (by kernel_rfl) rfl
set_option maxRecDepth 100000 in
set_option maxHeartbeats 400000 in
theorem ltLo_any (a b : Bnd) (w : World) :
    Calls Tryz.prog 107 #[.agg #[.int .i64 a.lo, .int .i64 a.hi], .agg #[.int .i64 b.lo, .int .i64 b.hi]] w fun e w' => e = .returned (.bool (ltLo a b)) ∧ Below w.heap.size w w' := by
  go_enter Tryz.func107, Tryz.ntmps107
  go_wp2
  go_ret
  exact ⟨rfl, ((Below.refl w.heap.size w).alloc (Nat.le_refl _) _).alloc (by simp) _⟩
set_option maxRecDepth 100000 in
set_option maxHeartbeats 400000 in
theorem gtHi_any (a b : Bnd) (w : World) :
    Calls Tryz.prog 108 #[.agg #[.int .i64 a.lo, .int .i64 a.hi], .agg #[.int .i64 b.lo, .int .i64 b.hi]] w fun e w' => e = .returned (.bool (gtHi a b)) ∧ Below w.heap.size w w' := by
  go_enter Tryz.func108, Tryz.ntmps108
  go_wp2
  go_ret
  exact ⟨rfl, ((Below.refl w.heap.size w).alloc (Nat.le_refl _) _).alloc (by simp) _⟩
def PickI (g : Nat) (f : Bnd → Bnd → Bool) (r : Reg) (w : World) (k : Nat) (A : World) : Prop :=
  Blk A w.heap.size 172 #[.func (.func g) #[] #[]] ∧ Blk A (w.heap.size + 1) 24 #[.int .i64 (optB (pckTo f r k)).lo, .int .i64 (optB (pckTo f r k)).hi] ∧ Blk A (w.heap.size + 1 + 1) 4 #[.bool (pckTo f r k).isSome] ∧ Below w.heap.size w A
theorem PickI.calm {g : Nat} {f : Bnd → Bnd → Bool} {r : Reg} {w A B : World} {k B0 : Nat} (h : PickI g f r w k A) (hc : Calm B0 A B) (hB : w.heap.size ≤ B0) : PickI g f r w k B := ⟨calm_blk hc h.1, calm_blk hc h.2.1, calm_blk hc h.2.2.1, calm_below hc h.2.2.2 hB⟩
set_option maxRecDepth 100000 in
set_option maxHeartbeats 1000000 in
theorem pick_ltLo (r : Reg) (gf gp : Nat) (w : World) (hr : midR r) (hL : SqI r gf gp w) :
    Calls Tryz.prog 106 #[.func (.func 105) #[] #[.pointer (some ⟨gf, 0, none⟩), .pointer (some ⟨gp, 0, none⟩)], .func (.func 107) #[] #[]] w fun e w' => e = .returned (.tuple #[.agg #[.int .i64 (optB (pckAll ltLo r)).lo, .int .i64 (optB (pckAll ltLo r)).hi], .bool (pckAll ltLo r).isSome]) ∧ Below w.heap.size w w' := by
  have hlt := fun a b W => ltLo_any a b W
  have hgf : gf < w.heap.size := Blk.lt hL.1
  have hgp : gp < w.heap.size := hL.2.lt
  refine (callsIn_wide (n := 9)).1 ?_
  refine callsIn_of_wp_marks Tryz.func106 rfl trivial ?_ rfl
  simp only [Tryz.ntmps106, List.size_toArray, List.length_cons, List.length_nil, Nat.reduceAdd, Nat.reduceSub, Array.replicate_succ, Array.replicate_zero, List.push_toArray, List.append_toArray, List.nil_append, List.cons_append]
  refine wpIn_wide.2 ?_
  have hst : ∀ (a : Addr) (fn : Fn) (b c : Array Value) (m : Mode) (w : World), (store a (.func fn b c) m).run Tryz.prog w = stored Tryz.prog w a (.func fn b c) m := fun _ _ _ _ _ _ => run_store _ _ _ _ _ rfl
  go_wp2_with fail
  obtain ⟨W0, hW0⟩ : ∃ W0, W0 = ((w.alloc (.cells #[.func (.func 107) #[] #[]] 172)).alloc (.cells #[.int .i64 0, .int .i64 0] 24)).alloc (.cells #[.bool false] 4) := ⟨_, rfl⟩
  rw [← hW0]
  have hI0 : PickI 107 ltLo r w 0 W0 := by rw [hW0]; exact ⟨((Blk.new _ _ _).alloc _).alloc _, (Blk.newAt (by simp)).alloc _, Blk.newAt (by simp), (((Below.refl _ _).alloc (Nat.le_refl _) _).alloc (by simp) _).alloc (by simp; omega) _⟩
  have hL0 : SqI r gf gp W0 := by rw [hW0]; exact ⟨((Blk.alloc hL.1 _).alloc _).alloc _, ((hL.2.alloc _).alloc _).alloc _⟩
  have hsz : W0.heap.size = w.heap.size + 3 := by rw [hW0]; simp
  clear hW0
  refine (wpIn_wide (n := 9)).1 ?_
  refine wp_range rfl (by decide) (gf := 105) (lb := #[.pointer (some ⟨gf, 0, none⟩), .pointer (some ⟨gp, 0, none⟩)]) rfl trivial eg_squares1
    (squares1_iter _ r gf gp (by decide) hr) (fun k vs W ⟨_, _, e⟩ => by rw [e]; rfl)
    (PickI 107 ltLo r w) (fun _ _ => False) (fun k A B h hc => h.calm hc (by omega)) (fun _ _ _ h _ => h) (fun A B h hc => ⟨calm_blk hc h.1, calm_blk hc h.2⟩) hI0 hL0 ?round ?done ?stop
  case stop => exact fun _ _ _ _ h _ => h.elim
  case done =>
    rintro D W hD ⟨-, k1, k2, hb⟩ hK
    rw [pckTo_all] at k1 k2
    obtain ⟨B, hB⟩ : ∃ B, optB (pckAll ltLo r) = B := ⟨_, rfl⟩
    rw [hB] at k1
    replace hB := Lib.hid hB
    obtain ⟨S, hSo⟩ : ∃ S, (pckAll ltLo r).isSome = S := ⟨_, rfl⟩
    rw [hSo] at k2
    replace hSo := Lib.hid hSo
    go_wp2_with fail
    refine wp_held_np ((fun w' : World => (∀ j, w'.cell? ⟨w.heap.size + 1, j, none⟩ = #[Value.int .i64 B.lo, .int .i64 B.hi][j]?) ∧ (∀ j, w'.cell? ⟨w.heap.size + 1 + 1, j, none⟩ = #[Value.bool S][j]?))) (by kernel_rfl) ?_
    have k1d := k1.drew
    have k2d := k2.drew
    have hKd : W.drew.heap[D]? = some (.deferred (some [])) := hK
    replace hb := hb.drew
    clear k1 k2 hK
    generalize W.drew = Wd at *
    have hS : (fun w' : World => (∀ j, w'.cell? ⟨w.heap.size + 1, j, none⟩ = #[Value.int .i64 B.lo, .int .i64 B.hi][j]?) ∧ (∀ j, w'.cell? ⟨w.heap.size + 1 + 1, j, none⟩ = #[Value.bool S][j]?)) Wd := ⟨k1d.cell, k2d.cell⟩
    refine held_take (i := 0) (v := ?_) 18 rfl rfl (by kernel_rfl) (by kernel_rfl) (by kernel_rfl) (fun _ _ _ h => h) (Or.inl ⟨by rfl, ?_⟩) hS ?_
    rotate_left 1
    · intro w' hSw
      try dsimp only at hSw
      obtain ⟨q1, q2⟩ := hSw
      go_simp
      all_goals with_reducible rfl
    try simp only [Act.put, List.setIfInBounds_toArray, List.set_cons_zero, List.set_cons_succ]
    refine held_take (i := 1) (v := ?_) 19 rfl rfl (by kernel_rfl) (by kernel_rfl) (by kernel_rfl) (fun _ _ _ h => h) (Or.inl ⟨by rfl, ?_⟩) hS ?_
    rotate_left 1
    · intro w' hSw
      try dsimp only at hSw
      obtain ⟨q1, q2⟩ := hSw
      go_simp
      all_goals with_reducible rfl
    try simp only [Act.put, List.setIfInBounds_toArray, List.set_cons_zero, List.set_cons_succ]
    clear hS
    have k1z := (k1d.set_ 0 (.int .i64 B.lo)).set_ 1 (.int .i64 B.hi)
    simp only [List.setIfInBounds_toArray, List.set_cons_zero, List.set_cons_succ] at k1z
    have k2z := (k2d.far (p := ⟨w.heap.size + 1, 0, none⟩) (by dsimp only; omega) (.int .i64 B.lo)).far (p := ⟨w.heap.size + 1, 1, none⟩) (by dsimp only; omega) (.int .i64 B.hi)
    have hbz := (hb.setCell (p := ⟨w.heap.size + 1, 0, none⟩) (by dsimp only; omega) (.int .i64 B.lo)).setCell (p := ⟨w.heap.size + 1, 1, none⟩) (by dsimp only; omega) (.int .i64 B.hi)
    have hKz : ((Wd.setCell ⟨w.heap.size + 1, 0, none⟩ (.int .i64 B.lo)).setCell ⟨w.heap.size + 1, 1, none⟩ (.int .i64 B.hi)).heap[D]? = some (.deferred (some [])) := (Below.heap_setCell _ _ _ _ (by dsimp only; omega)).trans ((Below.heap_setCell _ _ _ _ (by dsimp only; omega)).trans hKd)
    obtain ⟨wz, hwz⟩ : ∃ x, x = (Wd.setCell ⟨w.heap.size + 1, 0, none⟩ (.int .i64 B.lo)).setCell ⟨w.heap.size + 1, 1, none⟩ (.int .i64 B.hi) := ⟨_, rfl⟩
    rw [← hwz] at k1z k2z hbz hKz
    refine held_one (i := 2) (by kernel_rfl) rfl rfl (fun K hK => ?_)
    obtain ⟨c1, f1, l1⟩ := k1d.rules
    go_simp
    rw [← hwz]
    refine hK _ _ ⟨k1z.cell, k2z.cell⟩ ?_
    clear hK K hwz c1 f1 l1 k1d k2d hb hKd
    try simp only [Act.put, List.setIfInBounds_toArray, List.set_cons_zero, List.set_cons_succ]
    have k1y := k1z.far (p := ⟨w.heap.size + 1 + 1, 0, none⟩) (by dsimp only; omega) (.bool S)
    have k2y := k2z.set_ 0 (.bool S)
    have hby := hbz.setCell (p := ⟨w.heap.size + 1 + 1, 0, none⟩) (by dsimp only; omega) (.bool S)
    have hKy : (wz.setCell ⟨w.heap.size + 1 + 1, 0, none⟩ (.bool S)).heap[D]? = some (.deferred (some [])) := (Below.heap_setCell _ _ _ _ (by dsimp only; omega)).trans hKz
    refine held_one (i := 3) (by kernel_rfl) rfl rfl (fun K hK => ?_)
    obtain ⟨c2, f2, l2⟩ := k2z.rules
    go_simp
    refine hK _ _ ⟨k1y.cell, k2y.cell⟩ ?_
    clear hK K c2 f2 l2 k1z k2z hbz hKz
    generalize wz.setCell ⟨w.heap.size + 1 + 1, 0, none⟩ (.bool S) = wy at *
    refine wpAnyH_done (by kernel_rfl) (noPanic_normal ?_) _
    go_wp2_with fail
    refine ⟨by simp, .inl ⟨_, _, rfl, run_takeDeferred hKy, ?_⟩⟩
    have hpu : Below w.heap.size w (wy.putObj D (.deferred none)) := calm_below (calm_put (B := w.heap.size) _ hKy rfl (by omega)) hby (Nat.le_refl _)
    have k1e := calm_blk (calm_put (B := w.heap.size) (.deferred none) hKy rfl (by omega)) k1y
    have k2e := calm_blk (calm_put (B := w.heap.size) (.deferred none) hKy rfl (by omega)) k2y
    obtain ⟨c1, f1, l1⟩ := k1e.rules
    obtain ⟨c2, f2, l2⟩ := k2e.rules
    refine ⟨.tuple #[.agg #[.int .i64 B.lo, .int .i64 B.hi], .bool S], ?_, by rw [hB.out, hSo.out], hpu⟩
    simp [results, Tryz.results106, go_sem, c1, c2]
  case round =>
    rintro l i vs W hW hi ⟨k0, k1, k2, hb⟩ hLi ⟨q, hq, rfl⟩
    gi_wp2_with fail
    refine ⟨(Below.refl _ _).alloc (Nat.le_refl _) _, fun W2 hc => ?_⟩
    have hc3 : Calm W0.heap.size W W2 := (calm_of_below ((Below.refl _ _).alloc (Nat.le_refl _) _) hW).trans hc
    have hst := Lib.hid (pckTo_succ ltLo hq)
    have hsm := Lib.hid (pickO_some ltLo (pckTo ltLo r i) (sqB q))
    generalize sqB q = b at *
    have k6 : Blk W2 W.heap.size 24 #[.int .i64 b.lo, .int .i64 b.hi] := calm_blk hc (Blk.new _ _ _)
    replace hLi : SqI r gf gp W2 := ⟨calm_blk hc3 hLi.1, calm_blk hc3 hLi.2⟩
    have hI : PickI 107 ltLo r w i W2 := PickI.calm ⟨k0, k1, k2, hb⟩ hc3 (by omega)
    have hsW : W.heap.size < W2.heap.size := by have := hc.1.size; simp at this; omega
    clear hc hc3 k0 k1 k2 hb hI0 hL0 hL
    obtain ⟨k0, k1, k2, hb⟩ := hI
    replace hq := Lib.hid hq
    obtain ⟨o, ho⟩ : ∃ o, pckTo ltLo r i = o := ⟨_, rfl⟩
    rw [ho] at k1 k2 hst hsm
    replace ho := Lib.hid ho
    cases o with
    | none =>
      simp only [Option.isSome_none] at k2
      replace hst : Hid (pckTo ltLo r (i + 1) = some b) := hst
      have hn := NC.refl W0.heap.size W2
      have kz := (k1.set_ 0 (.int .i64 b.lo)).set_ 1 (.int .i64 b.hi)
      simp only [List.setIfInBounds_toArray, List.set_cons_zero, List.set_cons_succ] at kz
      obtain ⟨c1, f1, l1⟩ := k1.rules
      obtain ⟨c2, f2, l2⟩ := k2.rules
      obtain ⟨c6, f6, l6⟩ := k6.rules
      gi_wp2_with fail
      refine ⟨fun _ h => (by cases h), ?_⟩
      gi_wp2_with fail
      clear c1 f1 l1 c2 f2 l2 c6 f6 l6
      have hn2 := ((hn.trans (nc_setCell _ ⟨w.heap.size + 1, 0, none⟩ (.int .i64 b.lo) (by dsimp only; omega))).trans (nc_setCell _ ⟨w.heap.size + 1, 1, none⟩ (.int .i64 b.hi) (by dsimp only; omega))).trans (nc_setCell _ ⟨w.heap.size + 1 + 1, 0, none⟩ (.bool true) (by dsimp only; omega))
      have kz0 := ((k0.far (p := ⟨w.heap.size + 1, 0, none⟩) (by dsimp only; omega) (.int .i64 b.lo)).far (p := ⟨w.heap.size + 1, 1, none⟩) (by dsimp only; omega) (.int .i64 b.hi)).far (p := ⟨w.heap.size + 1 + 1, 0, none⟩) (by dsimp only; omega) (.bool true)
      have kz1 := kz.far (p := ⟨w.heap.size + 1 + 1, 0, none⟩) (by dsimp only; omega) (.bool true)
      have kz2 := ((k2.far (p := ⟨w.heap.size + 1, 0, none⟩) (by dsimp only; omega) (.int .i64 b.lo)).far (p := ⟨w.heap.size + 1, 1, none⟩) (by dsimp only; omega) (.int .i64 b.hi)).set_ 0 (.bool true)
      have hbz := ((hb.setCell (p := ⟨w.heap.size + 1, 0, none⟩) (by dsimp only; omega) (.int .i64 b.lo)).setCell (p := ⟨w.heap.size + 1, 1, none⟩) (by dsimp only; omega) (.int .i64 b.hi)).setCell (p := ⟨w.heap.size + 1 + 1, 0, none⟩) (by dsimp only; omega) (.bool true)
      have hLz : FourL r gf _ := ((Blk.far hLi.1 (p := ⟨w.heap.size + 1, 0, none⟩) (by dsimp only; omega) (.int .i64 b.lo)).far (p := ⟨w.heap.size + 1, 1, none⟩) (by dsimp only; omega) (.int .i64 b.hi)).far (p := ⟨w.heap.size + 1 + 1, 0, none⟩) (by dsimp only; omega) (.bool true)
      have hPz := ((hLi.2.far (p := ⟨w.heap.size + 1, 0, none⟩) (by dsimp only; omega) (.int .i64 b.lo)).far (p := ⟨w.heap.size + 1, 1, none⟩) (by dsimp only; omega) (.int .i64 b.hi)).far (p := ⟨w.heap.size + 1 + 1, 0, none⟩) (by dsimp only; omega) (.bool true)
      exact ⟨hn2, ⟨kz0, by rw [hst.out]; exact kz1, by rw [hst.out]; exact kz2, hbz⟩, hLz, hPz⟩
    | some cc =>
      simp only [Option.isSome_some, optB, Option.getD_some] at k1 k2
      obtain ⟨c0, f0, l0⟩ := k0.rules
      obtain ⟨c1, f1, l1⟩ := k1.rules
      obtain ⟨c2, f2, l2⟩ := k2.rules
      obtain ⟨c6, f6, l6⟩ := k6.rules
      gi_wp2_with fail
      refine ⟨trivial, (CallsIn.inRound l (callsIn_wide.2 (hlt b cc _))).mono ?_⟩
      rintro e W5 ⟨rfl, hbel⟩
      clear c0 f0 l0 c1 f1 l1 c2 f2 l2 c6 f6 l6
      have hn : NC W0.heap.size W2 W5 := nc_of_below hbel
      replace k0 := k0.below hbel
      replace k1 := k1.below hbel
      replace k2 := k2.below hbel
      replace k6 := k6.below hbel
      replace hb := hb.trans (hbel.mono hb.size)
      replace hLi : SqI r gf gp W5 := ⟨Blk.below hLi.1 hbel, hLi.2.below hbel⟩
      clear hbel
      cases hf : ltLo b cc with
      | false =>
        replace hst : Hid (pckTo ltLo r (i + 1) = some cc) := by show _ = _; rw [hst.out]; unfold pickO; dsimp only; rw [if_neg (by rw [hf]; simp)]
        replace hf := Lib.hid hf
        gi_wp2_with fail
        exact ⟨hn, ⟨k0, by rw [hst.out]; exact k1, by rw [hst.out]; exact k2, hb⟩, hLi⟩
      | true =>
        replace hst : Hid (pckTo ltLo r (i + 1) = some b) := by show _ = _; rw [hst.out]; unfold pickO; dsimp only; rw [if_pos hf]
        replace hf := Lib.hid hf
        have kz := (k1.set_ 0 (.int .i64 b.lo)).set_ 1 (.int .i64 b.hi)
        simp only [List.setIfInBounds_toArray, List.set_cons_zero, List.set_cons_succ] at kz
        obtain ⟨c1, f1, l1⟩ := k1.rules
        obtain ⟨c2, f2, l2⟩ := k2.rules
        obtain ⟨c6, f6, l6⟩ := k6.rules
        gi_wp2_with fail
        clear c1 f1 l1 c2 f2 l2 c6 f6 l6
        have hn2 := ((hn.trans (nc_setCell _ ⟨w.heap.size + 1, 0, none⟩ (.int .i64 b.lo) (by dsimp only; omega))).trans (nc_setCell _ ⟨w.heap.size + 1, 1, none⟩ (.int .i64 b.hi) (by dsimp only; omega))).trans (nc_setCell _ ⟨w.heap.size + 1 + 1, 0, none⟩ (.bool true) (by dsimp only; omega))
        have kz0 := ((k0.far (p := ⟨w.heap.size + 1, 0, none⟩) (by dsimp only; omega) (.int .i64 b.lo)).far (p := ⟨w.heap.size + 1, 1, none⟩) (by dsimp only; omega) (.int .i64 b.hi)).far (p := ⟨w.heap.size + 1 + 1, 0, none⟩) (by dsimp only; omega) (.bool true)
        have kz1 := kz.far (p := ⟨w.heap.size + 1 + 1, 0, none⟩) (by dsimp only; omega) (.bool true)
        have kz2 := ((k2.far (p := ⟨w.heap.size + 1, 0, none⟩) (by dsimp only; omega) (.int .i64 b.lo)).far (p := ⟨w.heap.size + 1, 1, none⟩) (by dsimp only; omega) (.int .i64 b.hi)).set_ 0 (.bool true)
        have hbz := ((hb.setCell (p := ⟨w.heap.size + 1, 0, none⟩) (by dsimp only; omega) (.int .i64 b.lo)).setCell (p := ⟨w.heap.size + 1, 1, none⟩) (by dsimp only; omega) (.int .i64 b.hi)).setCell (p := ⟨w.heap.size + 1 + 1, 0, none⟩) (by dsimp only; omega) (.bool true)
        have hLz : FourL r gf _ := ((Blk.far hLi.1 (p := ⟨w.heap.size + 1, 0, none⟩) (by dsimp only; omega) (.int .i64 b.lo)).far (p := ⟨w.heap.size + 1, 1, none⟩) (by dsimp only; omega) (.int .i64 b.hi)).far (p := ⟨w.heap.size + 1 + 1, 0, none⟩) (by dsimp only; omega) (.bool true)
        have hPz := ((hLi.2.far (p := ⟨w.heap.size + 1, 0, none⟩) (by dsimp only; omega) (.int .i64 b.lo)).far (p := ⟨w.heap.size + 1, 1, none⟩) (by dsimp only; omega) (.int .i64 b.hi)).far (p := ⟨w.heap.size + 1 + 1, 0, none⟩) (by dsimp only; omega) (.bool true)
        exact ⟨hn2, ⟨kz0, by rw [hst.out]; exact kz1, by rw [hst.out]; exact kz2, hbz⟩, hLz, hPz⟩
set_option maxRecDepth 100000 in
set_option maxHeartbeats 1000000 in
theorem pick_gtHi (r : Reg) (gf gp : Nat) (w : World) (hr : midR r) (hL : SqI r gf gp w) :
    Calls Tryz.prog 106 #[.func (.func 105) #[] #[.pointer (some ⟨gf, 0, none⟩), .pointer (some ⟨gp, 0, none⟩)], .func (.func 108) #[] #[]] w fun e w' => e = .returned (.tuple #[.agg #[.int .i64 (optB (pckAll gtHi r)).lo, .int .i64 (optB (pckAll gtHi r)).hi], .bool (pckAll gtHi r).isSome]) ∧ Below w.heap.size w w' := by
  have hlt := fun a b W => gtHi_any a b W
  have hgf : gf < w.heap.size := Blk.lt hL.1
  have hgp : gp < w.heap.size := hL.2.lt
  refine (callsIn_wide (n := 9)).1 ?_
  refine callsIn_of_wp_marks Tryz.func106 rfl trivial ?_ rfl
  simp only [Tryz.ntmps106, List.size_toArray, List.length_cons, List.length_nil, Nat.reduceAdd, Nat.reduceSub, Array.replicate_succ, Array.replicate_zero, List.push_toArray, List.append_toArray, List.nil_append, List.cons_append]
  refine wpIn_wide.2 ?_
  have hst : ∀ (a : Addr) (fn : Fn) (b c : Array Value) (m : Mode) (w : World), (store a (.func fn b c) m).run Tryz.prog w = stored Tryz.prog w a (.func fn b c) m := fun _ _ _ _ _ _ => run_store _ _ _ _ _ rfl
  go_wp2_with fail
  obtain ⟨W0, hW0⟩ : ∃ W0, W0 = ((w.alloc (.cells #[.func (.func 108) #[] #[]] 172)).alloc (.cells #[.int .i64 0, .int .i64 0] 24)).alloc (.cells #[.bool false] 4) := ⟨_, rfl⟩
  rw [← hW0]
  have hI0 : PickI 108 gtHi r w 0 W0 := by rw [hW0]; exact ⟨((Blk.new _ _ _).alloc _).alloc _, (Blk.newAt (by simp)).alloc _, Blk.newAt (by simp), (((Below.refl _ _).alloc (Nat.le_refl _) _).alloc (by simp) _).alloc (by simp; omega) _⟩
  have hL0 : SqI r gf gp W0 := by rw [hW0]; exact ⟨((Blk.alloc hL.1 _).alloc _).alloc _, ((hL.2.alloc _).alloc _).alloc _⟩
  have hsz : W0.heap.size = w.heap.size + 3 := by rw [hW0]; simp
  clear hW0
  refine (wpIn_wide (n := 9)).1 ?_
  refine wp_range rfl (by decide) (gf := 105) (lb := #[.pointer (some ⟨gf, 0, none⟩), .pointer (some ⟨gp, 0, none⟩)]) rfl trivial eg_squares1
    (squares1_iter _ r gf gp (by decide) hr) (fun k vs W ⟨_, _, e⟩ => by rw [e]; rfl)
    (PickI 108 gtHi r w) (fun _ _ => False) (fun k A B h hc => h.calm hc (by omega)) (fun _ _ _ h _ => h) (fun A B h hc => ⟨calm_blk hc h.1, calm_blk hc h.2⟩) hI0 hL0 ?round ?done ?stop
  case stop => exact fun _ _ _ _ h _ => h.elim
  case done =>
    rintro D W hD ⟨-, k1, k2, hb⟩ hK
    rw [pckTo_all] at k1 k2
    obtain ⟨B, hB⟩ : ∃ B, optB (pckAll gtHi r) = B := ⟨_, rfl⟩
    rw [hB] at k1
    replace hB := Lib.hid hB
    obtain ⟨S, hSo⟩ : ∃ S, (pckAll gtHi r).isSome = S := ⟨_, rfl⟩
    rw [hSo] at k2
    replace hSo := Lib.hid hSo
    go_wp2_with fail
    refine wp_held_np ((fun w' : World => (∀ j, w'.cell? ⟨w.heap.size + 1, j, none⟩ = #[Value.int .i64 B.lo, .int .i64 B.hi][j]?) ∧ (∀ j, w'.cell? ⟨w.heap.size + 1 + 1, j, none⟩ = #[Value.bool S][j]?))) (by kernel_rfl) ?_
    have k1d := k1.drew
    have k2d := k2.drew
    have hKd : W.drew.heap[D]? = some (.deferred (some [])) := hK
    replace hb := hb.drew
    clear k1 k2 hK
    generalize W.drew = Wd at *
    have hS : (fun w' : World => (∀ j, w'.cell? ⟨w.heap.size + 1, j, none⟩ = #[Value.int .i64 B.lo, .int .i64 B.hi][j]?) ∧ (∀ j, w'.cell? ⟨w.heap.size + 1 + 1, j, none⟩ = #[Value.bool S][j]?)) Wd := ⟨k1d.cell, k2d.cell⟩
    refine held_take (i := 0) (v := ?_) 18 rfl rfl (by kernel_rfl) (by kernel_rfl) (by kernel_rfl) (fun _ _ _ h => h) (Or.inl ⟨by rfl, ?_⟩) hS ?_
    rotate_left 1
    · intro w' hSw
      try dsimp only at hSw
      obtain ⟨q1, q2⟩ := hSw
      go_simp
      all_goals with_reducible rfl
    try simp only [Act.put, List.setIfInBounds_toArray, List.set_cons_zero, List.set_cons_succ]
    refine held_take (i := 1) (v := ?_) 19 rfl rfl (by kernel_rfl) (by kernel_rfl) (by kernel_rfl) (fun _ _ _ h => h) (Or.inl ⟨by rfl, ?_⟩) hS ?_
    rotate_left 1
    · intro w' hSw
      try dsimp only at hSw
      obtain ⟨q1, q2⟩ := hSw
      go_simp
      all_goals with_reducible rfl
    try simp only [Act.put, List.setIfInBounds_toArray, List.set_cons_zero, List.set_cons_succ]
    clear hS
    have k1z := (k1d.set_ 0 (.int .i64 B.lo)).set_ 1 (.int .i64 B.hi)
    simp only [List.setIfInBounds_toArray, List.set_cons_zero, List.set_cons_succ] at k1z
    have k2z := (k2d.far (p := ⟨w.heap.size + 1, 0, none⟩) (by dsimp only; omega) (.int .i64 B.lo)).far (p := ⟨w.heap.size + 1, 1, none⟩) (by dsimp only; omega) (.int .i64 B.hi)
    have hbz := (hb.setCell (p := ⟨w.heap.size + 1, 0, none⟩) (by dsimp only; omega) (.int .i64 B.lo)).setCell (p := ⟨w.heap.size + 1, 1, none⟩) (by dsimp only; omega) (.int .i64 B.hi)
    have hKz : ((Wd.setCell ⟨w.heap.size + 1, 0, none⟩ (.int .i64 B.lo)).setCell ⟨w.heap.size + 1, 1, none⟩ (.int .i64 B.hi)).heap[D]? = some (.deferred (some [])) := (Below.heap_setCell _ _ _ _ (by dsimp only; omega)).trans ((Below.heap_setCell _ _ _ _ (by dsimp only; omega)).trans hKd)
    obtain ⟨wz, hwz⟩ : ∃ x, x = (Wd.setCell ⟨w.heap.size + 1, 0, none⟩ (.int .i64 B.lo)).setCell ⟨w.heap.size + 1, 1, none⟩ (.int .i64 B.hi) := ⟨_, rfl⟩
    rw [← hwz] at k1z k2z hbz hKz
    refine held_one (i := 2) (by kernel_rfl) rfl rfl (fun K hK => ?_)
    obtain ⟨c1, f1, l1⟩ := k1d.rules
    go_simp
    rw [← hwz]
    refine hK _ _ ⟨k1z.cell, k2z.cell⟩ ?_
    clear hK K hwz c1 f1 l1 k1d k2d hb hKd
    try simp only [Act.put, List.setIfInBounds_toArray, List.set_cons_zero, List.set_cons_succ]
    have k1y := k1z.far (p := ⟨w.heap.size + 1 + 1, 0, none⟩) (by dsimp only; omega) (.bool S)
    have k2y := k2z.set_ 0 (.bool S)
    have hby := hbz.setCell (p := ⟨w.heap.size + 1 + 1, 0, none⟩) (by dsimp only; omega) (.bool S)
    have hKy : (wz.setCell ⟨w.heap.size + 1 + 1, 0, none⟩ (.bool S)).heap[D]? = some (.deferred (some [])) := (Below.heap_setCell _ _ _ _ (by dsimp only; omega)).trans hKz
    refine held_one (i := 3) (by kernel_rfl) rfl rfl (fun K hK => ?_)
    obtain ⟨c2, f2, l2⟩ := k2z.rules
    go_simp
    refine hK _ _ ⟨k1y.cell, k2y.cell⟩ ?_
    clear hK K c2 f2 l2 k1z k2z hbz hKz
    generalize wz.setCell ⟨w.heap.size + 1 + 1, 0, none⟩ (.bool S) = wy at *
    refine wpAnyH_done (by kernel_rfl) (noPanic_normal ?_) _
    go_wp2_with fail
    refine ⟨by simp, .inl ⟨_, _, rfl, run_takeDeferred hKy, ?_⟩⟩
    have hpu : Below w.heap.size w (wy.putObj D (.deferred none)) := calm_below (calm_put (B := w.heap.size) _ hKy rfl (by omega)) hby (Nat.le_refl _)
    have k1e := calm_blk (calm_put (B := w.heap.size) (.deferred none) hKy rfl (by omega)) k1y
    have k2e := calm_blk (calm_put (B := w.heap.size) (.deferred none) hKy rfl (by omega)) k2y
    obtain ⟨c1, f1, l1⟩ := k1e.rules
    obtain ⟨c2, f2, l2⟩ := k2e.rules
    refine ⟨.tuple #[.agg #[.int .i64 B.lo, .int .i64 B.hi], .bool S], ?_, by rw [hB.out, hSo.out], hpu⟩
    simp [results, Tryz.results106, go_sem, c1, c2]
  case round =>
    rintro l i vs W hW hi ⟨k0, k1, k2, hb⟩ hLi ⟨q, hq, rfl⟩
    gi_wp2_with fail
    refine ⟨(Below.refl _ _).alloc (Nat.le_refl _) _, fun W2 hc => ?_⟩
    have hc3 : Calm W0.heap.size W W2 := (calm_of_below ((Below.refl _ _).alloc (Nat.le_refl _) _) hW).trans hc
    have hst := Lib.hid (pckTo_succ gtHi hq)
    have hsm := Lib.hid (pickO_some gtHi (pckTo gtHi r i) (sqB q))
    generalize sqB q = b at *
    have k6 : Blk W2 W.heap.size 24 #[.int .i64 b.lo, .int .i64 b.hi] := calm_blk hc (Blk.new _ _ _)
    replace hLi : SqI r gf gp W2 := ⟨calm_blk hc3 hLi.1, calm_blk hc3 hLi.2⟩
    have hI : PickI 108 gtHi r w i W2 := PickI.calm ⟨k0, k1, k2, hb⟩ hc3 (by omega)
    have hsW : W.heap.size < W2.heap.size := by have := hc.1.size; simp at this; omega
    clear hc hc3 k0 k1 k2 hb hI0 hL0 hL
    obtain ⟨k0, k1, k2, hb⟩ := hI
    replace hq := Lib.hid hq
    obtain ⟨o, ho⟩ : ∃ o, pckTo gtHi r i = o := ⟨_, rfl⟩
    rw [ho] at k1 k2 hst hsm
    replace ho := Lib.hid ho
    cases o with
    | none =>
      simp only [Option.isSome_none] at k2
      replace hst : Hid (pckTo gtHi r (i + 1) = some b) := hst
      have hn := NC.refl W0.heap.size W2
      have kz := (k1.set_ 0 (.int .i64 b.lo)).set_ 1 (.int .i64 b.hi)
      simp only [List.setIfInBounds_toArray, List.set_cons_zero, List.set_cons_succ] at kz
      obtain ⟨c1, f1, l1⟩ := k1.rules
      obtain ⟨c2, f2, l2⟩ := k2.rules
      obtain ⟨c6, f6, l6⟩ := k6.rules
      gi_wp2_with fail
      refine ⟨fun _ h => (by cases h), ?_⟩
      gi_wp2_with fail
      clear c1 f1 l1 c2 f2 l2 c6 f6 l6
      have hn2 := ((hn.trans (nc_setCell _ ⟨w.heap.size + 1, 0, none⟩ (.int .i64 b.lo) (by dsimp only; omega))).trans (nc_setCell _ ⟨w.heap.size + 1, 1, none⟩ (.int .i64 b.hi) (by dsimp only; omega))).trans (nc_setCell _ ⟨w.heap.size + 1 + 1, 0, none⟩ (.bool true) (by dsimp only; omega))
      have kz0 := ((k0.far (p := ⟨w.heap.size + 1, 0, none⟩) (by dsimp only; omega) (.int .i64 b.lo)).far (p := ⟨w.heap.size + 1, 1, none⟩) (by dsimp only; omega) (.int .i64 b.hi)).far (p := ⟨w.heap.size + 1 + 1, 0, none⟩) (by dsimp only; omega) (.bool true)
      have kz1 := kz.far (p := ⟨w.heap.size + 1 + 1, 0, none⟩) (by dsimp only; omega) (.bool true)
      have kz2 := ((k2.far (p := ⟨w.heap.size + 1, 0, none⟩) (by dsimp only; omega) (.int .i64 b.lo)).far (p := ⟨w.heap.size + 1, 1, none⟩) (by dsimp only; omega) (.int .i64 b.hi)).set_ 0 (.bool true)
      have hbz := ((hb.setCell (p := ⟨w.heap.size + 1, 0, none⟩) (by dsimp only; omega) (.int .i64 b.lo)).setCell (p := ⟨w.heap.size + 1, 1, none⟩) (by dsimp only; omega) (.int .i64 b.hi)).setCell (p := ⟨w.heap.size + 1 + 1, 0, none⟩) (by dsimp only; omega) (.bool true)
      have hLz : FourL r gf _ := ((Blk.far hLi.1 (p := ⟨w.heap.size + 1, 0, none⟩) (by dsimp only; omega) (.int .i64 b.lo)).far (p := ⟨w.heap.size + 1, 1, none⟩) (by dsimp only; omega) (.int .i64 b.hi)).far (p := ⟨w.heap.size + 1 + 1, 0, none⟩) (by dsimp only; omega) (.bool true)
      have hPz := ((hLi.2.far (p := ⟨w.heap.size + 1, 0, none⟩) (by dsimp only; omega) (.int .i64 b.lo)).far (p := ⟨w.heap.size + 1, 1, none⟩) (by dsimp only; omega) (.int .i64 b.hi)).far (p := ⟨w.heap.size + 1 + 1, 0, none⟩) (by dsimp only; omega) (.bool true)
      exact ⟨hn2, ⟨kz0, by rw [hst.out]; exact kz1, by rw [hst.out]; exact kz2, hbz⟩, hLz, hPz⟩
    | some cc =>
      simp only [Option.isSome_some, optB, Option.getD_some] at k1 k2
      obtain ⟨c0, f0, l0⟩ := k0.rules
      obtain ⟨c1, f1, l1⟩ := k1.rules
      obtain ⟨c2, f2, l2⟩ := k2.rules
      obtain ⟨c6, f6, l6⟩ := k6.rules
      gi_wp2_with fail
      refine ⟨trivial, (CallsIn.inRound l (callsIn_wide.2 (hlt b cc _))).mono ?_⟩
      rintro e W5 ⟨rfl, hbel⟩
      clear c0 f0 l0 c1 f1 l1 c2 f2 l2 c6 f6 l6
      have hn : NC W0.heap.size W2 W5 := nc_of_below hbel
      replace k0 := k0.below hbel
      replace k1 := k1.below hbel
      replace k2 := k2.below hbel
      replace k6 := k6.below hbel
      replace hb := hb.trans (hbel.mono hb.size)
      replace hLi : SqI r gf gp W5 := ⟨Blk.below hLi.1 hbel, hLi.2.below hbel⟩
      clear hbel
      cases hf : gtHi b cc with
      | false =>
        replace hst : Hid (pckTo gtHi r (i + 1) = some cc) := by show _ = _; rw [hst.out]; unfold pickO; dsimp only; rw [if_neg (by rw [hf]; simp)]
        replace hf := Lib.hid hf
        gi_wp2_with fail
        exact ⟨hn, ⟨k0, by rw [hst.out]; exact k1, by rw [hst.out]; exact k2, hb⟩, hLi⟩
      | true =>
        replace hst : Hid (pckTo gtHi r (i + 1) = some b) := by show _ = _; rw [hst.out]; unfold pickO; dsimp only; rw [if_pos hf]
        replace hf := Lib.hid hf
        have kz := (k1.set_ 0 (.int .i64 b.lo)).set_ 1 (.int .i64 b.hi)
        simp only [List.setIfInBounds_toArray, List.set_cons_zero, List.set_cons_succ] at kz
        obtain ⟨c1, f1, l1⟩ := k1.rules
        obtain ⟨c2, f2, l2⟩ := k2.rules
        obtain ⟨c6, f6, l6⟩ := k6.rules
        gi_wp2_with fail
        clear c1 f1 l1 c2 f2 l2 c6 f6 l6
        have hn2 := ((hn.trans (nc_setCell _ ⟨w.heap.size + 1, 0, none⟩ (.int .i64 b.lo) (by dsimp only; omega))).trans (nc_setCell _ ⟨w.heap.size + 1, 1, none⟩ (.int .i64 b.hi) (by dsimp only; omega))).trans (nc_setCell _ ⟨w.heap.size + 1 + 1, 0, none⟩ (.bool true) (by dsimp only; omega))
        have kz0 := ((k0.far (p := ⟨w.heap.size + 1, 0, none⟩) (by dsimp only; omega) (.int .i64 b.lo)).far (p := ⟨w.heap.size + 1, 1, none⟩) (by dsimp only; omega) (.int .i64 b.hi)).far (p := ⟨w.heap.size + 1 + 1, 0, none⟩) (by dsimp only; omega) (.bool true)
        have kz1 := kz.far (p := ⟨w.heap.size + 1 + 1, 0, none⟩) (by dsimp only; omega) (.bool true)
        have kz2 := ((k2.far (p := ⟨w.heap.size + 1, 0, none⟩) (by dsimp only; omega) (.int .i64 b.lo)).far (p := ⟨w.heap.size + 1, 1, none⟩) (by dsimp only; omega) (.int .i64 b.hi)).set_ 0 (.bool true)
        have hbz := ((hb.setCell (p := ⟨w.heap.size + 1, 0, none⟩) (by dsimp only; omega) (.int .i64 b.lo)).setCell (p := ⟨w.heap.size + 1, 1, none⟩) (by dsimp only; omega) (.int .i64 b.hi)).setCell (p := ⟨w.heap.size + 1 + 1, 0, none⟩) (by dsimp only; omega) (.bool true)
        have hLz : FourL r gf _ := ((Blk.far hLi.1 (p := ⟨w.heap.size + 1, 0, none⟩) (by dsimp only; omega) (.int .i64 b.lo)).far (p := ⟨w.heap.size + 1, 1, none⟩) (by dsimp only; omega) (.int .i64 b.hi)).far (p := ⟨w.heap.size + 1 + 1, 0, none⟩) (by dsimp only; omega) (.bool true)
        have hPz := ((hLi.2.far (p := ⟨w.heap.size + 1, 0, none⟩) (by dsimp only; omega) (.int .i64 b.lo)).far (p := ⟨w.heap.size + 1, 1, none⟩) (by dsimp only; omega) (.int .i64 b.hi)).far (p := ⟨w.heap.size + 1 + 1, 0, none⟩) (by dsimp only; omega) (.bool true)
        exact ⟨hn2, ⟨kz0, by rw [hst.out]; exact kz1, by rw [hst.out]; exact kz2, hbz⟩, hLz, hPz⟩
end Go.Proofs.YthjdjpcomocffaaGreat
