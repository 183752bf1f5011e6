/-
  Own texts for one claim, joined: R25.
-/
import Derived.ChangeKeysEq
import Derived.Deep.QuietTactic
import Derived.BigQuiet
import Derived.Deep.RegionHeld3
import Derived.StillTailTactics
import Derived.Test.YtjiaepphnddpoaaGreatChecked
import Derived.Shelf.Abstract
import Derived.WalkKit
import Derived.WalkSpells
import Derived.WalkLawsBesides
import Derived.Lib.Hide
import Derived.OrdersHeld
import Derived.StillTail
import Derived.StillTailTactics
import Derived.RangeFuncNested
import Derived.RangeFuncBound
import Derived.RangeFuncCalls
import Derived.RangeFuncLeaves
import Derived.Shelf.Abstract
import Derived.Shelf.RegionOpen
import Derived.OwnWalkIn
import Derived.TacticsInMore
import Derived.LoopNIn
import Derived.LoopIn
import Derived.OrdersIn
import Derived.Deep.Quiet
import Derived.Deep.QuietTactic
import Derived.BigQuiet
import Derived.Deep.AppendLies
import Derived.WalkMore
import Derived.Maps.Own
import Derived.Maps.Views
import Derived.WideKeyPair
import Derived.Carry
import Derived.Deep.RegionHeld3
import Derived.Deep.RegionWith
import Derived.BigRegionIn
import Derived.Deep.AppendLies
import Derived.Deep.QuietTactic
import Derived.LoopN
import Derived.Deep.RegionWith
import Derived.BigQuiet
import Derived.Deep.AppendLies
import Derived.Laws.AppendOwnNone
import Derived.Deep.AppendLies
import Derived.Deep.AppendLies
import Derived.Test.YtjiaepphnddpoaaGreatT01
import Derived.Test.YtjiaepphnddpoaaGreatT02
import Derived.Test.YtjiaepphnddpoaaGreatT03
import Derived.Test.YtjiaepphnddpoaaGreatT04
import Derived.Test.YtjiaepphnddpoaaGreatT05
import Derived.Test.YtjiaepphnddpoaaGreatT06
import Derived.Test.YtjiaepphnddpoaaGreatT07
import Derived.Test.YtjiaepphnddpoaaGreatT08
import Derived.Test.YtjiaepphnddpoaaGreatT09
import Derived.Test.YtjiaepphnddpoaaGreatT10
import Derived.Test.YtjiaepphnddpoaaGreatT11
import Derived.Test.YtjiaepphnddpoaaGreatT12
import Derived.Test.YtjiaepphnddpoaaGreatT13
import Derived.Test.YtjiaepphnddpoaaGreatT14
import Derived.Test.YtjiaepphnddpoaaGreatT15
import Derived.Test.YtjiaepphnddpoaaGreatT16
import Derived.Test.YtjiaepphnddpoaaGreatT17
namespace Go.Proofs.YtjiaepphnddpoaaGreat
open Go.RowKit Go.Shelf
set_option linter.unusedSimpArgs false
set_option linter.unusedVariables false
def apFr (o : Option Bnd) (xs ys : List Reg) (i : Nat) : Option Bnd := (xs.take i).foldl (fun o x => apIn o x ys ys.length) o
theorem apFr_succ (o : Option Bnd) {xs : List Reg} (ys : List Reg) {i : Nat} {x : Reg} (h : xs[i]? = some x) : apFr o xs ys (i + 1) = apIn (apFr o xs ys i) x ys ys.length := by
  unfold apFr
  rw [List.take_add_one, h, List.foldl_append]; rfl
theorem minO_same (g : Bnd) : minO (some g) g = some g := by
  unfold minO
  dsimp only
  congr 1
  exact bnd_ext (by dsimp only; omega) (by dsimp only; omega)
theorem apFr_first {xs ys : List Reg} {x y : Reg} (hx : xs[0]? = some x) (hy : ys[0]? = some y) : apFr (some (gapS x y)) xs ys xs.length = appO xs ys := by
  unfold appO apFr apTo
  cases xs with
  | nil => cases hx
  | cons x1 xs =>
    cases ys with
    | nil => cases hy
    | cons y1 ys =>
      simp at hx hy
      subst hx hy
      rw [List.take_of_length_le (Nat.le_refl _)]
      simp only [List.foldl_cons]
      congr 1
      unfold apIn
      rw [List.take_of_length_le (Nat.le_refl _)]
      simp only [List.map_cons, List.foldl_cons]
      rw [minO_same]
      rfl
theorem nodes_good {s : Strm} {bs : List Bnd} (h : errB s bs = 0) : Good (nodesL s bs) := by
  obtain ⟨h1, h2⟩ := errB_zero h
  intro r hr
  unfold nodesL at hr
  obtain ⟨i, hi, rfl⟩ := List.mem_map.1 hr
  obtain ⟨a, b, -⟩ := node_tight h1 h2 (List.mem_range.1 hi)
  exact ⟨b, tight_self a⟩
theorem nodes_len (s : Strm) (bs : List Bnd) : (nodesL s bs).length = bs.length := by unfold nodesL; rw [List.length_map, List.length_range]
set_option maxRecDepth 100000 in
set_option maxHeartbeats 1000000 in
theorem Rapproach_any (L M : Option Addr) (n c m cm i k : Nat) (ds : List StD) (es : List BdD) (d1 d2 : StD) (e1 e2 : BdD) (w : World) (hL : SpL w L n c ds) (hM : BpL w M m cm es) (hi1 : ds[i]? = some d1) (hi2 : es[i]? = some e1) (hk1 : ds[k]? = some d2) (hk2 : es[k]? = some e2) (he1 : errB d1.s e1.bs = 0) (he2 : errB d2.s e2.bs = 0) :
    Calls Tryz.prog 100 #[.slice L n c, .slice M m cm, .int .i64 i, .int .i64 k] w fun e w' => e = .returned (.agg #[.int .i64 (appS (nodesL d1.s e1.bs) (nodesL d2.s e2.bs)).lo, .int .i64 (appS (nodesL d1.s e1.bs) (nodesL d2.s e2.bs)).hi]) ∧ Below w.heap.size w w' := by
  have hmin := min2_int
  have hdl := Lib.hid hL.1.len
  have hel := Lib.hid hM.1.len
  have hin : (i : Int) < (n : Int) := by have := (List.getElem?_eq_some_iff.1 hi1).1; have := hdl.out; omega
  have him : (i : Int) < (m : Int) := by have := (List.getElem?_eq_some_iff.1 hi2).1; have := hel.out; omega
  have hkn : (k : Int) < (n : Int) := by have := (List.getElem?_eq_some_iff.1 hk1).1; have := hdl.out; omega
  have hkm : (k : Int) < (m : Int) := by have := (List.getElem?_eq_some_iff.1 hk2).1; have := hel.out; omega
  have hi0 : (0 : Int) ≤ (i : Int) := by omega
  have hk0 : (0 : Int) ≤ (k : Int) := by omega
  have hst1 : StOk w d1 := hL.2 d1 (List.mem_of_getElem? hi1)
  have hbt1 : BdOk w e1 := hM.2 e1 (List.mem_of_getElem? hi2)
  have hst2 : StOk w d2 := hL.2 d2 (List.mem_of_getElem? hk1)
  have hbt2 : BdOk w e2 := hM.2 e2 (List.mem_of_getElem? hk2)
  obtain ⟨bL, oL, hA, -, hbL, z0, z1, z2, z3, z4⟩ := hL.1.std hi1
  obtain ⟨bM, oM, hB, -, hbM, y0⟩ := hM.1.bdd hi2
  obtain ⟨bL2, oL2, hA2, -, hbL2, u0, u1, u2, u3, u4⟩ := hL.1.std hk1
  obtain ⟨bM2, oM2, hB2, -, hbM2, v0⟩ := hM.1.bdd hk2
  rw [hA] at hA2
  rw [hB] at hB2
  simp only [Option.some.injEq, Addr.mk.injEq, and_true] at hA2 hB2
  obtain ⟨rfl, rfl⟩ := hA2
  obtain ⟨rfl, rfl⟩ := hB2
  subst hA
  subst hB
  obtain ⟨o1, o2⟩ := errB_zero he1
  obtain ⟨o3, o4⟩ := errB_zero he2
  have hn1 : d1.n = e1.n := by have := okOffs_len o2; have := hst1.len; have := hbt1.len; omega
  have hn2 : d2.n = e2.n := by have := okOffs_len o4; have := hst2.len; have := hbt2.len; omega
  have hp1 : 1 ≤ d1.n ∧ d1.n ≤ 8 := by have := ok_head o1; unfold headOk at this; have := hst1.len; omega
  have hp2 : 1 ≤ d2.n ∧ d2.n ≤ 8 := by have := ok_head o3; unfold headOk at this; have := hst2.len; omega
  have hN1 := fun W h1 h2 => Rnodes_any d1.s d1.A e1.O d1.n d1.c e1.c 0 0 e1.bs W o1 o2 h1 h2
  have hN2 := fun W h1 h2 => Rnodes_any d2.s d2.A e2.O d2.n d2.c e2.c 0 0 e2.bs W o3 o4 h1 h2
  unfold OwnRegs at hN1 hN2
  unfold BdOk at hbt1 hbt2
  unfold StOk at hst1 hst2
  rw [← hn1] at hbt1 y0
  rw [← hn2] at hbt2 v0
  have hg1 := nodes_good he1
  have hg2 := nodes_good he2
  have hl1 : (nodesL d1.s e1.bs).length = d1.n := by rw [nodes_len, hbt1.len]
  have hl2 : (nodesL d2.s e2.bs).length = d2.n := by rw [nodes_len, hbt2.len]
  generalize nodesL d1.s e1.bs = xs at *
  generalize nodesL d2.s e2.bs = ys at *
  have hsome := appO_some (xs := xs) (ys := ys) (by omega) (by omega)
  obtain ⟨V, hV⟩ : ∃ V, appS xs ys = V := ⟨_, rfl⟩
  rw [hV] at hsome ⊢
  clear hV
  obtain ⟨x0, hx0⟩ := some_of_lt hl1 (show 0 < d1.n by omega)
  obtain ⟨yr, hy1⟩ := some_of_lt hl2 (show 0 < d2.n by omega)
  have hfirst := apFr_first hx0 hy1
  rw [hsome] at hfirst
  rw [hl1] at hfirst
  clear hsome he1 he2 o1 o2 o3 o4 hL hM hn1 hn2 hi1 hi2 hk1 hk2
  replace hl1 := Lib.hid hl1
  replace hl2 := Lib.hid hl2
  replace hfirst := Lib.hid hfirst
  replace hg1 := Lib.hid hg1
  replace hg2 := Lib.hid hg2
  have hxg := hg1.out x0 (List.mem_of_getElem? hx0)
  have hyg := hg2.out yr (List.mem_of_getElem? hy1)
  obtain ⟨w1, hw1⟩ : ∃ w1, w1 = w.alloc (.cells #[.int .i64 0, .int .i64 0] 24) := ⟨_, rfl⟩
  have k8 : Blk w1 w.heap.size 24 #[.int .i64 0, .int .i64 0] := by rw [hw1]; exact Blk.new _ _ _
  have hb : Below w.heap.size w w1 := by rw [hw1]; exact (Below.refl _ _).alloc (Nat.le_refl _) _
  go_enter Tryz.func100, Tryz.ntmps100
  go_wp2_with fail
  rw [← hw1]
  clear hw1
  refine wp_held_np (fun w' : World => (w'.cell? ⟨bL, oL + i * 5, none⟩ = some (.int .i64 d1.s.head) ∧ w'.cell? ⟨bL, oL + i * 5 + 1, none⟩ = some (.slice d1.A d1.n d1.c) ∧ w'.cell? ⟨bL, oL + i * 5 + 2, none⟩ = some (.int .i64 d1.s.lane.lo) ∧ w'.cell? ⟨bL, oL + i * 5 + 3, none⟩ = some (.int .i64 d1.s.lane.hi) ∧ w'.cell? ⟨bL, oL + i * 5 + 4, none⟩ = some (.int .i64 d1.s.bend) ∧ w'.cell? ⟨bM, oM + i, none⟩ = some (.slice e1.O d1.n e1.c)) ∧ (w'.cell? ⟨bL, oL + k * 5, none⟩ = some (.int .i64 d2.s.head) ∧ w'.cell? ⟨bL, oL + k * 5 + 1, none⟩ = some (.slice d2.A d2.n d2.c) ∧ w'.cell? ⟨bL, oL + k * 5 + 2, none⟩ = some (.int .i64 d2.s.lane.lo) ∧ w'.cell? ⟨bL, oL + k * 5 + 3, none⟩ = some (.int .i64 d2.s.lane.hi) ∧ w'.cell? ⟨bL, oL + k * 5 + 4, none⟩ = some (.int .i64 d2.s.bend) ∧ w'.cell? ⟨bM, oM + k, none⟩ = some (.slice e2.O d2.n e2.c))) (by kernel_rfl) ?_
  have hSb : Hid (∀ W', Below w.heap.size w W' → (fun w' : World => (w'.cell? ⟨bL, oL + i * 5, none⟩ = some (.int .i64 d1.s.head) ∧ w'.cell? ⟨bL, oL + i * 5 + 1, none⟩ = some (.slice d1.A d1.n d1.c) ∧ w'.cell? ⟨bL, oL + i * 5 + 2, none⟩ = some (.int .i64 d1.s.lane.lo) ∧ w'.cell? ⟨bL, oL + i * 5 + 3, none⟩ = some (.int .i64 d1.s.lane.hi) ∧ w'.cell? ⟨bL, oL + i * 5 + 4, none⟩ = some (.int .i64 d1.s.bend) ∧ w'.cell? ⟨bM, oM + i, none⟩ = some (.slice e1.O d1.n e1.c)) ∧ (w'.cell? ⟨bL, oL + k * 5, none⟩ = some (.int .i64 d2.s.head) ∧ w'.cell? ⟨bL, oL + k * 5 + 1, none⟩ = some (.slice d2.A d2.n d2.c) ∧ w'.cell? ⟨bL, oL + k * 5 + 2, none⟩ = some (.int .i64 d2.s.lane.lo) ∧ w'.cell? ⟨bL, oL + k * 5 + 3, none⟩ = some (.int .i64 d2.s.lane.hi) ∧ w'.cell? ⟨bL, oL + k * 5 + 4, none⟩ = some (.int .i64 d2.s.bend) ∧ w'.cell? ⟨bM, oM + k, none⟩ = some (.slice e2.O d2.n e2.c))) W') := by
    show ∀ _, _
    intro W' hb
    exact ⟨⟨(hb.cell (p := ⟨bL, oL + i * 5, none⟩) hbL).trans z0, (hb.cell (p := ⟨bL, oL + i * 5 + 1, none⟩) hbL).trans z1, (hb.cell (p := ⟨bL, oL + i * 5 + 2, none⟩) hbL).trans z2, (hb.cell (p := ⟨bL, oL + i * 5 + 3, none⟩) hbL).trans z3, (hb.cell (p := ⟨bL, oL + i * 5 + 4, none⟩) hbL).trans z4, (hb.cell (p := ⟨bM, oM + i, none⟩) hbM).trans y0⟩, ⟨(hb.cell (p := ⟨bL, oL + k * 5, none⟩) hbL).trans u0, (hb.cell (p := ⟨bL, oL + k * 5 + 1, none⟩) hbL).trans u1, (hb.cell (p := ⟨bL, oL + k * 5 + 2, none⟩) hbL).trans u2, (hb.cell (p := ⟨bL, oL + k * 5 + 3, none⟩) hbL).trans u3, (hb.cell (p := ⟨bL, oL + k * 5 + 4, none⟩) hbL).trans u4, (hb.cell (p := ⟨bM, oM + k, none⟩) hbM).trans v0⟩⟩
  replace hb := hb.drew
  replace k8 := k8.drew
  generalize w1.drew = W at *
  have hS := hSb.out _ hb
  refine held_take (i := 0) (v := ?_) 17 rfl rfl (by kernel_rfl) (by kernel_rfl) (by kernel_rfl) (fun _ _ _ h => h) (Or.inl ⟨by rfl, ?_⟩) hS ?_
  rotate_left 1
  · intro w' hSw
    try dsimp only at hSw
    obtain ⟨⟨p0, p1, p2, p3, p4, p5⟩, q0, q1, q2, q3, q4, q5⟩ := hSw
    go_simp
    all_goals with_reducible rfl
  try simp only [Act.put, List.setIfInBounds_toArray, List.set_cons_zero, List.set_cons_succ]
  refine held_take (i := 1) (v := ?_) 18 rfl rfl (by kernel_rfl) (by kernel_rfl) (by kernel_rfl) (fun _ _ _ h => h) (Or.inl ⟨by rfl, ?_⟩) hS ?_
  rotate_left 1
  · intro w' hSw
    try dsimp only at hSw
    obtain ⟨⟨p0, p1, p2, p3, p4, p5⟩, q0, q1, q2, q3, q4, q5⟩ := hSw
    go_simp
    all_goals with_reducible rfl
  try simp only [Act.put, List.setIfInBounds_toArray, List.set_cons_zero, List.set_cons_succ]
  refine held_take (i := 2) (v := ?_) 19 rfl rfl (by kernel_rfl) (by kernel_rfl) (by kernel_rfl) (fun _ _ _ h => h) (Or.inl ⟨by rfl, ?_⟩) hS ?_
  rotate_left 1
  · intro w' hSw
    try dsimp only at hSw
    obtain ⟨⟨p0, p1, p2, p3, p4, p5⟩, q0, q1, q2, q3, q4, q5⟩ := hSw
    go_simp
    all_goals with_reducible rfl
  try simp only [Act.put, List.setIfInBounds_toArray, List.set_cons_zero, List.set_cons_succ]
  refine held_take (i := 3) (v := ?_) 20 rfl rfl (by kernel_rfl) (by kernel_rfl) (by kernel_rfl) (fun _ _ _ h => h) (Or.inl ⟨by rfl, ?_⟩) hS ?_
  rotate_left 1
  · intro w' hSw
    try dsimp only at hSw
    obtain ⟨⟨p0, p1, p2, p3, p4, p5⟩, q0, q1, q2, q3, q4, q5⟩ := hSw
    go_simp
    all_goals with_reducible rfl
  try simp only [Act.put, List.setIfInBounds_toArray, List.set_cons_zero, List.set_cons_succ]
  refine held_take (i := 4) (v := ?_) 21 rfl rfl (by kernel_rfl) (by kernel_rfl) (by kernel_rfl) (fun _ _ _ h => h) (Or.inl ⟨by rfl, ?_⟩) hS ?_
  rotate_left 1
  · intro w' hSw
    try dsimp only at hSw
    obtain ⟨⟨p0, p1, p2, p3, p4, p5⟩, q0, q1, q2, q3, q4, q5⟩ := hSw
    go_simp
    all_goals with_reducible rfl
  try simp only [Act.put, List.setIfInBounds_toArray, List.set_cons_zero, List.set_cons_succ]
  refine held_take (i := 5) (v := ?_) 22 rfl rfl (by kernel_rfl) (by kernel_rfl) (by kernel_rfl) (fun _ _ _ h => h) (Or.inl ⟨by rfl, ?_⟩) hS ?_
  rotate_left 1
  · intro w' hSw
    try dsimp only at hSw
    obtain ⟨⟨p0, p1, p2, p3, p4, p5⟩, q0, q1, q2, q3, q4, q5⟩ := hSw
    go_simp
    all_goals with_reducible rfl
  try simp only [Act.put, List.setIfInBounds_toArray, List.set_cons_zero, List.set_cons_succ]
  refine held_take (i := 6) (v := ?_) 23 rfl rfl (by kernel_rfl) (by kernel_rfl) (by kernel_rfl) (fun _ _ _ h => h) (Or.inl ⟨by rfl, ?_⟩) hS ?_
  rotate_left 1
  · intro w' hSw
    try dsimp only at hSw
    obtain ⟨⟨p0, p1, p2, p3, p4, p5⟩, q0, q1, q2, q3, q4, q5⟩ := hSw
    go_simp
    all_goals with_reducible rfl
  try simp only [Act.put, List.setIfInBounds_toArray, List.set_cons_zero, List.set_cons_succ]
  refine held_take (i := 7) (v := ?_) 24 rfl rfl (by kernel_rfl) (by kernel_rfl) (by kernel_rfl) (fun _ _ _ h => h) (Or.inl ⟨by rfl, ?_⟩) hS ?_
  rotate_left 1
  · intro w' hSw
    try dsimp only at hSw
    obtain ⟨⟨p0, p1, p2, p3, p4, p5⟩, q0, q1, q2, q3, q4, q5⟩ := hSw
    go_simp
    all_goals with_reducible rfl
  try simp only [Act.put, List.setIfInBounds_toArray, List.set_cons_zero, List.set_cons_succ]
  refine held_take (i := 9) (v := ?_) 26 rfl rfl (by kernel_rfl) (by kernel_rfl) (by kernel_rfl) (fun _ _ _ h => h) (Or.inl ⟨by rfl, ?_⟩) hS ?_
  rotate_left 1
  · intro w' hSw
    try dsimp only at hSw
    obtain ⟨⟨p0, p1, p2, p3, p4, p5⟩, q0, q1, q2, q3, q4, q5⟩ := hSw
    go_simp
    all_goals with_reducible rfl
  try simp only [Act.put, List.setIfInBounds_toArray, List.set_cons_zero, List.set_cons_succ]
  refine held_take (i := 10) (v := ?_) 27 rfl rfl (by kernel_rfl) (by kernel_rfl) (by kernel_rfl) (fun _ _ _ h => h) (Or.inl ⟨by rfl, ?_⟩) hS ?_
  rotate_left 1
  · intro w' hSw
    try dsimp only at hSw
    obtain ⟨⟨p0, p1, p2, p3, p4, p5⟩, q0, q1, q2, q3, q4, q5⟩ := hSw
    go_simp
    all_goals with_reducible rfl
  try simp only [Act.put, List.setIfInBounds_toArray, List.set_cons_zero, List.set_cons_succ]
  refine held_take (i := 11) (v := ?_) 28 rfl rfl (by kernel_rfl) (by kernel_rfl) (by kernel_rfl) (fun _ _ _ h => h) (Or.inl ⟨by rfl, ?_⟩) hS ?_
  rotate_left 1
  · intro w' hSw
    try dsimp only at hSw
    obtain ⟨⟨p0, p1, p2, p3, p4, p5⟩, q0, q1, q2, q3, q4, q5⟩ := hSw
    go_simp
    all_goals with_reducible rfl
  try simp only [Act.put, List.setIfInBounds_toArray, List.set_cons_zero, List.set_cons_succ]
  refine held_take (i := 12) (v := ?_) 29 rfl rfl (by kernel_rfl) (by kernel_rfl) (by kernel_rfl) (fun _ _ _ h => h) (Or.inl ⟨by rfl, ?_⟩) hS ?_
  rotate_left 1
  · intro w' hSw
    try dsimp only at hSw
    obtain ⟨⟨p0, p1, p2, p3, p4, p5⟩, q0, q1, q2, q3, q4, q5⟩ := hSw
    go_simp
    all_goals with_reducible rfl
  try simp only [Act.put, List.setIfInBounds_toArray, List.set_cons_zero, List.set_cons_succ]
  refine held_take (i := 13) (v := ?_) 30 rfl rfl (by kernel_rfl) (by kernel_rfl) (by kernel_rfl) (fun _ _ _ h => h) (Or.inl ⟨by rfl, ?_⟩) hS ?_
  rotate_left 1
  · intro w' hSw
    try dsimp only at hSw
    obtain ⟨⟨p0, p1, p2, p3, p4, p5⟩, q0, q1, q2, q3, q4, q5⟩ := hSw
    go_simp
    all_goals with_reducible rfl
  try simp only [Act.put, List.setIfInBounds_toArray, List.set_cons_zero, List.set_cons_succ]
  refine held_take (i := 14) (v := ?_) 31 rfl rfl (by kernel_rfl) (by kernel_rfl) (by kernel_rfl) (fun _ _ _ h => h) (Or.inl ⟨by rfl, ?_⟩) hS ?_
  rotate_left 1
  · intro w' hSw
    try dsimp only at hSw
    obtain ⟨⟨p0, p1, p2, p3, p4, p5⟩, q0, q1, q2, q3, q4, q5⟩ := hSw
    go_simp
    all_goals with_reducible rfl
  try simp only [Act.put, List.setIfInBounds_toArray, List.set_cons_zero, List.set_cons_succ]
  refine held_take (i := 15) (v := ?_) 32 rfl rfl (by kernel_rfl) (by kernel_rfl) (by kernel_rfl) (fun _ _ _ h => h) (Or.inl ⟨by rfl, ?_⟩) hS ?_
  rotate_left 1
  · intro w' hSw
    try dsimp only at hSw
    obtain ⟨⟨p0, p1, p2, p3, p4, p5⟩, q0, q1, q2, q3, q4, q5⟩ := hSw
    go_simp
    all_goals with_reducible rfl
  try simp only [Act.put, List.setIfInBounds_toArray, List.set_cons_zero, List.set_cons_succ]
  refine held_take (i := 16) (v := ?_) 33 rfl rfl (by kernel_rfl) (by kernel_rfl) (by kernel_rfl) (fun _ _ _ h => h) (Or.inl ⟨by rfl, ?_⟩) hS ?_
  rotate_left 1
  · intro w' hSw
    try dsimp only at hSw
    obtain ⟨⟨p0, p1, p2, p3, p4, p5⟩, q0, q1, q2, q3, q4, q5⟩ := hSw
    go_simp
    all_goals with_reducible rfl
  try simp only [Act.put, List.setIfInBounds_toArray, List.set_cons_zero, List.set_cons_succ]
  refine held_one (i := 8) (by kernel_rfl) rfl rfl (fun K hK => ?_)
  go_simp
  refine (hN1 _ (hst1.below hb) (hbt1.below hb)).mono ?_
  rintro e1 W1 ⟨P1, c1, rfl, r1, hbel⟩
  clear hS
  skip
  replace hb := hb.trans (hbel.mono hb.size)
  replace k8 := k8.below hbel
  clear hbel
  have hS := hSb.out _ hb
  refine hK _ _ hS ?_
  clear hK K
  try simp only [Act.put, List.setIfInBounds_toArray, List.set_cons_zero, List.set_cons_succ]
  refine held_one (i := 17) (by kernel_rfl) rfl rfl (fun K hK => ?_)
  go_simp
  refine (hN2 _ (hst2.below hb) (hbt2.below hb)).mono ?_
  rintro e1 W2 ⟨P2, c2, rfl, r2, hbel⟩
  clear hS
  replace r1 := r1.below hbel
  replace hb := hb.trans (hbel.mono hb.size)
  replace k8 := k8.below hbel
  clear hbel
  have hS := hSb.out _ hb
  refine hK _ _ hS ?_
  clear hK K
  try simp only [Act.put, List.setIfInBounds_toArray, List.set_cons_zero, List.set_cons_succ]
  refine held_take (i := 18) (v := ?_) 9 rfl rfl (by kernel_rfl) (by kernel_rfl) (by kernel_rfl) (fun _ _ _ h => h) (Or.inl ⟨by rfl, ?_⟩) hS ?_
  rotate_left 1
  · intro w' hSw
    try dsimp only at hSw
    obtain ⟨⟨p0, p1, p2, p3, p4, p5⟩, q0, q1, q2, q3, q4, q5⟩ := hSw
    go_simp
    all_goals with_reducible rfl
  try simp only [Act.put, List.setIfInBounds_toArray, List.set_cons_zero, List.set_cons_succ]
  refine held_take (i := 19) (v := ?_) 10 rfl rfl (by kernel_rfl) (by kernel_rfl) (by kernel_rfl) (fun _ _ _ h => h) (Or.inl ⟨by rfl, ?_⟩) hS ?_
  rotate_left 1
  · intro w' hSw
    try dsimp only at hSw
    obtain ⟨⟨p0, p1, p2, p3, p4, p5⟩, q0, q1, q2, q3, q4, q5⟩ := hSw
    go_simp
    all_goals with_reducible rfl
  try simp only [Act.put, List.setIfInBounds_toArray, List.set_cons_zero, List.set_cons_succ]
  refine wpAnyH_done (by kernel_rfl) (noPanic_normal ?_) _
  clear hS hSb hN1 hN2 z0 z1 z2 z3 z4 y0 u0 u1 u2 u3 u4 v0 hst1 hst2 hbt1 hbt2
  replace r1 := r1.mono (Nat.zero_le _)
  replace r2 := r2.mono (Nat.zero_le _)
  obtain ⟨bX, oX, hA, -, hbX, z0, z1, z2, z3, z4, z5, z6, z7⟩ := r1.reg hx0
  obtain ⟨bY, oY, hB, -, hbY, y0, y1, y2, y3, y4, y5, y6, y7⟩ := r2.reg hy1
  simp only [Nat.zero_mul, Nat.add_zero] at z0 z1 z2 z3 z4 z5 z6 z7 y0 y1 y2 y3 y4 y5 y6 y7
  subst hA
  subst hB
  have hgap := fun W => RGap_any x0 yr x0 yr W hxg.1 hyg.1 hxg.2 hyg.2
  obtain ⟨G, hG⟩ : ∃ G, gapS x0 yr = G := ⟨_, rfl⟩
  rw [hG] at hfirst
  simp only [hG, regA] at hgap
  clear hG
  replace hx0 := Lib.hid hx0
  replace hy1 := Lib.hid hy1
  replace hxg := Lib.hid hxg
  replace hyg := Lib.hid hyg
  have hd1 : 0 < d1.n := by omega
  have hd2 : 0 < d2.n := by omega
  go_wp2_with fail
  refine wp_held_np (fun w' : World => (w'.cell? ⟨bX, oX, none⟩ = some (.int .i64 x0.x.lo) ∧ w'.cell? ⟨bX, oX + 1, none⟩ = some (.int .i64 x0.x.hi) ∧ w'.cell? ⟨bX, oX + 2, none⟩ = some (.int .i64 x0.y.lo) ∧ w'.cell? ⟨bX, oX + 3, none⟩ = some (.int .i64 x0.y.hi) ∧ w'.cell? ⟨bX, oX + 4, none⟩ = some (.int .i64 x0.s.lo) ∧ w'.cell? ⟨bX, oX + 5, none⟩ = some (.int .i64 x0.s.hi) ∧ w'.cell? ⟨bX, oX + 6, none⟩ = some (.int .i64 x0.d.lo) ∧ w'.cell? ⟨bX, oX + 7, none⟩ = some (.int .i64 x0.d.hi)) ∧ w'.cell? ⟨bY, oY, none⟩ = some (.int .i64 yr.x.lo) ∧ w'.cell? ⟨bY, oY + 1, none⟩ = some (.int .i64 yr.x.hi) ∧ w'.cell? ⟨bY, oY + 2, none⟩ = some (.int .i64 yr.y.lo) ∧ w'.cell? ⟨bY, oY + 3, none⟩ = some (.int .i64 yr.y.hi) ∧ w'.cell? ⟨bY, oY + 4, none⟩ = some (.int .i64 yr.s.lo) ∧ w'.cell? ⟨bY, oY + 5, none⟩ = some (.int .i64 yr.s.hi) ∧ w'.cell? ⟨bY, oY + 6, none⟩ = some (.int .i64 yr.d.lo) ∧ w'.cell? ⟨bY, oY + 7, none⟩ = some (.int .i64 yr.d.hi)) (by kernel_rfl) ?_
  have hSb : Hid (∀ W', Below W2.heap.size W2 W' → (fun w' : World => (w'.cell? ⟨bX, oX, none⟩ = some (.int .i64 x0.x.lo) ∧ w'.cell? ⟨bX, oX + 1, none⟩ = some (.int .i64 x0.x.hi) ∧ w'.cell? ⟨bX, oX + 2, none⟩ = some (.int .i64 x0.y.lo) ∧ w'.cell? ⟨bX, oX + 3, none⟩ = some (.int .i64 x0.y.hi) ∧ w'.cell? ⟨bX, oX + 4, none⟩ = some (.int .i64 x0.s.lo) ∧ w'.cell? ⟨bX, oX + 5, none⟩ = some (.int .i64 x0.s.hi) ∧ w'.cell? ⟨bX, oX + 6, none⟩ = some (.int .i64 x0.d.lo) ∧ w'.cell? ⟨bX, oX + 7, none⟩ = some (.int .i64 x0.d.hi)) ∧ w'.cell? ⟨bY, oY, none⟩ = some (.int .i64 yr.x.lo) ∧ w'.cell? ⟨bY, oY + 1, none⟩ = some (.int .i64 yr.x.hi) ∧ w'.cell? ⟨bY, oY + 2, none⟩ = some (.int .i64 yr.y.lo) ∧ w'.cell? ⟨bY, oY + 3, none⟩ = some (.int .i64 yr.y.hi) ∧ w'.cell? ⟨bY, oY + 4, none⟩ = some (.int .i64 yr.s.lo) ∧ w'.cell? ⟨bY, oY + 5, none⟩ = some (.int .i64 yr.s.hi) ∧ w'.cell? ⟨bY, oY + 6, none⟩ = some (.int .i64 yr.d.lo) ∧ w'.cell? ⟨bY, oY + 7, none⟩ = some (.int .i64 yr.d.hi)) W') := by
    show ∀ _, _
    intro W' hb9
    exact ⟨⟨(hb9.cell (p := ⟨bX, oX, none⟩) hbX).trans z0, (hb9.cell (p := ⟨bX, oX + 1, none⟩) hbX).trans z1, (hb9.cell (p := ⟨bX, oX + 2, none⟩) hbX).trans z2, (hb9.cell (p := ⟨bX, oX + 3, none⟩) hbX).trans z3, (hb9.cell (p := ⟨bX, oX + 4, none⟩) hbX).trans z4, (hb9.cell (p := ⟨bX, oX + 5, none⟩) hbX).trans z5, (hb9.cell (p := ⟨bX, oX + 6, none⟩) hbX).trans z6, (hb9.cell (p := ⟨bX, oX + 7, none⟩) hbX).trans z7⟩, (hb9.cell (p := ⟨bY, oY, none⟩) hbY).trans y0, (hb9.cell (p := ⟨bY, oY + 1, none⟩) hbY).trans y1, (hb9.cell (p := ⟨bY, oY + 2, none⟩) hbY).trans y2, (hb9.cell (p := ⟨bY, oY + 3, none⟩) hbY).trans y3, (hb9.cell (p := ⟨bY, oY + 4, none⟩) hbY).trans y4, (hb9.cell (p := ⟨bY, oY + 5, none⟩) hbY).trans y5, (hb9.cell (p := ⟨bY, oY + 6, none⟩) hbY).trans y6, (hb9.cell (p := ⟨bY, oY + 7, none⟩) hbY).trans y7⟩
  have hb9 : Below W2.heap.size W2 W2.drew := (Below.refl _ _).drew
  have hS := hSb.out _ hb9
  clear z0 z1 z2 z3 z4 z5 z6 z7 y0 y1 y2 y3 y4 y5 y6 y7
  generalize W2.drew = wd at *
  refine held_take (i := 0) (v := ?_) 36 rfl rfl (by kernel_rfl) (by kernel_rfl) (by kernel_rfl) (fun _ _ _ h => h) (Or.inl ⟨by rfl, ?_⟩) hS ?_
  rotate_left 1
  · intro w' hSw
    try dsimp only at hSw
    obtain ⟨⟨p0, p1, p2, p3, p4, p5, p6, p7⟩, q0, q1, q2, q3, q4, q5, q6, q7⟩ := hSw
    go_simp
    all_goals with_reducible rfl
  try simp only [Act.put, List.setIfInBounds_toArray, List.set_cons_zero, List.set_cons_succ]
  refine held_take (i := 1) (v := ?_) 37 rfl rfl (by kernel_rfl) (by kernel_rfl) (by kernel_rfl) (fun _ _ _ h => h) (Or.inl ⟨by rfl, ?_⟩) hS ?_
  rotate_left 1
  · intro w' hSw
    try dsimp only at hSw
    obtain ⟨⟨p0, p1, p2, p3, p4, p5, p6, p7⟩, q0, q1, q2, q3, q4, q5, q6, q7⟩ := hSw
    go_simp
    all_goals with_reducible rfl
  try simp only [Act.put, List.setIfInBounds_toArray, List.set_cons_zero, List.set_cons_succ]
  refine held_take (i := 2) (v := ?_) 38 rfl rfl (by kernel_rfl) (by kernel_rfl) (by kernel_rfl) (fun _ _ _ h => h) (Or.inl ⟨by rfl, ?_⟩) hS ?_
  rotate_left 1
  · intro w' hSw
    try dsimp only at hSw
    obtain ⟨⟨p0, p1, p2, p3, p4, p5, p6, p7⟩, q0, q1, q2, q3, q4, q5, q6, q7⟩ := hSw
    go_simp
    all_goals with_reducible rfl
  try simp only [Act.put, List.setIfInBounds_toArray, List.set_cons_zero, List.set_cons_succ]
  refine held_take (i := 3) (v := ?_) 39 rfl rfl (by kernel_rfl) (by kernel_rfl) (by kernel_rfl) (fun _ _ _ h => h) (Or.inl ⟨by rfl, ?_⟩) hS ?_
  rotate_left 1
  · intro w' hSw
    try dsimp only at hSw
    obtain ⟨⟨p0, p1, p2, p3, p4, p5, p6, p7⟩, q0, q1, q2, q3, q4, q5, q6, q7⟩ := hSw
    go_simp
    all_goals with_reducible rfl
  try simp only [Act.put, List.setIfInBounds_toArray, List.set_cons_zero, List.set_cons_succ]
  refine held_take (i := 4) (v := ?_) 40 rfl rfl (by kernel_rfl) (by kernel_rfl) (by kernel_rfl) (fun _ _ _ h => h) (Or.inl ⟨by rfl, ?_⟩) hS ?_
  rotate_left 1
  · intro w' hSw
    try dsimp only at hSw
    obtain ⟨⟨p0, p1, p2, p3, p4, p5, p6, p7⟩, q0, q1, q2, q3, q4, q5, q6, q7⟩ := hSw
    go_simp
    all_goals with_reducible rfl
  try simp only [Act.put, List.setIfInBounds_toArray, List.set_cons_zero, List.set_cons_succ]
  refine held_take (i := 5) (v := ?_) 41 rfl rfl (by kernel_rfl) (by kernel_rfl) (by kernel_rfl) (fun _ _ _ h => h) (Or.inl ⟨by rfl, ?_⟩) hS ?_
  rotate_left 1
  · intro w' hSw
    try dsimp only at hSw
    obtain ⟨⟨p0, p1, p2, p3, p4, p5, p6, p7⟩, q0, q1, q2, q3, q4, q5, q6, q7⟩ := hSw
    go_simp
    all_goals with_reducible rfl
  try simp only [Act.put, List.setIfInBounds_toArray, List.set_cons_zero, List.set_cons_succ]
  refine wpAnyH_fin (f := fun a g => (((((a.put (some 42) (.tuple #[.agg #[.int .i64 G.lo, .int .i64 G.hi], .int .i64 0])).put (some 35) (.tuple #[.agg #[.int .i64 G.lo, .int .i64 G.hi], .int .i64 0])).put (some 43) (.agg #[.int .i64 G.lo, .int .i64 G.hi])).put (some 44) (.int .i64 0)).put (some 11) (.pointer (some ⟨g, 0, none⟩))).put (some 12) (.int .i64 0)) (B := fun g W' => Blk W' g 24 #[.int .i64 G.lo, .int .i64 G.hi] ∧ W2.heap.size ≤ g ∧ Below W2.heap.size W2 W') ?_ (fun hrest => ?_)
  rotate_left 1
  · try simp only [Act.put, List.setIfInBounds_toArray, List.set_cons_zero, List.set_cons_succ] at hrest
    refine held_two (i := 6) (j := 10) (by kernel_rfl) rfl rfl rfl rfl (fun K hK => ?_) (fun K hK => ?_)
    · skip
      go_simp
      refine (hgap _).mono ?_
      rintro e X1 ⟨rfl, hbel⟩
      replace hb9 := hb9.trans (hbel.mono hb9.size)
      try replace k9 := k9.below hbel
      clear hS hbel
      have hS := hSb.out _ hb9
      refine hK _ _ hS ?_
      clear hK K
      try simp only [Act.put, List.setIfInBounds_toArray, List.set_cons_zero, List.set_cons_succ]
      refine held_take (i := 7) (v := ?_) 35 rfl rfl (by kernel_rfl) (by kernel_rfl) (by kernel_rfl) (fun _ _ _ h => h) (Or.inl ⟨by rfl, ?_⟩) hS ?_
      rotate_left 1
      · intro w' hSw
        try dsimp only at hSw
        obtain ⟨⟨p0, p1, p2, p3, p4, p5, p6, p7⟩, q0, q1, q2, q3, q4, q5, q6, q7⟩ := hSw
        go_simp
        all_goals with_reducible rfl
      try simp only [Act.put, List.setIfInBounds_toArray, List.set_cons_zero, List.set_cons_succ]
      refine held_take (i := 8) (v := ?_) 43 rfl rfl (by kernel_rfl) (by kernel_rfl) (by kernel_rfl) (fun _ _ _ h => h) (Or.inl ⟨by rfl, ?_⟩) hS ?_
      rotate_left 1
      · intro w' hSw
        try dsimp only at hSw
        obtain ⟨⟨p0, p1, p2, p3, p4, p5, p6, p7⟩, q0, q1, q2, q3, q4, q5, q6, q7⟩ := hSw
        go_simp
        all_goals with_reducible rfl
      try simp only [Act.put, List.setIfInBounds_toArray, List.set_cons_zero, List.set_cons_succ]
      refine held_take (i := 9) (v := ?_) 44 rfl rfl (by kernel_rfl) (by kernel_rfl) (by kernel_rfl) (fun _ _ _ h => h) (Or.inl ⟨by rfl, ?_⟩) hS ?_
      rotate_left 1
      · intro w' hSw
        try dsimp only at hSw
        obtain ⟨⟨p0, p1, p2, p3, p4, p5, p6, p7⟩, q0, q1, q2, q3, q4, q5, q6, q7⟩ := hSw
        go_simp
        all_goals with_reducible rfl
      try simp only [Act.put, List.setIfInBounds_toArray, List.set_cons_zero, List.set_cons_succ]
      refine held_one (i := 10) (by kernel_rfl) rfl rfl (fun K hK => ?_)
      go_simp
      have hgg := hb9.size
      have k9 := Blk.new X1 24 #[.int .i64 0, .int .i64 0]
      replace hb9 := hb9.alloc hb9.size (.cells #[.int .i64 0, .int .i64 0] 24)
      clear hS
      have hS := hSb.out _ hb9
      refine hK _ _ hS ?_
      clear hK K
      try simp only [Act.put, List.setIfInBounds_toArray, List.set_cons_zero, List.set_cons_succ]
      generalize X1.heap.size = g9 at *
      generalize X1.alloc (.cells #[.int .i64 0, .int .i64 0] 24) = X2 at *
      refine held_one (i := 11) (by kernel_rfl) rfl rfl (fun K hK => ?_)
      have kz := (k9.set_ 0 (.int .i64 G.lo)).set_ 1 (.int .i64 G.hi)
      simp only [List.setIfInBounds_toArray, List.set_cons_zero, List.set_cons_succ] at kz
      have bz := (hb9.setCell (p := ⟨g9, 0, none⟩) (by dsimp only; omega) (.int .i64 G.lo)).setCell (p := ⟨g9, 1, none⟩) (by dsimp only; omega) (.int .i64 G.hi)
      obtain ⟨X3, hwz⟩ : ∃ x, x = (X2.setCell ⟨g9, 0, none⟩ (.int .i64 G.lo)).setCell ⟨g9, 1, none⟩ (.int .i64 G.hi) := ⟨_, rfl⟩
      rw [← hwz] at kz bz
      obtain ⟨c9, f9, l9⟩ := k9.rules
      go_simp
      rw [← hwz]
      clear hwz c9 f9 l9 hS
      have hS := hSb.out _ bz
      refine hK _ _ hS ?_
      clear hK K
      try simp only [Act.put, List.setIfInBounds_toArray, List.set_cons_zero, List.set_cons_succ]
      refine held_take (i := 12) (v := ?_) 12 rfl rfl (by kernel_rfl) (by kernel_rfl) (by kernel_rfl) (fun _ _ _ h => h) (Or.inl ⟨by rfl, ?_⟩) hS ?_
      rotate_left 1
      · intro w' hSw
        try dsimp only at hSw
        obtain ⟨⟨p0, p1, p2, p3, p4, p5, p6, p7⟩, q0, q1, q2, q3, q4, q5, q6, q7⟩ := hSw
        go_simp
        all_goals with_reducible rfl
      try simp only [Act.put, List.setIfInBounds_toArray, List.set_cons_zero, List.set_cons_succ]
      refine wpAnyH_done (by kernel_rfl) (hrest (g9) _ ⟨kz, hgg, bz⟩) _
    · skip
      go_simp
      have hgg := hb9.size
      have k9 := Blk.new wd 24 #[.int .i64 0, .int .i64 0]
      replace hb9 := hb9.alloc hb9.size (.cells #[.int .i64 0, .int .i64 0] 24)
      clear hS
      have hS := hSb.out _ hb9
      refine hK _ _ hS ?_
      clear hK K
      try simp only [Act.put, List.setIfInBounds_toArray, List.set_cons_zero, List.set_cons_succ]
      generalize wd.heap.size = g9 at *
      generalize wd.alloc (.cells #[.int .i64 0, .int .i64 0] 24) = X4 at *
      refine held_one (i := 6) (by kernel_rfl) rfl rfl (fun K hK => ?_)
      go_simp
      refine (hgap _).mono ?_
      rintro e X5 ⟨rfl, hbel⟩
      replace hb9 := hb9.trans (hbel.mono hb9.size)
      try replace k9 := k9.below hbel
      clear hS hbel
      have hS := hSb.out _ hb9
      refine hK _ _ hS ?_
      clear hK K
      try simp only [Act.put, List.setIfInBounds_toArray, List.set_cons_zero, List.set_cons_succ]
      refine held_take (i := 7) (v := ?_) 35 rfl rfl (by kernel_rfl) (by kernel_rfl) (by kernel_rfl) (fun _ _ _ h => h) (Or.inl ⟨by rfl, ?_⟩) hS ?_
      rotate_left 1
      · intro w' hSw
        try dsimp only at hSw
        obtain ⟨⟨p0, p1, p2, p3, p4, p5, p6, p7⟩, q0, q1, q2, q3, q4, q5, q6, q7⟩ := hSw
        go_simp
        all_goals with_reducible rfl
      try simp only [Act.put, List.setIfInBounds_toArray, List.set_cons_zero, List.set_cons_succ]
      refine held_take (i := 8) (v := ?_) 43 rfl rfl (by kernel_rfl) (by kernel_rfl) (by kernel_rfl) (fun _ _ _ h => h) (Or.inl ⟨by rfl, ?_⟩) hS ?_
      rotate_left 1
      · intro w' hSw
        try dsimp only at hSw
        obtain ⟨⟨p0, p1, p2, p3, p4, p5, p6, p7⟩, q0, q1, q2, q3, q4, q5, q6, q7⟩ := hSw
        go_simp
        all_goals with_reducible rfl
      try simp only [Act.put, List.setIfInBounds_toArray, List.set_cons_zero, List.set_cons_succ]
      refine held_take (i := 9) (v := ?_) 44 rfl rfl (by kernel_rfl) (by kernel_rfl) (by kernel_rfl) (fun _ _ _ h => h) (Or.inl ⟨by rfl, ?_⟩) hS ?_
      rotate_left 1
      · intro w' hSw
        try dsimp only at hSw
        obtain ⟨⟨p0, p1, p2, p3, p4, p5, p6, p7⟩, q0, q1, q2, q3, q4, q5, q6, q7⟩ := hSw
        go_simp
        all_goals with_reducible rfl
      try simp only [Act.put, List.setIfInBounds_toArray, List.set_cons_zero, List.set_cons_succ]
      refine held_one (i := 11) (by kernel_rfl) rfl rfl (fun K hK => ?_)
      have kz := (k9.set_ 0 (.int .i64 G.lo)).set_ 1 (.int .i64 G.hi)
      simp only [List.setIfInBounds_toArray, List.set_cons_zero, List.set_cons_succ] at kz
      have bz := (hb9.setCell (p := ⟨g9, 0, none⟩) (by dsimp only; omega) (.int .i64 G.lo)).setCell (p := ⟨g9, 1, none⟩) (by dsimp only; omega) (.int .i64 G.hi)
      obtain ⟨X6, hwz⟩ : ∃ x, x = (X5.setCell ⟨g9, 0, none⟩ (.int .i64 G.lo)).setCell ⟨g9, 1, none⟩ (.int .i64 G.hi) := ⟨_, rfl⟩
      rw [← hwz] at kz bz
      obtain ⟨c9, f9, l9⟩ := k9.rules
      go_simp
      rw [← hwz]
      clear hwz c9 f9 l9 hS
      have hS := hSb.out _ bz
      refine hK _ _ hS ?_
      clear hK K
      try simp only [Act.put, List.setIfInBounds_toArray, List.set_cons_zero, List.set_cons_succ]
      refine held_take (i := 12) (v := ?_) 12 rfl rfl (by kernel_rfl) (by kernel_rfl) (by kernel_rfl) (fun _ _ _ h => h) (Or.inl ⟨by rfl, ?_⟩) hS ?_
      rotate_left 1
      · intro w' hSw
        try dsimp only at hSw
        obtain ⟨⟨p0, p1, p2, p3, p4, p5, p6, p7⟩, q0, q1, q2, q3, q4, q5, q6, q7⟩ := hSw
        go_simp
        all_goals with_reducible rfl
      try simp only [Act.put, List.setIfInBounds_toArray, List.set_cons_zero, List.set_cons_succ]
      refine wpAnyH_done (by kernel_rfl) (hrest (g9) _ ⟨kz, hgg, bz⟩) _
  · rintro g11 W3 ⟨k11, hg11, hb10⟩
    try simp only [Act.put, List.setIfInBounds_toArray, List.set_cons_zero, List.set_cons_succ]
    refine noPanic_normal ?_
    clear hS hSb hgap hb9
    have hg8 : w.heap.size < W2.heap.size := k8.lt
    replace k8 := k8.below hb10
    go_wp2_with fail
    go_loopw [13] (fun j wr => ∃ q : Nat, j = .int .i64 q ∧ q ≤ d1.n ∧ (∃ B, apFr (some G) xs ys q = some B ∧ Blk wr g11 24 #[.int .i64 B.lo, .int .i64 B.hi]) ∧ Blk wr w.heap.size 24 #[.int .i64 0, .int .i64 0] ∧ Below W2.heap.size W2 wr) (fun j wr => d1.n - (intOf j).toNat)
    case atStart => exact ⟨0, rfl, Nat.zero_le _, ⟨G, rfl, k11⟩, k8, hb10⟩
    case round =>
      clear k11 k8 hb10
      obtain ⟨q, rfl, hq, ⟨B0, hB0, k11⟩, k8, hb10⟩ := hrel
      by_cases hlt : q < d1.n
      · obtain ⟨x, hx⟩ := some_of_lt hl1.out hlt
        have hstep := Lib.hid (apFr_succ (some G) ys hx)
        rw [hB0] at hstep
        have hxg := hg1.out x (List.mem_of_getElem? hx)
        have hq0 : (0 : Int) ≤ (q : Int) := by omega
        have hq1 : (q : Int) < (d1.n : Int) := by omega
        obtain ⟨bX2, oX2, hA, -, hbX2, z0, z1, z2, z3, z4, z5, z6, z7⟩ := r1.reg hx
        simp only [Option.some.injEq, Addr.mk.injEq, and_true] at hA
        obtain ⟨rfl, rfl⟩ := hA
        replace hx := Lib.hid hx
        replace hxg := Lib.hid hxg
        replace hB0 := Lib.hid hB0
        go_wp2_with fail
        go_loopw [14] (fun j wr => ∃ p : Nat, j = .int .i64 p ∧ p ≤ d2.n ∧ (∃ B, apIn (some B0) x ys p = some B ∧ Blk wr g11 24 #[.int .i64 B.lo, .int .i64 B.hi]) ∧ Blk wr w.heap.size 24 #[.int .i64 0, .int .i64 0] ∧ Below W2.heap.size W2 wr) (fun j wr => d2.n - (intOf j).toNat)
        case atStart => exact ⟨0, rfl, Nat.zero_le _, ⟨B0, rfl, k11⟩, k8, hb10⟩
        case round =>
          clear k11 k8 hb10
          obtain ⟨p, rfl, hp, ⟨B, hB, k11⟩, k8, hb10⟩ := hrel
          by_cases hltp : p < d2.n
          · obtain ⟨y, hy⟩ := some_of_lt hl2.out hltp
            have hnx := Lib.hid (apIn_succ (some B0) x hy)
            rw [hB] at hnx
            have hyg := hg2.out y (List.mem_of_getElem? hy)
            have hp0 : (0 : Int) ≤ (p : Int) := by omega
            have hp1' : (p : Int) < (d2.n : Int) := by omega
            obtain ⟨bY2, oY2, hA, -, hbY2, y0, y1, y2, y3, y4, y5, y6, y7⟩ := r2.reg hy
            simp only [Option.some.injEq, Addr.mk.injEq, and_true] at hA
            obtain ⟨rfl, rfl⟩ := hA
            have hgap := fun W => RGap_any x y x y W hxg.out.1 hyg.1 hxg.out.2 hyg.2
            obtain ⟨G, hG⟩ : ∃ G, gapS x y = G := ⟨_, rfl⟩
            rw [hG] at hnx
            simp only [hG, regA] at hgap
            replace hy := Lib.hid hy
            replace hB := Lib.hid hB
            replace hG := Lib.hid hG
            go_wp2_with fail
            refine wp_held_np (fun w' : World => (w'.cell? ⟨bX, oX + q * 8, none⟩ = some (.int .i64 x.x.lo) ∧ w'.cell? ⟨bX, oX + q * 8 + 1, none⟩ = some (.int .i64 x.x.hi) ∧ w'.cell? ⟨bX, oX + q * 8 + 2, none⟩ = some (.int .i64 x.y.lo) ∧ w'.cell? ⟨bX, oX + q * 8 + 3, none⟩ = some (.int .i64 x.y.hi) ∧ w'.cell? ⟨bX, oX + q * 8 + 4, none⟩ = some (.int .i64 x.s.lo) ∧ w'.cell? ⟨bX, oX + q * 8 + 5, none⟩ = some (.int .i64 x.s.hi) ∧ w'.cell? ⟨bX, oX + q * 8 + 6, none⟩ = some (.int .i64 x.d.lo) ∧ w'.cell? ⟨bX, oX + q * 8 + 7, none⟩ = some (.int .i64 x.d.hi)) ∧ w'.cell? ⟨bY, oY + p * 8, none⟩ = some (.int .i64 y.x.lo) ∧ w'.cell? ⟨bY, oY + p * 8 + 1, none⟩ = some (.int .i64 y.x.hi) ∧ w'.cell? ⟨bY, oY + p * 8 + 2, none⟩ = some (.int .i64 y.y.lo) ∧ w'.cell? ⟨bY, oY + p * 8 + 3, none⟩ = some (.int .i64 y.y.hi) ∧ w'.cell? ⟨bY, oY + p * 8 + 4, none⟩ = some (.int .i64 y.s.lo) ∧ w'.cell? ⟨bY, oY + p * 8 + 5, none⟩ = some (.int .i64 y.s.hi) ∧ w'.cell? ⟨bY, oY + p * 8 + 6, none⟩ = some (.int .i64 y.d.lo) ∧ w'.cell? ⟨bY, oY + p * 8 + 7, none⟩ = some (.int .i64 y.d.hi)) (by kernel_rfl) ?_
            have hgw : g11 < wr.heap.size := k11.lt
            have hSb : Hid (∀ W', Below wr.heap.size wr W' → (fun w' : World => (w'.cell? ⟨bX, oX + q * 8, none⟩ = some (.int .i64 x.x.lo) ∧ w'.cell? ⟨bX, oX + q * 8 + 1, none⟩ = some (.int .i64 x.x.hi) ∧ w'.cell? ⟨bX, oX + q * 8 + 2, none⟩ = some (.int .i64 x.y.lo) ∧ w'.cell? ⟨bX, oX + q * 8 + 3, none⟩ = some (.int .i64 x.y.hi) ∧ w'.cell? ⟨bX, oX + q * 8 + 4, none⟩ = some (.int .i64 x.s.lo) ∧ w'.cell? ⟨bX, oX + q * 8 + 5, none⟩ = some (.int .i64 x.s.hi) ∧ w'.cell? ⟨bX, oX + q * 8 + 6, none⟩ = some (.int .i64 x.d.lo) ∧ w'.cell? ⟨bX, oX + q * 8 + 7, none⟩ = some (.int .i64 x.d.hi)) ∧ w'.cell? ⟨bY, oY + p * 8, none⟩ = some (.int .i64 y.x.lo) ∧ w'.cell? ⟨bY, oY + p * 8 + 1, none⟩ = some (.int .i64 y.x.hi) ∧ w'.cell? ⟨bY, oY + p * 8 + 2, none⟩ = some (.int .i64 y.y.lo) ∧ w'.cell? ⟨bY, oY + p * 8 + 3, none⟩ = some (.int .i64 y.y.hi) ∧ w'.cell? ⟨bY, oY + p * 8 + 4, none⟩ = some (.int .i64 y.s.lo) ∧ w'.cell? ⟨bY, oY + p * 8 + 5, none⟩ = some (.int .i64 y.s.hi) ∧ w'.cell? ⟨bY, oY + p * 8 + 6, none⟩ = some (.int .i64 y.d.lo) ∧ w'.cell? ⟨bY, oY + p * 8 + 7, none⟩ = some (.int .i64 y.d.hi)) W') := by
              show ∀ _, _
              intro W' h9
              have hb9 := hb10.trans (h9.mono hb10.size)
              exact ⟨⟨(hb9.cell (p := ⟨bX, oX + q * 8, none⟩) hbX).trans z0, (hb9.cell (p := ⟨bX, oX + q * 8 + 1, none⟩) hbX).trans z1, (hb9.cell (p := ⟨bX, oX + q * 8 + 2, none⟩) hbX).trans z2, (hb9.cell (p := ⟨bX, oX + q * 8 + 3, none⟩) hbX).trans z3, (hb9.cell (p := ⟨bX, oX + q * 8 + 4, none⟩) hbX).trans z4, (hb9.cell (p := ⟨bX, oX + q * 8 + 5, none⟩) hbX).trans z5, (hb9.cell (p := ⟨bX, oX + q * 8 + 6, none⟩) hbX).trans z6, (hb9.cell (p := ⟨bX, oX + q * 8 + 7, none⟩) hbX).trans z7⟩, (hb9.cell (p := ⟨bY, oY + p * 8, none⟩) hbY).trans y0, (hb9.cell (p := ⟨bY, oY + p * 8 + 1, none⟩) hbY).trans y1, (hb9.cell (p := ⟨bY, oY + p * 8 + 2, none⟩) hbY).trans y2, (hb9.cell (p := ⟨bY, oY + p * 8 + 3, none⟩) hbY).trans y3, (hb9.cell (p := ⟨bY, oY + p * 8 + 4, none⟩) hbY).trans y4, (hb9.cell (p := ⟨bY, oY + p * 8 + 5, none⟩) hbY).trans y5, (hb9.cell (p := ⟨bY, oY + p * 8 + 6, none⟩) hbY).trans y6, (hb9.cell (p := ⟨bY, oY + p * 8 + 7, none⟩) hbY).trans y7⟩
            have hb9 : Below wr.heap.size wr wr.drew := (Below.refl _ _).drew
            have hS := hSb.out _ hb9
            clear y0 y1 y2 y3 y4 y5 y6 y7
            generalize wr.drew = wd at *
            refine held_take (i := 0) (v := ?_) 58 rfl rfl (by kernel_rfl) (by kernel_rfl) (by kernel_rfl) (fun _ _ _ h => h) (Or.inl ⟨by rfl, ?_⟩) hS ?_
            rotate_left 1
            · intro w' hSw
              try dsimp only at hSw
              obtain ⟨⟨p0, p1, p2, p3, p4, p5, p6, p7⟩, q0, q1, q2, q3, q4, q5, q6, q7⟩ := hSw
              go_simp
              all_goals with_reducible rfl
            try simp only [Act.put, List.setIfInBounds_toArray, List.set_cons_zero, List.set_cons_succ]
            refine held_take (i := 1) (v := ?_) 59 rfl rfl (by kernel_rfl) (by kernel_rfl) (by kernel_rfl) (fun _ _ _ h => h) (Or.inl ⟨by rfl, ?_⟩) hS ?_
            rotate_left 1
            · intro w' hSw
              try dsimp only at hSw
              obtain ⟨⟨p0, p1, p2, p3, p4, p5, p6, p7⟩, q0, q1, q2, q3, q4, q5, q6, q7⟩ := hSw
              go_simp
              all_goals with_reducible rfl
            try simp only [Act.put, List.setIfInBounds_toArray, List.set_cons_zero, List.set_cons_succ]
            refine held_take (i := 2) (v := ?_) 60 rfl rfl (by kernel_rfl) (by kernel_rfl) (by kernel_rfl) (fun _ _ _ h => h) (Or.inl ⟨by rfl, ?_⟩) hS ?_
            rotate_left 1
            · intro w' hSw
              try dsimp only at hSw
              obtain ⟨⟨p0, p1, p2, p3, p4, p5, p6, p7⟩, q0, q1, q2, q3, q4, q5, q6, q7⟩ := hSw
              go_simp
              all_goals with_reducible rfl
            try simp only [Act.put, List.setIfInBounds_toArray, List.set_cons_zero, List.set_cons_succ]
            refine held_take (i := 3) (v := ?_) 61 rfl rfl (by kernel_rfl) (by kernel_rfl) (by kernel_rfl) (fun _ _ _ h => h) (Or.inl ⟨by rfl, ?_⟩) hS ?_
            rotate_left 1
            · intro w' hSw
              try dsimp only at hSw
              obtain ⟨⟨p0, p1, p2, p3, p4, p5, p6, p7⟩, q0, q1, q2, q3, q4, q5, q6, q7⟩ := hSw
              go_simp
              all_goals with_reducible rfl
            try simp only [Act.put, List.setIfInBounds_toArray, List.set_cons_zero, List.set_cons_succ]
            refine held_take (i := 4) (v := ?_) 62 rfl rfl (by kernel_rfl) (by kernel_rfl) (by kernel_rfl) (fun _ _ _ h => h) (Or.inl ⟨by rfl, ?_⟩) hS ?_
            rotate_left 1
            · intro w' hSw
              try dsimp only at hSw
              obtain ⟨⟨p0, p1, p2, p3, p4, p5, p6, p7⟩, q0, q1, q2, q3, q4, q5, q6, q7⟩ := hSw
              go_simp
              all_goals with_reducible rfl
            try simp only [Act.put, List.setIfInBounds_toArray, List.set_cons_zero, List.set_cons_succ]
            refine held_take (i := 5) (v := ?_) 63 rfl rfl (by kernel_rfl) (by kernel_rfl) (by kernel_rfl) (fun _ _ _ h => h) (Or.inl ⟨by rfl, ?_⟩) hS ?_
            rotate_left 1
            · intro w' hSw
              try dsimp only at hSw
              obtain ⟨⟨p0, p1, p2, p3, p4, p5, p6, p7⟩, q0, q1, q2, q3, q4, q5, q6, q7⟩ := hSw
              go_simp
              all_goals with_reducible rfl
            try simp only [Act.put, List.setIfInBounds_toArray, List.set_cons_zero, List.set_cons_succ]
            refine held_take (i := 6) (v := ?_) 64 rfl rfl (by kernel_rfl) (by kernel_rfl) (by kernel_rfl) (fun _ _ _ h => h) (Or.inl ⟨by rfl, ?_⟩) hS ?_
            rotate_left 1
            · intro w' hSw
              try dsimp only at hSw
              obtain ⟨⟨p0, p1, p2, p3, p4, p5, p6, p7⟩, q0, q1, q2, q3, q4, q5, q6, q7⟩ := hSw
              go_simp
              all_goals with_reducible rfl
            try simp only [Act.put, List.setIfInBounds_toArray, List.set_cons_zero, List.set_cons_succ]
            refine held_take (i := 7) (v := ?_) 65 rfl rfl (by kernel_rfl) (by kernel_rfl) (by kernel_rfl) (fun _ _ _ h => h) (Or.inl ⟨by rfl, ?_⟩) hS ?_
            rotate_left 1
            · intro w' hSw
              try dsimp only at hSw
              obtain ⟨⟨p0, p1, p2, p3, p4, p5, p6, p7⟩, q0, q1, q2, q3, q4, q5, q6, q7⟩ := hSw
              go_simp
              all_goals with_reducible rfl
            try simp only [Act.put, List.setIfInBounds_toArray, List.set_cons_zero, List.set_cons_succ]
            refine wpAnyH_fin (f := fun a g => (((((a.put (some 66) (.tuple #[.agg #[.int .i64 G.lo, .int .i64 G.hi], .int .i64 0])).put (some 57) (.tuple #[.agg #[.int .i64 G.lo, .int .i64 G.hi], .int .i64 0])).put (some 67) (.agg #[.int .i64 G.lo, .int .i64 G.hi])).put (some 68) (.int .i64 0)).put (some 15) (.pointer (some ⟨g, 0, none⟩))).put (some 16) (.int .i64 0)) (B := fun g W' => Blk W' g 24 #[.int .i64 G.lo, .int .i64 G.hi] ∧ wr.heap.size ≤ g ∧ Below wr.heap.size wr W') ?_ (fun hrest => ?_)
            rotate_left 1
            · try simp only [Act.put, List.setIfInBounds_toArray, List.set_cons_zero, List.set_cons_succ] at hrest
              refine held_two (i := 8) (j := 12) (by kernel_rfl) rfl rfl rfl rfl (fun K hK => ?_) (fun K hK => ?_)
              · skip
                go_simp
                refine (hgap _).mono ?_
                rintro e X7 ⟨rfl, hbel⟩
                replace hb9 := hb9.trans (hbel.mono hb9.size)
                try replace k9 := k9.below hbel
                clear hS hbel
                have hS := hSb.out _ hb9
                refine hK _ _ hS ?_
                clear hK K
                try simp only [Act.put, List.setIfInBounds_toArray, List.set_cons_zero, List.set_cons_succ]
                refine held_take (i := 9) (v := ?_) 57 rfl rfl (by kernel_rfl) (by kernel_rfl) (by kernel_rfl) (fun _ _ _ h => h) (Or.inl ⟨by rfl, ?_⟩) hS ?_
                rotate_left 1
                · intro w' hSw
                  try dsimp only at hSw
                  obtain ⟨⟨p0, p1, p2, p3, p4, p5, p6, p7⟩, q0, q1, q2, q3, q4, q5, q6, q7⟩ := hSw
                  go_simp
                  all_goals with_reducible rfl
                try simp only [Act.put, List.setIfInBounds_toArray, List.set_cons_zero, List.set_cons_succ]
                refine held_take (i := 10) (v := ?_) 67 rfl rfl (by kernel_rfl) (by kernel_rfl) (by kernel_rfl) (fun _ _ _ h => h) (Or.inl ⟨by rfl, ?_⟩) hS ?_
                rotate_left 1
                · intro w' hSw
                  try dsimp only at hSw
                  obtain ⟨⟨p0, p1, p2, p3, p4, p5, p6, p7⟩, q0, q1, q2, q3, q4, q5, q6, q7⟩ := hSw
                  go_simp
                  all_goals with_reducible rfl
                try simp only [Act.put, List.setIfInBounds_toArray, List.set_cons_zero, List.set_cons_succ]
                refine held_take (i := 11) (v := ?_) 68 rfl rfl (by kernel_rfl) (by kernel_rfl) (by kernel_rfl) (fun _ _ _ h => h) (Or.inl ⟨by rfl, ?_⟩) hS ?_
                rotate_left 1
                · intro w' hSw
                  try dsimp only at hSw
                  obtain ⟨⟨p0, p1, p2, p3, p4, p5, p6, p7⟩, q0, q1, q2, q3, q4, q5, q6, q7⟩ := hSw
                  go_simp
                  all_goals with_reducible rfl
                try simp only [Act.put, List.setIfInBounds_toArray, List.set_cons_zero, List.set_cons_succ]
                refine held_one (i := 12) (by kernel_rfl) rfl rfl (fun K hK => ?_)
                go_simp
                have hgg := hb9.size
                have k9 := Blk.new X7 24 #[.int .i64 0, .int .i64 0]
                replace hb9 := hb9.alloc hb9.size (.cells #[.int .i64 0, .int .i64 0] 24)
                clear hS
                have hS := hSb.out _ hb9
                refine hK _ _ hS ?_
                clear hK K
                try simp only [Act.put, List.setIfInBounds_toArray, List.set_cons_zero, List.set_cons_succ]
                generalize X7.heap.size = g9 at *
                generalize X7.alloc (.cells #[.int .i64 0, .int .i64 0] 24) = X8 at *
                refine held_one (i := 13) (by kernel_rfl) rfl rfl (fun K hK => ?_)
                have kz := (k9.set_ 0 (.int .i64 G.lo)).set_ 1 (.int .i64 G.hi)
                simp only [List.setIfInBounds_toArray, List.set_cons_zero, List.set_cons_succ] at kz
                have bz := (hb9.setCell (p := ⟨g9, 0, none⟩) (by dsimp only; omega) (.int .i64 G.lo)).setCell (p := ⟨g9, 1, none⟩) (by dsimp only; omega) (.int .i64 G.hi)
                obtain ⟨X9, hwz⟩ : ∃ x, x = (X8.setCell ⟨g9, 0, none⟩ (.int .i64 G.lo)).setCell ⟨g9, 1, none⟩ (.int .i64 G.hi) := ⟨_, rfl⟩
                rw [← hwz] at kz bz
                obtain ⟨c9, f9, l9⟩ := k9.rules
                go_simp
                rw [← hwz]
                clear hwz c9 f9 l9 hS
                have hS := hSb.out _ bz
                refine hK _ _ hS ?_
                clear hK K
                try simp only [Act.put, List.setIfInBounds_toArray, List.set_cons_zero, List.set_cons_succ]
                refine held_take (i := 14) (v := ?_) 16 rfl rfl (by kernel_rfl) (by kernel_rfl) (by kernel_rfl) (fun _ _ _ h => h) (Or.inl ⟨by rfl, ?_⟩) hS ?_
                rotate_left 1
                · intro w' hSw
                  try dsimp only at hSw
                  obtain ⟨⟨p0, p1, p2, p3, p4, p5, p6, p7⟩, q0, q1, q2, q3, q4, q5, q6, q7⟩ := hSw
                  go_simp
                  all_goals with_reducible rfl
                try simp only [Act.put, List.setIfInBounds_toArray, List.set_cons_zero, List.set_cons_succ]
                refine wpAnyH_done (by kernel_rfl) (hrest (g9) _ ⟨kz, hgg, bz⟩) _
              · skip
                go_simp
                have hgg := hb9.size
                have k9 := Blk.new wd 24 #[.int .i64 0, .int .i64 0]
                replace hb9 := hb9.alloc hb9.size (.cells #[.int .i64 0, .int .i64 0] 24)
                clear hS
                have hS := hSb.out _ hb9
                refine hK _ _ hS ?_
                clear hK K
                try simp only [Act.put, List.setIfInBounds_toArray, List.set_cons_zero, List.set_cons_succ]
                generalize wd.heap.size = g9 at *
                generalize wd.alloc (.cells #[.int .i64 0, .int .i64 0] 24) = X10 at *
                refine held_one (i := 8) (by kernel_rfl) rfl rfl (fun K hK => ?_)
                go_simp
                refine (hgap _).mono ?_
                rintro e X11 ⟨rfl, hbel⟩
                replace hb9 := hb9.trans (hbel.mono hb9.size)
                try replace k9 := k9.below hbel
                clear hS hbel
                have hS := hSb.out _ hb9
                refine hK _ _ hS ?_
                clear hK K
                try simp only [Act.put, List.setIfInBounds_toArray, List.set_cons_zero, List.set_cons_succ]
                refine held_take (i := 9) (v := ?_) 57 rfl rfl (by kernel_rfl) (by kernel_rfl) (by kernel_rfl) (fun _ _ _ h => h) (Or.inl ⟨by rfl, ?_⟩) hS ?_
                rotate_left 1
                · intro w' hSw
                  try dsimp only at hSw
                  obtain ⟨⟨p0, p1, p2, p3, p4, p5, p6, p7⟩, q0, q1, q2, q3, q4, q5, q6, q7⟩ := hSw
                  go_simp
                  all_goals with_reducible rfl
                try simp only [Act.put, List.setIfInBounds_toArray, List.set_cons_zero, List.set_cons_succ]
                refine held_take (i := 10) (v := ?_) 67 rfl rfl (by kernel_rfl) (by kernel_rfl) (by kernel_rfl) (fun _ _ _ h => h) (Or.inl ⟨by rfl, ?_⟩) hS ?_
                rotate_left 1
                · intro w' hSw
                  try dsimp only at hSw
                  obtain ⟨⟨p0, p1, p2, p3, p4, p5, p6, p7⟩, q0, q1, q2, q3, q4, q5, q6, q7⟩ := hSw
                  go_simp
                  all_goals with_reducible rfl
                try simp only [Act.put, List.setIfInBounds_toArray, List.set_cons_zero, List.set_cons_succ]
                refine held_take (i := 11) (v := ?_) 68 rfl rfl (by kernel_rfl) (by kernel_rfl) (by kernel_rfl) (fun _ _ _ h => h) (Or.inl ⟨by rfl, ?_⟩) hS ?_
                rotate_left 1
                · intro w' hSw
                  try dsimp only at hSw
                  obtain ⟨⟨p0, p1, p2, p3, p4, p5, p6, p7⟩, q0, q1, q2, q3, q4, q5, q6, q7⟩ := hSw
                  go_simp
                  all_goals with_reducible rfl
                try simp only [Act.put, List.setIfInBounds_toArray, List.set_cons_zero, List.set_cons_succ]
                refine held_one (i := 13) (by kernel_rfl) rfl rfl (fun K hK => ?_)
                have kz := (k9.set_ 0 (.int .i64 G.lo)).set_ 1 (.int .i64 G.hi)
                simp only [List.setIfInBounds_toArray, List.set_cons_zero, List.set_cons_succ] at kz
                have bz := (hb9.setCell (p := ⟨g9, 0, none⟩) (by dsimp only; omega) (.int .i64 G.lo)).setCell (p := ⟨g9, 1, none⟩) (by dsimp only; omega) (.int .i64 G.hi)
                obtain ⟨X12, hwz⟩ : ∃ x, x = (X11.setCell ⟨g9, 0, none⟩ (.int .i64 G.lo)).setCell ⟨g9, 1, none⟩ (.int .i64 G.hi) := ⟨_, rfl⟩
                rw [← hwz] at kz bz
                obtain ⟨c9, f9, l9⟩ := k9.rules
                go_simp
                rw [← hwz]
                clear hwz c9 f9 l9 hS
                have hS := hSb.out _ bz
                refine hK _ _ hS ?_
                clear hK K
                try simp only [Act.put, List.setIfInBounds_toArray, List.set_cons_zero, List.set_cons_succ]
                refine held_take (i := 14) (v := ?_) 16 rfl rfl (by kernel_rfl) (by kernel_rfl) (by kernel_rfl) (fun _ _ _ h => h) (Or.inl ⟨by rfl, ?_⟩) hS ?_
                rotate_left 1
                · intro w' hSw
                  try dsimp only at hSw
                  obtain ⟨⟨p0, p1, p2, p3, p4, p5, p6, p7⟩, q0, q1, q2, q3, q4, q5, q6, q7⟩ := hSw
                  go_simp
                  all_goals with_reducible rfl
                try simp only [Act.put, List.setIfInBounds_toArray, List.set_cons_zero, List.set_cons_succ]
                refine wpAnyH_done (by kernel_rfl) (hrest (g9) _ ⟨kz, hgg, bz⟩) _
            · rintro g15 W4 ⟨k15, hg15, hb15⟩
              try simp only [Act.put, List.setIfInBounds_toArray, List.set_cons_zero, List.set_cons_succ]
              refine noPanic_normal ?_
              clear hS hSb hgap hb9
              replace k8 := k8.below hb15
              replace k11 := k11.below hb15
              replace hb10 := hb10.trans (hb15.mono hb10.size)
              clear hb15
              have k11z := (k11.set_ 0 (.int .i64 (min B.lo G.lo))).set_ 1 (.int .i64 (min B.hi G.hi))
              simp only [List.setIfInBounds_toArray, List.set_cons_zero, List.set_cons_succ] at k11z
              have k8z := (k8.far (p := ⟨g11, 0, none⟩) (by dsimp only; omega) (.int .i64 (min B.lo G.lo))).far (p := ⟨g11, 1, none⟩) (by dsimp only; omega) (.int .i64 (min B.hi G.hi))
              have bz := (hb10.setCell (p := ⟨g11, 0, none⟩) hg11 (.int .i64 (min B.lo G.lo))).setCell (p := ⟨g11, 1, none⟩) hg11 (.int .i64 (min B.hi G.hi))
              obtain ⟨c11, f11, l11⟩ := k11.rules
              obtain ⟨c15, f15, l15⟩ := k15.rules
              go_wp2_with fail
              go_roundw
              case rel => exact ⟨p + 1, by go_num, by omega, ⟨⟨min B.lo G.lo, min B.hi G.hi⟩, by rw [hnx.out]; rfl, k11z⟩, k8z, bz⟩
              case measure => simp [intOf]; omega
          · obtain rfl : p = d2.n := by omega
            replace hB := Lib.hid hB
            go_wp2_with fail
            go_roundw
            case rel => exact ⟨q + 1, by go_num, by omega, ⟨B, by rw [hstep.out, hl2.out]; exact hB.out, k11⟩, k8, hb10⟩
            case measure => simp [intOf]; omega
      · obtain rfl : q = d1.n := by omega
        rw [hfirst.out] at hB0
        obtain rfl : V = B0 := Option.some.inj hB0
        have b := hb.trans (hb10.mono hb.size)
        have kz := (k8.set_ 0 (.int .i64 V.lo)).set_ 1 (.int .i64 V.hi)
        simp only [List.setIfInBounds_toArray, List.set_cons_zero, List.set_cons_succ] at kz
        have bz := (b.setCell (p := ⟨w.heap.size, 0, none⟩) (Nat.le_refl _) (.int .i64 V.lo)).setCell (p := ⟨w.heap.size, 1, none⟩) (Nat.le_refl _) (.int .i64 V.hi)
        obtain ⟨wz, hwz⟩ : ∃ q, q = (wr.setCell ⟨w.heap.size, 0, none⟩ (.int .i64 V.lo)).setCell ⟨w.heap.size, 1, none⟩ (.int .i64 V.hi) := ⟨_, rfl⟩
        rw [← hwz] at kz bz
        obtain ⟨c8, f8, l8⟩ := k8.rules
        obtain ⟨c11, f11, l11⟩ := k11.rules
        go_wp2
        rw [← hwz]
        clear hwz c8 f8 l8 c11 f11 l11
        obtain ⟨c8, f8, l8⟩ := kz.rules
        exact bodyPost_ret (v := .agg #[.int .i64 V.lo, .int .i64 V.hi]) (by simp [results, Tryz.results100, go_sem, c8]) rfl ⟨rfl, bz⟩
end Go.Proofs.YtjiaepphnddpoaaGreat
