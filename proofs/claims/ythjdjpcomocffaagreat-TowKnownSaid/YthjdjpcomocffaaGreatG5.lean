/-
  The rows of a region, and the ends of its rows, as iterators.
  The ends of the rows of a region, as an iterator.
-/
import Derived.Test.YthjdjpcomocffaaGreatG1
import Derived.Test.YthjdjpcomocffaaGreatBase
namespace Go.Proofs.YthjdjpcomocffaaGreat
open Go.RowKit Go.Shelf
attribute [local go_sem] Oper.semAt_some

theorem max3_int (ats : Array TypeId) (ty : TypeId) (a b c : Int) : Builtin.max_ ats ty #[.int .i64 a, .int .i64 b, .int .i64 c] = pure (.int .i64 (max a (max b c))) := by
  simp only [Builtin.max_, Builtin.max2, List.foldlM_cons, List.foldlM_nil, pure_bind, bind_pure]
  congr 2
  repeat' split
  all_goals omega
theorem min3_int (ats : Array TypeId) (ty : TypeId) (a b c : Int) : Builtin.min_ ats ty #[.int .i64 a, .int .i64 b, .int .i64 c] = pure (.int .i64 (min a (min b c))) := by
  simp only [Builtin.min_, Builtin.min2, List.foldlM_cons, List.foldlM_nil, pure_bind, bind_pure]
  congr 2
  repeat' split
  all_goals omega
theorem rowsTo_succ (r : Reg) (j : Nat) : rowsTo r (j + 1) = rowsTo r j ++ (if (rowB r (r.x.lo + j)).fr ≤ (rowB r (r.x.lo + j)).to then [rowB r (r.x.lo + j)] else []) := rfl
theorem rowsTo_get {r : Reg} : ∀ {n j : Nat}, j ≤ n → ∀ (k : Nat) (q : RRow), (rowsTo r j)[k]? = some q → (rowsTo r n)[k]? = some q := by
  intro n
  induction n with
  | zero => intro j hj k q h; obtain rfl : j = 0 := by omega
            exact h
  | succ n ih =>
    intro j hj k q h
    rcases Nat.lt_or_eq_of_le hj with h1 | rfl
    · have := ih (show j ≤ n by omega) k q h
      rw [rowsTo_succ, List.getElem?_append_left (List.getElem?_eq_some_iff.1 this).1]
      exact this
    · exact h
/-- The four bounds, boxed. -/
def FourL (r : Reg) (gf : Nat) (W : World) : Prop := Blk W gf 134 (regA r)
def RowG (r : Reg) (k : Nat) (vs : Array Value) (_ : World) : Prop := ∃ q, (rowsL r)[k]? = some q ∧ vs = #[.agg #[.int .i64 q.x, .int .i64 q.fr, .int .i64 q.to]]
theorem RoundIn.anyn {n m : Nat} {P : Program} {l : Nat} {f : FuncId} {tmps : Array Value} {assign body : Code} {w : World} {R : Ending → World → Prop} (h : RoundIn Fence.wide n P l f tmps assign body w R) : RoundIn Fence.wide m P l f tmps assign body w R :=
  ⟨h.1, fun c cs _ => h.2 c cs (room_wide _)⟩
theorem RoundIn.anyl {n m lr : Nat} {P : Program} {l : Nat} {f : FuncId} {tmps : Array Value} {assign body : Code} {w : World} {R : Ending → World → Prop} (h : RoundIn Fence.wide n P l f tmps assign body w R) : RoundIn (Fence.wide.inRound lr) m P l f tmps assign body w R :=
  ⟨h.1, fun c cs _ => h.2 c cs (room_wide _)⟩
set_option maxRecDepth 100000 in
set_option maxHeartbeats 2000000 in
theorem rows1_iter (m : Nat) (r : Reg) (gf : Nat) (hr : midR r) :
    IterK Fence.wide m Tryz.prog 109 #[.pointer (some ⟨gf, 0, none⟩)] (rowsL r).length (RowG r) (FourL r gf) := by
  intro lr J Jx W hJ hJx hY hL h0
  have hmax := max3_int
  have hmin := min3_int
  obtain ⟨⟨x1, x2, x3, x4⟩, ⟨y1, y2, y3, y4⟩, ⟨s1, s2, s3, s4⟩, ⟨d1, d2, d3, d4⟩⟩ := hr
  refine callsIn_of_wp Tryz.func109 rfl trivial ?_ rfl
  simp only [Tryz.ntmps109, List.size_toArray, List.length_cons, List.length_nil, Nat.reduceAdd, Nat.reduceSub, Array.replicate_succ, Array.replicate_zero, List.push_toArray, List.append_toArray, List.nil_append, List.cons_append]
  have k1 : Blk W gf 134 (regA r) := hL
  simp only [regA] at k1
  obtain ⟨c1, f1, l1⟩ := k1.rules
  gi_wp2_with fail
  clear c1 f1 l1 k1
  gi_loopw [3] (fun i wr => ∃ j : Nat, i = .int .i64 (r.x.lo + j) ∧ j ≤ nX r ∧ FourL r gf wr ∧ W.heap.size ≤ wr.heap.size ∧ J (rowsTo r j).length wr) (fun i wr => (r.x.hi + 1 - intOf i).toNat)
  case atStart => exact ⟨0, by simp, Nat.zero_le _, hL, Nat.le_refl _, h0⟩
  case round =>
    obtain ⟨j, rfl, hj, hLr, hWr, hJr⟩ := hrel
    have k1 : Blk wr gf 134 (regA r) := hLr
    simp only [regA] at k1
    obtain ⟨c1, f1, l1⟩ := k1.rules
    have hjx : j < nX r ↔ r.x.lo + j ≤ r.x.hi := by unfold nX; omega
    replace hj := Lib.hid hj
    by_cases hlt : r.x.lo + j ≤ r.x.hi
    · have hj1 := Lib.hid (hjx.2 hlt)
      have hstep := Lib.hid (rowsTo_succ r j)
      have hlast := fun (h : (rowB r (r.x.lo + j)).fr ≤ (rowB r (r.x.lo + j)).to) => Lib.hid (show (rowsL r)[(rowsTo r j).length]? = some (rowB r (r.x.lo + j)) from
        rowsTo_get (show j + 1 ≤ nX r from hj1.out) _ _ (by rw [hstep.out, if_pos h]; simp))
      have e1 : Hid ((rowB r (r.x.lo + j)).fr = max r.y.lo (max (r.s.lo - (r.x.lo + j)) (r.x.lo + j - r.d.hi))) := rfl
      have e2 : Hid ((rowB r (r.x.lo + j)).to = min r.y.hi (min (r.s.hi - (r.x.lo + j)) (r.x.lo + j - r.d.lo))) := rfl
      have e3 : Hid ((rowB r (r.x.lo + j)).x = r.x.lo + j) := rfl
      have e1b : -3000000 ≤ (rowB r (r.x.lo + j)).fr ∧ (rowB r (r.x.lo + j)).fr ≤ 3000000 := by rw [e1.out]; omega
      clear hjx
      generalize rowB r (r.x.lo + j) = q at *
      generalize hx : r.x.lo + (j : Int) = x at *
      have hxb : -1000000 ≤ x ∧ x ≤ 1000000 := by omega
      have t1 := IntWalk.i64_in (r.s.lo - x) (by omega)
      have t2 := IntWalk.i64_in (x - r.d.hi) (by omega)
      have t3 := IntWalk.i64_in (r.s.hi - x) (by omega)
      have t4 := IntWalk.i64_in (x - r.d.lo) (by omega)
      have t5 := IntWalk.i64_in (x + 1) (by omega)
      replace hx := Lib.hid hx
      have e1r := e1.out.symm
      have e2r := e2.out.symm
      have ba : Below wr.heap.size wr (wr.alloc (.cells #[.int .i64 x, .int .i64 q.fr, .int .i64 q.to] 168)) := (Below.refl _ _).alloc (Nat.le_refl _) _
      have k4 := Blk.new wr 168 #[.int .i64 x, .int .i64 q.fr, .int .i64 q.to]
      have hLa : FourL r gf (wr.alloc (.cells #[.int .i64 x, .int .i64 q.fr, .int .i64 q.to] 168)) := k1.alloc _
      by_cases hq : q.fr ≤ q.to
      · replace hlast := hlast hq
        have hl2 : Hid ((rowsTo r (j + 1)).length = (rowsTo r j).length + 1) := by show _ = _; rw [hstep.out, if_pos hq]; simp
        have hlN : Hid ((rowsTo r j).length < (rowsL r).length) := (List.getElem?_eq_some_iff.1 hlast.out).1
        obtain ⟨fn, tmps, assign, body, hy, hR⟩ := hY (rowsTo r j).length #[.agg #[.int .i64 x, .int .i64 q.fr, .int .i64 q.to]] _ hlN.out (hJ _ _ _ hJr (calm_of_below ba hWr)) hLa ⟨q, hlast.out, by rw [e3.out]⟩
        clear hY
        replace hstep := Lib.hid hstep
        replace e1 := Lib.hid e1
        obtain ⟨c4, f4, l4⟩ := k4.rules
        gi_wp2_with fail
        refine ⟨fun h => (by cases h), hR.mono ?_⟩
        rintro e W3 (⟨rfl, hJ3, hL3, hn3⟩ | ⟨rfl, hJx3, -⟩)
        · gi_wp2
          go_roundw
          case rel =>
            refine ⟨j + 1, by rw [← hx.out]; congr 1; push_cast; omega, hj1.out, hL3, Nat.le_trans hWr (Nat.le_trans ba.size hn3.1), ?_⟩
            rw [hl2.out]; exact hJ3
          case measure => simp [intOf]; omega
        · gi_wp2
          refine bodyPost_ret (results_none rfl _ _ _) rfl ?_
          exact ⟨⟨_, rfl⟩, .inr hJx3⟩
      · have hl2 : Hid (rowsTo r (j + 1) = rowsTo r j) := by show _ = _; rw [hstep.out, if_neg hq]; simp
        obtain ⟨c4, f4, l4⟩ := k4.rules
        gi_wp2_with fail
        refine ⟨fun _ h => (by cases h), ?_⟩
        gi_wp2
        go_roundw
        case rel =>
          refine ⟨j + 1, by rw [← hx.out]; congr 1; push_cast; omega, hj1.out, hLa, Nat.le_trans hWr ba.size, ?_⟩
          rw [hl2.out]; exact hJ _ _ _ hJr (calm_of_below ba hWr)
        case measure => simp [intOf]; omega
    · obtain rfl : j = nX r := by have := hj.out; have : ¬ j < nX r := fun h => hlt (hjx.1 h); omega
      gi_wp2
      go_end0
      exact ⟨⟨_, rfl⟩, .inl hJr⟩
theorem eg_rows1 : Enters Tryz.prog 109 := enters_of Tryz.func109 (by kernel_rfl) rfl
set_option maxRecDepth 100000 in
set_option maxHeartbeats 1000000 in
theorem rows_any (r : Reg) (w : World) :
    Calls Tryz.prog 101 #[.agg (regA r)] w fun e w' =>
      e = .returned (.func (.func 109) #[] #[.pointer (some ⟨w.heap.size, 0, none⟩)]) ∧ w' = w.alloc (.cells (regA r) 134) := by
  simp only [regA]
  go_enter Tryz.func101, Tryz.ntmps101
  go_wp2
  go_ret
  exact ⟨rfl, rfl⟩
end Go.Proofs.YthjdjpcomocffaaGreat
namespace Go.Proofs.YthjdjpcomocffaaGreat
open Go.RowKit Go.Shelf
attribute [local go_sem] Oper.semAt_some

def ptsTo (r : Reg) (i : Nat) : List Pnt := ((rowsL r).take i).flatMap rowPts
theorem ptsTo_succ {r : Reg} {i : Nat} {q : RRow} (h : (rowsL r)[i]? = some q) : ptsTo r (i + 1) = ptsTo r i ++ rowPts q := by
  unfold ptsTo
  rw [List.take_add_one, h]
  simp
theorem ptsTo_all (r : Reg) : ptsTo r (rowsL r).length = ptsL r := by unfold ptsTo ptsL; rw [List.take_length]
theorem ptsTo_get {r : Reg} {i k : Nat} {p : Pnt} (h : (ptsTo r i)[k]? = some p) : (ptsL r)[k]? = some p := by
  have e : ptsL r = ptsTo r i ++ ((rowsL r).drop i).flatMap rowPts := by
    unfold ptsTo ptsL
    rw [← List.flatMap_append, List.take_append_drop]
  rw [e, List.getElem?_append_left (List.getElem?_eq_some_iff.1 h).1]
  exact h
def PntG (r : Reg) (k : Nat) (vs : Array Value) (_ : World) : Prop := ∃ p, (ptsL r)[k]? = some p ∧ vs = #[.agg #[.int .i64 p.x, .int .i64 p.y]]
theorem nc_four {B gf : Nat} {r : Reg} {W W' : World} (h : NC B W W') (k : FourL r gf W) (hg : B ≤ gf) : FourL r gf W' := nc_blk h k hg
set_option maxRecDepth 100000 in
set_option maxHeartbeats 2000000 in
theorem ends1_iter (m : Nat) (r : Reg) (gf : Nat) (hm1 : 1 ≤ m) (hr : midR r) :
    IterK Fence.wide m Tryz.prog 100 #[.pointer (some ⟨gf, 0, none⟩)] (ptsL r).length (PntG r) (FourL r gf) := by
  intro lr J Jx W hJ hJx hY hL h0
  refine callsIn_of_wp_marks Tryz.func100 rfl trivial ?_ rfl
  simp only [Tryz.ntmps100, List.size_toArray, List.length_cons, List.length_nil, Nat.reduceAdd, Nat.reduceSub, Array.replicate_succ, Array.replicate_zero, List.push_toArray, List.append_toArray, List.nil_append, List.cons_append]
  have k1 : Blk W gf 134 (regA r) := hL
  have k1a := k1.alloc (.cells #[.func (.yield lr) #[] #[]] 164)
  simp only [regA] at k1a
  obtain ⟨c1, f1, l1⟩ := k1a.rules
  have hst : ∀ (a : Addr) (fn : Fn) (b c : Array Value) (m : Mode) (w : World), (store a (.func fn b c) m).run Tryz.prog w = stored Tryz.prog w a (.func fn b c) m := fun _ _ _ _ _ _ => run_store _ _ _ _ _ rfl
  gi_wp2_with fail
  refine ⟨trivial, ?_⟩
  refine (callsIn_wide.2 (rows_any r _)).mono ?_
  rintro e w1 ⟨rfl, rfl⟩
  clear c1 f1 l1
  gi_wp2_with fail
  obtain ⟨W0, hW0⟩ : ∃ W0, W0 = (W.alloc (.cells #[.func (.yield lr) #[] #[]] 164)).alloc (.cells (regA r) 134) := ⟨_, rfl⟩
  rw [← hW0]
  have hL0 : FourL r (W.heap.size + 1) W0 := by rw [hW0]; exact Blk.newAt (by simp)
  have k2 : Blk W0 W.heap.size 164 #[.func (.yield lr) #[] #[]] := by rw [hW0]; exact (Blk.new _ _ _).alloc _
  have bW : Below W.heap.size W W0 := by rw [hW0]; exact ((Below.refl _ _).alloc (Nat.le_refl _) _).alloc (by simp) _
  have hsz : W0.heap.size = W.heap.size + 2 := by rw [hW0]; simp
  have cW : Calm W.heap.size W W0 := calm_of_below bW (Nat.le_refl _)
  clear hW0
  refine wp_range rfl hm1 (gf := 109) (lb := #[.pointer (some ⟨W.heap.size + 1, 0, none⟩)]) rfl trivial eg_rows1
    (rows1_iter _ r _ hr) (fun k vs W ⟨q, _, e⟩ => by rw [e]; rfl)
    (fun i A => Blk A W.heap.size 164 #[.func (.yield lr) #[] #[]] ∧ J (ptsTo r i).length A ∧ FourL r gf A)
    (fun c A => c = .ret ∧ Jx A) (fun k A B h hc => ⟨calm_blk hc h.1, hJ _ _ _ h.2.1 (hc.mono (by omega)), calm_blk hc h.2.2⟩) (fun _ A B h hc => ⟨h.1, hJx _ _ h.2 (hc.mono (by omega))⟩) (fun A B h hc => calm_blk hc h)
    ⟨k2, hJ _ _ _ h0 cW, calm_blk cW hL⟩ hL0 ?round ?done ?stop
  case stop =>
    rintro D c W3 hD ⟨rfl, hj⟩ hK
    gi_wp2_with fail
    exact ⟨by simp, .inl ⟨_, _, rfl, run_takeDeferred hK, _, results_none rfl _ _ _, ⟨_, rfl⟩, .inr (hJx _ _ hj (calm_put _ hK rfl (by omega)))⟩⟩
  case done =>
    rintro D W3 hD ⟨-, hj, -⟩ hK
    rw [ptsTo_all] at hj
    gi_wp2_with fail
    exact ⟨by simp, .inl ⟨_, _, rfl, run_takeDeferred hK, _, results_none rfl _ _ _, ⟨_, rfl⟩, .inl (hJ _ _ _ hj (calm_put _ hK rfl (by omega)))⟩⟩
  case round =>
    rintro l i vs W3 hW hi ⟨k2, hj, hLo⟩ hLi ⟨q, hq, rfl⟩
    gi_wp2_with fail
    refine ⟨(Below.refl _ _).alloc (Nat.le_refl _) _, fun W2 hc => ?_⟩
    have hc3 : Calm W0.heap.size W3 W2 := (calm_of_below ((Below.refl _ _).alloc (Nat.le_refl _) _) hW).trans hc
    have k3 : Blk W2 W3.heap.size 168 #[.int .i64 q.x, .int .i64 q.fr, .int .i64 q.to] := calm_blk hc (Blk.new _ _ _)
    replace k2 := calm_blk hc3 k2
    replace hLo : FourL r gf W2 := calm_blk hc3 hLo
    replace hLi : FourL r (W.heap.size + 1) W2 := calm_blk hc3 hLi
    replace hj := hJ _ _ _ hj (hc3.mono (by omega))
    have hs3 : W3.heap.size < W2.heap.size := by have := hc.1.size; simp at this; omega
    have hJ' := hJ
    clear hc hc3 hJ hJx cW bW h0 hL hL0 k1 k1a
    gi_wp2_with fail
    refine wpIn_held_round (fun w' => ∀ j, w'.cell? ⟨W3.heap.size, j, none⟩ = #[Value.int .i64 q.x, .int .i64 q.fr, .int .i64 q.to][j]?) (by kernel_rfl) (by kernel_rfl) (by rintro ⟨_, _, h⟩; exact h) ?_
    have hS : (fun w' : World => ∀ j, w'.cell? ⟨W3.heap.size, j, none⟩ = #[Value.int .i64 q.x, .int .i64 q.fr, .int .i64 q.to][j]?) W2.drew := k3.cell
    refine held_take (i := 0) (v := ?_) 9 rfl rfl (by kernel_rfl) (by kernel_rfl) (by kernel_rfl) (fun _ _ _ h => h) (Or.inl ⟨by rfl, ?_⟩) hS ?_
    rotate_left 1
    · intro w' hSw
      try dsimp only at hSw
      go_simp
      all_goals with_reducible rfl
    try simp only [Act.put, List.setIfInBounds_toArray, List.set_cons_zero, List.set_cons_succ]
    refine held_take (i := 1) (v := ?_) 10 rfl rfl (by kernel_rfl) (by kernel_rfl) (by kernel_rfl) (fun _ _ _ h => h) (Or.inl ⟨by rfl, ?_⟩) hS ?_
    rotate_left 1
    · intro w' hSw
      try dsimp only at hSw
      go_simp
      all_goals with_reducible rfl
    try simp only [Act.put, List.setIfInBounds_toArray, List.set_cons_zero, List.set_cons_succ]
    refine held_take (i := 2) (v := ?_) 11 rfl rfl (by kernel_rfl) (by kernel_rfl) (by kernel_rfl) (fun _ _ _ h => h) (Or.inl ⟨by rfl, ?_⟩) hS ?_
    rotate_left 1
    · intro w' hSw
      try dsimp only at hSw
      go_simp
      all_goals with_reducible rfl
    try simp only [Act.put, List.setIfInBounds_toArray, List.set_cons_zero, List.set_cons_succ]
    refine held_take (i := 3) (v := ?_) 12 rfl rfl (by kernel_rfl) (by kernel_rfl) (by kernel_rfl) (fun _ _ _ h => h) (Or.inl ⟨by rfl, ?_⟩) hS ?_
    rotate_left 1
    · intro w' hSw
      try dsimp only at hSw
      go_simp
      all_goals with_reducible rfl
    try simp only [Act.put, List.setIfInBounds_toArray, List.set_cons_zero, List.set_cons_succ]
    refine held_take (i := 4) (v := ?_) 13 rfl rfl (by kernel_rfl) (by kernel_rfl) (by kernel_rfl) (fun _ _ _ h => h) (Or.inl ⟨by rfl, ?_⟩) hS ?_
    rotate_left 1
    · intro w' hSw
      try dsimp only at hSw
      go_simp
      all_goals with_reducible rfl
    try simp only [Act.put, List.setIfInBounds_toArray, List.set_cons_zero, List.set_cons_succ]
    refine held_take (i := 5) (v := ?_) 14 rfl rfl (by kernel_rfl) (by kernel_rfl) (by kernel_rfl) (fun _ _ _ h => h) (Or.inl ⟨by rfl, ?_⟩) hS ?_
    rotate_left 1
    · intro w' hSw
      try dsimp only at hSw
      go_simp
      all_goals with_reducible rfl
    try simp only [Act.put, List.setIfInBounds_toArray, List.set_cons_zero, List.set_cons_succ]
    refine held_take (i := 6) (v := ?_) 15 rfl rfl (by kernel_rfl) (by kernel_rfl) (by kernel_rfl) (fun _ _ _ h => h) (Or.inl ⟨by rfl, ?_⟩) hS ?_
    rotate_left 1
    · intro w' hSw
      try dsimp only at hSw
      go_simp
      all_goals with_reducible rfl
    try simp only [Act.put, List.setIfInBounds_toArray, List.set_cons_zero, List.set_cons_succ]
    refine held_take (i := 7) (v := ?_) 16 rfl rfl (by kernel_rfl) (by kernel_rfl) (by kernel_rfl) (fun _ _ _ h => h) (Or.inl ⟨by rfl, ?_⟩) hS ?_
    rotate_left 1
    · intro w' hSw
      try dsimp only at hSw
      go_simp
      all_goals with_reducible rfl
    try simp only [Act.put, List.setIfInBounds_toArray, List.set_cons_zero, List.set_cons_succ]
    refine held_take (i := 8) (v := ?_) 17 rfl rfl (by kernel_rfl) (by kernel_rfl) (by kernel_rfl) (fun _ _ _ h => h) (Or.inl ⟨by rfl, ?_⟩) hS ?_
    rotate_left 1
    · intro w' hSw
      try dsimp only at hSw
      go_simp
      all_goals with_reducible rfl
    try simp only [Act.put, List.setIfInBounds_toArray, List.set_cons_zero, List.set_cons_succ]
    refine held_take (i := 9) (v := ?_) 18 rfl rfl (by kernel_rfl) (by kernel_rfl) (by kernel_rfl) (fun _ _ _ h => h) (Or.inl ⟨by rfl, ?_⟩) hS ?_
    rotate_left 1
    · intro w' hSw
      try dsimp only at hSw
      go_simp
      all_goals with_reducible rfl
    try simp only [Act.put, List.setIfInBounds_toArray, List.set_cons_zero, List.set_cons_succ]
    refine wpAnyH_two 4 5 (fun g4 g5 W5 => Blk W5 g4 65 #[.int .i64 q.x, .int .i64 q.fr] ∧ Blk W5 g5 65 #[.int .i64 q.x, .int .i64 q.to] ∧ W2.heap.size ≤ g4 ∧ W2.heap.size ≤ g5 ∧ Below W2.heap.size W2 W5) ?_ (fun hrest => ?_)
    · rintro g4 g5 W5 ⟨k4, k5, hg4, hg5, hb5⟩
      try simp only [Act.put, List.setIfInBounds_toArray, List.set_cons_zero, List.set_cons_succ]
      clear hS
      replace hLo : FourL r gf W5 := Blk.below hLo hb5
      replace hLi : FourL r (W.heap.size + 1) W5 := Blk.below hLi hb5
      replace hj := hJ' _ _ _ hj (calm_of_below hb5 (by omega))
      replace k2 := k2.below hb5
      have hnb := nc_of_below (B := W0.heap.size) hb5
      have hpt := Lib.hid (ptsTo_succ hq)
      have hlow : (ptsL r)[(ptsTo r i).length]? = some ⟨q.x, q.fr⟩ := ptsTo_get (i := i + 1) (by rw [hpt.out, List.getElem?_append_right (Nat.le_refl _), Nat.sub_self]; unfold rowPts; split <;> rfl)
      obtain ⟨fn, tmps, assign, body, hy, hR⟩ := hY (ptsTo r i).length #[.agg #[.int .i64 q.x, .int .i64 q.fr]] W5 (List.getElem?_eq_some_iff.1 hlow).1 hj hLo ⟨_, hlow, rfl⟩
      replace hlow := Lib.hid hlow
      obtain ⟨c2, f2, l2⟩ := k2.rules
      obtain ⟨c4, f4, l4⟩ := k4.rules
      gi_wp2_with fail
      refine ⟨fun h => (by cases h), (RoundIn.anyl hR).mono ?_⟩
      clear hR hy c2 f2 l2 c4 f4 l4
      rintro e W6 (⟨rfl, hj6, hLo6, hn6⟩ | ⟨rfl, hJx6, hn6⟩)
      · replace k2 := nc_blk hn6 k2 (Nat.le_refl _)
        replace k4 := nc_blk hn6 k4 (by omega)
        replace k5 := nc_blk hn6 k5 (by omega)
        replace hLi := nc_four hn6 hLi (by omega)
        obtain ⟨c2, f2, l2⟩ := k2.rules
        obtain ⟨c4, f4, l4⟩ := k4.rules
        obtain ⟨c5, f5, l5⟩ := k5.rules
        by_cases hft : q.fr = q.to
        · have hl1 : Hid ((ptsTo r (i + 1)).length = (ptsTo r i).length + 1) := by show _ = _; rw [hpt.out]; unfold rowPts; rw [if_pos hft]; simp
          gi_wp2_with fail
          all_goals
            refine ⟨fun _ h => (by cases h), ?_⟩
            gi_wp2_with fail
            exact ⟨hnb.trans (hn6.mono (by omega)), ⟨k2, by rw [hl1.out]; exact hj6, hLo6⟩, hLi⟩
        · have hl1 : Hid ((ptsTo r (i + 1)).length = (ptsTo r i).length + 1 + 1) := by show _ = _; rw [hpt.out]; unfold rowPts; rw [if_neg hft]; simp
          have hhigh : (ptsL r)[(ptsTo r i).length + 1]? = some ⟨q.x, q.to⟩ := ptsTo_get (i := i + 1) (by rw [hpt.out, List.getElem?_append_right (by omega), Nat.add_sub_cancel_left]; unfold rowPts; rw [if_neg hft]; rfl)
          obtain ⟨fn2, tmps2, assign2, body2, hy2, hR2⟩ := hY ((ptsTo r i).length + 1) #[.agg #[.int .i64 q.x, .int .i64 q.to]] W6 (List.getElem?_eq_some_iff.1 hhigh).1 hj6 hLo6 ⟨_, hhigh, rfl⟩
          replace hhigh := Lib.hid hhigh
          gi_wp2_with fail
          refine ⟨fun h => (by cases h), (RoundIn.anyl hR2).mono ?_⟩
          clear hR2 hy2 c2 f2 l2 c4 f4 l4 c5 f5 l5
          rintro e W7 (⟨rfl, hj7, hLo7, hn7⟩ | ⟨rfl, hJx7, hn7⟩)
          · gi_wp2_with fail
            exact ⟨(hnb.trans (hn6.mono (by omega))).trans (hn7.mono (by omega)), ⟨nc_blk hn7 k2 (Nat.le_refl _), by rw [hl1.out]; exact hj7, hLo7⟩, nc_four hn7 hLi (by omega)⟩
          · gi_wp2_with fail
            exact ⟨(hnb.trans (hn6.mono (by omega))).trans (hn7.mono (by omega)), rfl, hJx7⟩
      · gi_wp2_with fail
        all_goals first
          | (refine ⟨fun _ _ => trivial, ?_⟩
             gi_wp2_with fail
             exact ⟨hnb.trans (hn6.mono (by omega)), rfl, hJx6⟩)
          | (exact absurd ‹some undef = some (Value.bool _)› (by simp [undef]))
    · try simp only [Act.put, List.setIfInBounds_toArray, List.set_cons_zero, List.set_cons_succ] at hrest
      refine held_two (i := 10) (j := 11) (by kernel_rfl) rfl rfl rfl rfl (fun K hK => ?_) (fun K hK => ?_)
      · go_simp
        refine hK _ _ (fun j => (World.cell?_alloc_lt _ _ _ hs3).trans (k3.cell j)) ?_
        clear hK K
        refine held_one (i := 11) (by kernel_rfl) rfl rfl (fun K hK => ?_)
        go_simp
        refine hK _ _ (fun j => (World.cell?_alloc_lt _ _ _ (by simp; omega)).trans ((World.cell?_alloc_lt _ _ _ hs3).trans (k3.cell j))) ?_
        clear hK K
        refine held_one (i := 12) (by kernel_rfl) rfl rfl (fun K hK => ?_)
        go_simp
        refine hK _ _ (fun j => (World.cell?_alloc_lt _ _ _ (by simp; omega)).trans ((World.cell?_alloc_lt _ _ _ hs3).trans (k3.cell j))) ?_
        clear hK K
        refine held_one (i := 13) (by kernel_rfl) rfl rfl (fun K hK => ?_)
        go_simp
        refine hK _ _ (fun j => (World.cell?_alloc_lt _ _ _ (by simp; omega)).trans ((World.cell?_alloc_lt _ _ _ hs3).trans (k3.cell j))) ?_
        clear hK K
        refine wpAnyH_done (by kernel_rfl) (hrest W2.heap.size (W2.heap.size + 1) _ ?_) _
        exact ⟨(Blk.new _ _ _).alloc _, Blk.newAt (by simp), by omega, by omega, (((Below.refl _ _).alloc (Nat.le_refl _) _).alloc (by simp) _).drew⟩
      · go_simp
        refine hK _ _ (fun j => (World.cell?_alloc_lt _ _ _ hs3).trans (k3.cell j)) ?_
        clear hK K
        refine held_one (i := 10) (by kernel_rfl) rfl rfl (fun K hK => ?_)
        go_simp
        refine hK _ _ (fun j => (World.cell?_alloc_lt _ _ _ (by simp; omega)).trans ((World.cell?_alloc_lt _ _ _ hs3).trans (k3.cell j))) ?_
        clear hK K
        refine held_one (i := 12) (by kernel_rfl) rfl rfl (fun K hK => ?_)
        go_simp
        refine hK _ _ (fun j => (World.cell?_alloc_lt _ _ _ (by simp; omega)).trans ((World.cell?_alloc_lt _ _ _ hs3).trans (k3.cell j))) ?_
        clear hK K
        refine held_one (i := 13) (by kernel_rfl) rfl rfl (fun K hK => ?_)
        go_simp
        refine hK _ _ (fun j => (World.cell?_alloc_lt _ _ _ (by simp; omega)).trans ((World.cell?_alloc_lt _ _ _ hs3).trans (k3.cell j))) ?_
        clear hK K
        refine wpAnyH_done (by kernel_rfl) (hrest (W2.heap.size + 1) W2.heap.size _ ?_) _
        exact ⟨Blk.newAt (by simp), (Blk.new _ _ _).alloc _, by omega, by omega, (((Below.refl _ _).alloc (Nat.le_refl _) _).alloc (by simp) _).drew⟩
theorem eg_ends1 : Enters Tryz.prog 100 := enters_of Tryz.func100 (by kernel_rfl) rfl
set_option maxRecDepth 100000 in
set_option maxHeartbeats 1000000 in
theorem ends_any (r : Reg) (w : World) :
    Calls Tryz.prog 93 #[.agg (regA r)] w fun e w' =>
      e = .returned (.func (.func 100) #[] #[.pointer (some ⟨w.heap.size, 0, none⟩)]) ∧ w' = w.alloc (.cells (regA r) 134) := by
  simp only [regA]
  go_enter Tryz.func93, Tryz.ntmps93
  go_wp2
  go_ret
  exact ⟨rfl, rfl⟩
end Go.Proofs.YthjdjpcomocffaaGreat
