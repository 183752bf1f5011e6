/-
  The rows of a region, and the ends of its rows, as iterators.
-/
import Derived.Test.YtjiaepphnddpoaaGreatG3
import Derived.Test.YtjiaepphnddpoaaGreatRound
namespace Go.Proofs.YtjiaepphnddpoaaGreat
open Go.RowKit Go.Shelf
attribute [local go_sem] Oper.semAt_some

theorem max3_int (ats : Array TypeId) (ty : TypeId) (a b c : Int) : Builtin.max_ ats ty #[.int .i64 a, .int .i64 b, .int .i64 c] = pure (.int .i64 (max a (max b c))) := by
  simp only [Builtin.max_, Builtin.max2, List.foldlM_cons, List.foldlM_nil, pure_bind, bind_pure]
  congr 2
  repeat' split
  all_goals omega
theorem min3_int (ats : Array TypeId) (ty : TypeId) (a b c : Int) : Builtin.min_ ats ty #[.int .i64 a, .int .i64 b, .int .i64 c] = pure (.int .i64 (min a (min b c))) := by
  simp only [Builtin.min_, Builtin.min2, List.foldlM_cons, List.foldlM_nil, pure_bind, bind_pure]
  congr 2
  repeat' split
  all_goals omega
theorem rowsTo_succ (r : Reg) (j : Nat) : rowsTo r (j + 1) = rowsTo r j ++ (if (rowB r (r.x.lo + j)).fr ≤ (rowB r (r.x.lo + j)).to then [rowB r (r.x.lo + j)] else []) := rfl
theorem rowsTo_get {r : Reg} : ∀ {n j : Nat}, j ≤ n → ∀ (k : Nat) (q : RRow), (rowsTo r j)[k]? = some q → (rowsTo r n)[k]? = some q := by
  intro n
  induction n with
  | zero => intro j hj k q h; obtain rfl : j = 0 := by omega
            exact h
  | succ n ih =>
    intro j hj k q h
    rcases Nat.lt_or_eq_of_le hj with h1 | rfl
    · have := ih (show j ≤ n by omega) k q h
      rw [rowsTo_succ, List.getElem?_append_left (List.getElem?_eq_some_iff.1 this).1]
      exact this
    · exact h
/-- The four bounds, boxed. -/
def FourL (r : Reg) (gf : Nat) (W : World) : Prop := Blk W gf 171 (regA r)
def RowG (r : Reg) (k : Nat) (vs : Array Value) (_ : World) : Prop := ∃ q, (rowsL r)[k]? = some q ∧ vs = #[.agg #[.int .i64 q.x, .int .i64 q.fr, .int .i64 q.to]]
theorem RoundIn.anyn {n m : Nat} {P : Program} {l : Nat} {f : FuncId} {tmps : Array Value} {assign body : Code} {w : World} {R : Ending → World → Prop} (h : RoundIn Fence.wide n P l f tmps assign body w R) : RoundIn Fence.wide m P l f tmps assign body w R :=
  ⟨h.1, fun c cs _ => h.2 c cs (room_wide _)⟩
theorem RoundIn.anyl {n m lr : Nat} {P : Program} {l : Nat} {f : FuncId} {tmps : Array Value} {assign body : Code} {w : World} {R : Ending → World → Prop} (h : RoundIn Fence.wide n P l f tmps assign body w R) : RoundIn (Fence.wide.inRound lr) m P l f tmps assign body w R :=
  ⟨h.1, fun c cs _ => h.2 c cs (room_wide _)⟩
set_option maxRecDepth 100000 in
set_option maxHeartbeats 2000000 in
theorem rows1_iter (m : Nat) (r : Reg) (gf : Nat) (hr : midR r) :
    IterK Fence.wide m Tryz.prog 191 #[.pointer (some ⟨gf, 0, none⟩)] (rowsL r).length (RowG r) (FourL r gf) := by
  intro lr J Jx W hJ hJx hY hL h0
  have hmax := max3_int
  have hmin := min3_int
  obtain ⟨⟨x1, x2, x3, x4⟩, ⟨y1, y2, y3, y4⟩, ⟨s1, s2, s3, s4⟩, ⟨d1, d2, d3, d4⟩⟩ := hr
  refine callsIn_of_wp Tryz.func191 rfl trivial ?_ rfl
  simp only [Tryz.ntmps191, List.size_toArray, List.length_cons, List.length_nil, Nat.reduceAdd, Nat.reduceSub, Array.replicate_succ, Array.replicate_zero, List.push_toArray, List.append_toArray, List.nil_append, List.cons_append]
  have k1 : Blk W gf 171 (regA r) := hL
  simp only [regA] at k1
  obtain ⟨c1, f1, l1⟩ := k1.rules
  gi_wp2_with fail
  clear c1 f1 l1 k1
  gi_loopw [3] (fun i wr => ∃ j : Nat, i = .int .i64 (r.x.lo + j) ∧ j ≤ nX r ∧ FourL r gf wr ∧ W.heap.size ≤ wr.heap.size ∧ J (rowsTo r j).length wr) (fun i wr => (r.x.hi + 1 - intOf i).toNat)
  case atStart => exact ⟨0, by simp, Nat.zero_le _, hL, Nat.le_refl _, h0⟩
  case round =>
    obtain ⟨j, rfl, hj, hLr, hWr, hJr⟩ := hrel
    have k1 : Blk wr gf 171 (regA r) := hLr
    simp only [regA] at k1
    obtain ⟨c1, f1, l1⟩ := k1.rules
    have hjx : j < nX r ↔ r.x.lo + j ≤ r.x.hi := by unfold nX; omega
    replace hj := Lib.hid hj
    by_cases hlt : r.x.lo + j ≤ r.x.hi
    · have hj1 := Lib.hid (hjx.2 hlt)
      have hstep := Lib.hid (rowsTo_succ r j)
      have hlast := fun (h : (rowB r (r.x.lo + j)).fr ≤ (rowB r (r.x.lo + j)).to) => Lib.hid (show (rowsL r)[(rowsTo r j).length]? = some (rowB r (r.x.lo + j)) from
        rowsTo_get (show j + 1 ≤ nX r from hj1.out) _ _ (by rw [hstep.out, if_pos h]; simp))
      have e1 : Hid ((rowB r (r.x.lo + j)).fr = max r.y.lo (max (r.s.lo - (r.x.lo + j)) (r.x.lo + j - r.d.hi))) := rfl
      have e2 : Hid ((rowB r (r.x.lo + j)).to = min r.y.hi (min (r.s.hi - (r.x.lo + j)) (r.x.lo + j - r.d.lo))) := rfl
      have e3 : Hid ((rowB r (r.x.lo + j)).x = r.x.lo + j) := rfl
      have e1b : -3000000 ≤ (rowB r (r.x.lo + j)).fr ∧ (rowB r (r.x.lo + j)).fr ≤ 3000000 := by rw [e1.out]; omega
      clear hjx
      generalize rowB r (r.x.lo + j) = q at *
      generalize hx : r.x.lo + (j : Int) = x at *
      have hxb : -1000000 ≤ x ∧ x ≤ 1000000 := by omega
      have t1 := IntWalk.i64_in (r.s.lo - x) (by omega)
      have t2 := IntWalk.i64_in (x - r.d.hi) (by omega)
      have t3 := IntWalk.i64_in (r.s.hi - x) (by omega)
      have t4 := IntWalk.i64_in (x - r.d.lo) (by omega)
      have t5 := IntWalk.i64_in (x + 1) (by omega)
      replace hx := Lib.hid hx
      have e1r := e1.out.symm
      have e2r := e2.out.symm
      have ba : Below wr.heap.size wr (wr.alloc (.cells #[.int .i64 x, .int .i64 q.fr, .int .i64 q.to] 233)) := (Below.refl _ _).alloc (Nat.le_refl _) _
      have k4 := Blk.new wr 233 #[.int .i64 x, .int .i64 q.fr, .int .i64 q.to]
      have hLa : FourL r gf (wr.alloc (.cells #[.int .i64 x, .int .i64 q.fr, .int .i64 q.to] 233)) := k1.alloc _
      by_cases hq : q.fr ≤ q.to
      · replace hlast := hlast hq
        have hl2 : Hid ((rowsTo r (j + 1)).length = (rowsTo r j).length + 1) := by show _ = _; rw [hstep.out, if_pos hq]; simp
        have hlN : Hid ((rowsTo r j).length < (rowsL r).length) := (List.getElem?_eq_some_iff.1 hlast.out).1
        obtain ⟨fn, tmps, assign, body, hy, hR⟩ := hY (rowsTo r j).length #[.agg #[.int .i64 x, .int .i64 q.fr, .int .i64 q.to]] _ hlN.out (hJ _ _ _ hJr (calm_of_below ba hWr)) hLa ⟨q, hlast.out, by rw [e3.out]⟩
        clear hY
        replace hstep := Lib.hid hstep
        replace e1 := Lib.hid e1
        obtain ⟨c4, f4, l4⟩ := k4.rules
        gi_wp2_with fail
        refine ⟨fun h => (by cases h), hR.mono ?_⟩
        rintro e W3 (⟨rfl, hJ3, hL3, hn3⟩ | ⟨rfl, hJx3, -⟩)
        · gi_wp2
          go_roundw
          case rel =>
            refine ⟨j + 1, by rw [← hx.out]; congr 1; push_cast; omega, hj1.out, hL3, Nat.le_trans hWr (Nat.le_trans ba.size hn3.1), ?_⟩
            rw [hl2.out]; exact hJ3
          case measure => simp [intOf]; omega
        · gi_wp2
          refine bodyPost_ret (results_none rfl _ _ _) rfl ?_
          exact ⟨⟨_, rfl⟩, .inr hJx3⟩
      · have hl2 : Hid (rowsTo r (j + 1) = rowsTo r j) := by show _ = _; rw [hstep.out, if_neg hq]; simp
        obtain ⟨c4, f4, l4⟩ := k4.rules
        gi_wp2_with fail
        refine ⟨fun _ h => (by cases h), ?_⟩
        gi_wp2
        go_roundw
        case rel =>
          refine ⟨j + 1, by rw [← hx.out]; congr 1; push_cast; omega, hj1.out, hLa, Nat.le_trans hWr ba.size, ?_⟩
          rw [hl2.out]; exact hJ _ _ _ hJr (calm_of_below ba hWr)
        case measure => simp [intOf]; omega
    · obtain rfl : j = nX r := by have := hj.out; have : ¬ j < nX r := fun h => hlt (hjx.1 h); omega
      gi_wp2
      go_end0
      exact ⟨⟨_, rfl⟩, .inl hJr⟩
theorem eg_rows1 : Enters Tryz.prog 191 := enters_of Tryz.func191 (by kernel_rfl) rfl
set_option maxRecDepth 100000 in
set_option maxHeartbeats 1000000 in
theorem rows_any (r : Reg) (w : World) :
    Calls Tryz.prog 179 #[.agg (regA r)] w fun e w' =>
      e = .returned (.func (.func 191) #[] #[.pointer (some ⟨w.heap.size, 0, none⟩)]) ∧ w' = w.alloc (.cells (regA r) 171) := by
  simp only [regA]
  go_enter Tryz.func179, Tryz.ntmps179
  go_wp2
  go_ret
  exact ⟨rfl, rfl⟩
end Go.Proofs.YtjiaepphnddpoaaGreat
