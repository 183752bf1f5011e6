/-
  The law TowAhead.
-/
import Derived.Test.YtjiaepphnddpoaaE1
import Derived.Test.YtjiaepphnddpoaaN6
import Derived.Test.YtjiaepphnddpoaaFin
namespace Go.Proofs.Ytjiaepphnddpoaa
open Go.RowKit Go.Shelf
set_option linter.unusedSimpArgs false
set_option linter.unusedVariables false

theorem whereR_nil {s : Strm} {bs : List Bnd} {p : Pnt} {h : Hdg} (e : (whereR s bs p h).2 ≠ 0) : (whereR s bs p h).1 = [] := by
  unfold whereR whereN at *
  split
  · rename_i h1
    rw [if_pos h1] at e
    split
    · rename_i h2
      rw [if_pos h2] at e
      split
      · rename_i h3
        rw [if_pos h3] at e
        split
        · rename_i h4
          rw [if_pos h4] at e; exact absurd rfl e
        · rfl
      · rfl
    · rfl
  · rfl
theorem whereR_ok {s : Strm} {bs : List Bnd} {p : Pnt} {h : Hdg} (he : errB s bs = 0) (e : (whereR s bs p h).2 = 0) : okPnt p = true ∧ whereE p h (nodesL s bs) bs.length = 0 ∧ whereR s bs p h = (whereTo p h (nodesL s bs) bs.length, 0) := by
  have hl : (nodesL s bs).length = bs.length := by rw [nodesL, List.length_map, List.length_range]
  unfold whereR whereN at *
  rw [if_pos he] at e ⊢
  split at e
  · rename_i h2
    rw [if_pos h2]
    split at e
    · rename_i h3
      rw [if_pos h3]
      split at e
      · rename_i h4
        rw [if_pos h4, hl] at *
        exact ⟨h2, h4, rfl⟩
      · rename_i h4; exact absurd e h4
    · simp at e
  · simp at e
theorem insideR_okd {f : Reg} (h : (insideR f).2 = 0) : insideR f = (f, 0) ∧ okBnd 32768 f.x = true ∧ okBnd 32768 f.y = true := by
  unfold insideR at *
  split at h
  · rename_i h1; rw [if_pos h1]; exact ⟨rfl, h1⟩
  · simp at h
theorem whereR_half {s : Strm} {bs : List Bnd} {p : Pnt} (he : errB s bs = 0) (hp : okPnt p = true) (e : (whereR s bs p ⟨-1, 0, 1⟩).2 ≠ 0) : whereR s bs p ⟨-1, 0, 1⟩ = ([], 7) := by
  have hl : (nodesL s bs).length = bs.length := by rw [nodesL, List.length_map, List.length_range]
  have hh : okHdg ⟨-1, 0, 1⟩ = true := by decide
  rw [whereR, if_pos he, if_pos hp, if_pos hh] at e ⊢
  unfold whereN at e ⊢
  rw [hl] at e ⊢
  rcases whereE_half he hp bs.length (Nat.le_refl _) with q | q
  · rw [if_pos q] at e; exact absurd rfl e
  · rw [if_neg (by rw [q]; decide), q]
/-- What TowAhead compares, node by node. -/
theorem ahead_b {s : Strm} {bs : List Bnd} {p : Pnt} (he : errB s bs = 0) (hp : okPnt p = true) (h1 : whereE p ⟨1, 0, 1⟩ (nodesL s bs) bs.length = 0) (h2 : whereE p ⟨-1, 0, 1⟩ (nodesL s bs) bs.length = 0) {i : Nat} (hi : i < bs.length) {R R2 : Reg} (hR : (placeR p ⟨1, 0, 1⟩ (nodeR s bs i)).1 = R) (hR2 : (placeR p ⟨-1, 0, 1⟩ (nodeR s bs i)).1 = R2) :
    R.x.lo - p.x = p.x - R2.x.hi ∧ R.y.hi - p.y = p.y - R2.y.lo ∧ -32768 ≤ R.x.lo ∧ R.x.lo ≤ 32768 ∧ -32768 ≤ R.y.hi ∧ R.y.hi ≤ 32768 ∧ -32768 ≤ R2.x.hi ∧ R2.x.hi ≤ 32768 ∧ -32768 ≤ R2.y.lo ∧ R2.y.lo ≤ 32768 := by
  obtain ⟨hs, hb⟩ := errB_zero he
  have hg : (nodesL s bs).getD i noReg = nodeR s bs i := getD_of _ (nodesL_at s bs hi)
  have q1 := (whereE_zero bs.length).1 h1 i hi
  have q2 := (whereE_zero bs.length).1 h2 i hi
  rw [hg] at q1 q2
  obtain ⟨e2, e3⟩ := node_half hs hb hp hi
  have e1 := node_none hs hb (ship := p) hi
  rw [e1, e3] at q1 hR
  rw [e2] at q2 hR2
  obtain ⟨i1, i2, i3⟩ := insideR_okd q1
  obtain ⟨j1, j2, j3⟩ := insideR_okd q2
  rw [i1] at hR
  rw [j1] at hR2
  subst hR
  subst hR2
  have a1 := of_decide_eq_true i2
  have a2 := of_decide_eq_true i3
  have a3 := of_decide_eq_true j2
  have a4 := of_decide_eq_true j3
  unfold zipR plusB negR negB ofP still at *
  dsimp only at *
  omega
theorem eq_reg (r : Reg) (w : World) : (Op.equalIn 10000 86 (.agg (regA r)) (.agg (regA r))).run Try.prog w = .ok true w := by
  simp only [regA]
  go_simp
set_option maxRecDepth 100000 in
set_option maxHeartbeats 8000000 in
theorem TowAhead_any (s : Strm) (A O : Option Addr) (n c no co : Nat) (bs : List Bnd) (p : Pnt) (w : World) (hs : SlAt w 0 5 Sec.cells A n c s.secs) (hl : SlAt w 0 2 Bnd.cells O no co bs) :
    Calls Try.prog 15 #[.agg #[.int .i64 s.head, .slice A n c, .int .i64 s.lane.lo, .int .i64 s.lane.hi, .int .i64 s.bend, .slice O no co], .agg #[.int .i64 p.x, .int .i64 p.y]] w fun e w' => e = .returned (.bool true) ∧ Below w.heap.size w w' := by
  obtain ⟨w1, hw1⟩ : ∃ w1, w1 = (w.alloc (.cells #[.int .i64 s.head, .slice A n c, .int .i64 s.lane.lo, .int .i64 s.lane.hi, .int .i64 s.bend, .slice O no co] 37)).alloc (.cells #[.int .i64 p.x, .int .i64 p.y] 88) := ⟨_, rfl⟩
  have k3 : Blk w1 w.heap.size 37 #[.int .i64 s.head, .slice A n c, .int .i64 s.lane.lo, .int .i64 s.lane.hi, .int .i64 s.bend, .slice O no co] := by rw [hw1]; exact (Blk.new _ _ _).alloc _
  have k4 : Blk w1 (w.heap.size + 1) 88 #[.int .i64 p.x, .int .i64 p.y] := by rw [hw1]; exact Blk.newAt (by simp)
  have b : Below w.heap.size w w1 := by rw [hw1]; exact ((Below.refl _ _).alloc (Nat.le_refl _) _).alloc (by simp) _
  replace hs : SlAt w1 0 5 Sec.cells A n c s.secs := by rw [hw1]; exact (hs.alloc _).alloc _
  replace hl : SlAt w1 0 2 Bnd.cells O no co bs := by rw [hw1]; exact (hl.alloc _).alloc _
  have hNo := fun W h1 h2 => Nodes_any s A O n c no co 0 0 bs W h1 h2
  have hW1 : ∀ W, SlAt W 0 5 Sec.cells A n c s.secs → SlAt W 0 2 Bnd.cells O no co bs → Calls Try.prog 52 #[.agg #[.int .i64 s.head, .slice A n c, .int .i64 s.lane.lo, .int .i64 s.lane.hi, .int .i64 s.bend], .slice O no co, .agg #[.int .i64 p.x, .int .i64 p.y], .agg #[.int .i64 1, .int .i64 0, .int .i64 1]] W (RetSl 8 Reg.cells (whereR s bs p ⟨1, 0, 1⟩) W) := fun W h1 h2 => Where_any s A O n c no co bs p ⟨1, 0, 1⟩ W h1 h2
  have hW2 : ∀ W, SlAt W 0 5 Sec.cells A n c s.secs → SlAt W 0 2 Bnd.cells O no co bs → Calls Try.prog 52 #[.agg #[.int .i64 s.head, .slice A n c, .int .i64 s.lane.lo, .int .i64 s.lane.hi, .int .i64 s.bend], .slice O no co, .agg #[.int .i64 p.x, .int .i64 p.y], .agg #[.int .i64 (-1), .int .i64 0, .int .i64 1]] W (RetSl 8 Reg.cells (whereR s bs p ⟨-1, 0, 1⟩) W) := fun W h1 h2 => Where_any s A O n c no co bs p ⟨-1, 0, 1⟩ W h1 h2
  by_cases he : errB s bs = 0
  · have e1 : nodesR s bs = (nodesL s bs, 0) := by rw [nodesR, if_pos he]
    simp only [e1] at hNo
    by_cases hq1 : (whereR s bs p ⟨1, 0, 1⟩).2 = 0
    · obtain ⟨hp, hE1, hv1⟩ := whereR_ok he hq1
      simp only [hv1] at hW1
      obtain ⟨ho, hb0⟩ := errB_zero he
      have hno : n = no := by have := okOffs_len hb0; have := hl.len; have := hs.len; omega
      subst hno
      have hn8 : n ≤ 8 := by have := ok_head ho; unfold headOk at this; have := hs.len; omega
      have hbl := Lib.hid hl.len
      have hpb := of_decide_eq_true hp
      have hNl : Hid ((nodesL s bs).length = n) := by show _ = _; rw [nodesL, List.length_map, List.length_range, hbl.out]
      have hNat := Lib.hid (fun i (hi : i < bs.length) => nodesL_at s bs hi)
      have hNt := Lib.hid (fun i (hi : i < bs.length) => node_tight ho hb0 hi)
      have hmt := Lib.hid (fun i (hi : i < bs.length) => ahead he hp hE1 hi)
      have hnh := Lib.hid (fun i (hi : i < bs.length) => (node_half ho hb0 hp hi).2)
      have hTl := Lib.hid (fun h => whereTo_len p h (nodesL s bs) bs.length)
      have hTat := Lib.hid (fun h i (hi : i < bs.length) => show (whereTo p h (nodesL s bs) bs.length)[i]? = some (placeR p h (nodeR s bs i)).1 from by rw [whereTo_at p h _ hi, getD_of _ (nodesL_at s bs hi)])
      have hmv := fun r W h1 h2 => Move_any r r p W h1 hp h2
      replace hmv := Lib.hid hmv
      have hse := fun h2 i hi R R2 hR hR2 => ahead_b he hp hE1 h2 (i := i) hi (R := R) (R2 := R2) hR hR2
      replace hse := Lib.hid hse
      have hok2 := fun e => whereR_ok (h := ⟨-1, 0, 1⟩) (p := p) he e
      have hno2 := fun e => whereR_half he hp e
      replace hok2 := Lib.hid hok2
      replace hno2 := Lib.hid hno2
      by_cases hTrue : True
      · skip
        replace hE1 := Lib.hid hE1
        replace he := Lib.hid he
        replace hp := Lib.hid hp
        clear hv1 hq1 e1 ho hb0 hTrue
        generalize hLL : nodesL s bs = L at *
        replace hLL := Lib.hid hLL
        go_enter Try.func15, Try.ntmps15
        go_wp2_with fail
        rw [← hw1]
        clear hw1
        refine (hNo _ hs hl).mono ?_
        clear hNo
        rintro e W ⟨P1, n1, m1, rfl, hr1, hbel⟩
        replace k3 := k3.below hbel
        replace k4 := k4.below hbel
        replace b := b.trans (hbel.mono b.size)
        replace hs := hs.below hbel
        replace hl := hl.below hbel
        clear hbel
        replace hr1 := hr1.mono (Nat.zero_le _)
        obtain ⟨c3, f3, l3⟩ := k3.rules
        obtain ⟨c4, f4, l4⟩ := k4.rules
        go_wp2_with fail
        clear c3 f3 l3 c4 f4 l4
        refine (hW1 _ hs hl).mono ?_
        clear hW1
        rintro e W ⟨P2, n2, m2, rfl, hr2, hbel⟩
        replace k3 := k3.below hbel
        replace k4 := k4.below hbel
        replace b := b.trans (hbel.mono b.size)
        replace hs := hs.below hbel
        replace hl := hl.below hbel
        replace hr1 := hr1.below hbel
        clear hbel
        replace hr2 := hr2.mono (Nat.zero_le _)
        obtain rfl : n = n1 := by have h9 : L.length = n1 := hr1.len; have := hNl.out; omega
        obtain rfl : n = n2 := by have h9 : (whereTo p ⟨1, 0, 1⟩ L bs.length).length = n2 := hr2.len; have := hTl.out ⟨1, 0, 1⟩; have := hbl.out; omega
        go_wp2_with fail
        go_loopw [9] (fun i wr => ∃ k : Nat, i = .int .i64 k ∧ k ≤ n ∧ Below W.heap.size W wr) (fun i wr => n - (intOf i).toNat)
        case atStart => exact ⟨0, rfl, by omega, Below.refl _ _⟩
        case round =>
          obtain ⟨k, rfl, hk, hb⟩ := hrel
          by_cases hlt : k < n
          · have hx1 := hNat.out k (by rw [hbl.out]; exact hlt)
            have hx2 := hTat.out ⟨1, 0, 1⟩ k (by rw [hbl.out]; exact hlt)
            obtain ⟨hT1, hT2, -⟩ := hNt.out k (by rw [hbl.out]; exact hlt)
            obtain ⟨m1_, m2_, -⟩ := hmt.out k (by rw [hbl.out]; exact hlt)
            have hn2 := hnh.out k (by rw [hbl.out]; exact hlt)
            have hM := fun W => hmv.out (nodeR s bs k) W hT2 (tight_self hT1)
            rw [m2_] at hx2
            simp only [← hn2] at hM
            obtain ⟨⟨R, er⟩, hRe⟩ : ∃ R, moveR (nodeR s bs k) p = R := ⟨_, rfl⟩
            rw [hRe] at hx2 m1_
            simp only [hRe] at hM
            dsimp only at hx2 m1_
            subst m1_
            simp only [regA] at hM
            obtain ⟨bN, oN, hA1, -, hbN, z0, z1, z2, z3, z4, z5, z6, z7⟩ := (hr1.below hb).reg hx1
            obtain ⟨bL, oL, hA2, -, hbL, y0, y1, y2, y3, y4, y5, y6, y7⟩ := (hr2.below hb).reg hx2
            generalize nodeR s bs k = r at *
            have k4w := k4.below hb
            replace hx1 := Lib.hid hx1
            replace hx2 := Lib.hid hx2
            replace hT1 := Lib.hid hT1
            replace hT2 := Lib.hid hT2
            replace hRe := Lib.hid hRe
            replace hn2 := Lib.hid hn2
            replace m2_ := Lib.hid m2_
            subst hA1
            subst hA2
            have hk0 : (0 : Int) ≤ (k : Int) := by omega
            have hk1 : (k : Int) < (n : Int) := by omega
            go_wp2_with fail
            refine wp_held_np (fun w' : World => w'.cell? ⟨bN, oN + k * 8, none⟩ = some (.int .i64 r.x.lo) ∧ w'.cell? ⟨bN, oN + k * 8 + 1, none⟩ = some (.int .i64 r.x.hi) ∧ w'.cell? ⟨bN, oN + k * 8 + 2, none⟩ = some (.int .i64 r.y.lo) ∧ w'.cell? ⟨bN, oN + k * 8 + 3, none⟩ = some (.int .i64 r.y.hi) ∧ w'.cell? ⟨bN, oN + k * 8 + 4, none⟩ = some (.int .i64 r.s.lo) ∧ w'.cell? ⟨bN, oN + k * 8 + 5, none⟩ = some (.int .i64 r.s.hi) ∧ w'.cell? ⟨bN, oN + k * 8 + 6, none⟩ = some (.int .i64 r.d.lo) ∧ w'.cell? ⟨bN, oN + k * 8 + 7, none⟩ = some (.int .i64 r.d.hi) ∧ (∀ j, w'.cell? ⟨w.heap.size + 1, j, none⟩ = #[Value.int .i64 p.x, .int .i64 p.y][j]?)) (by kernel_rfl) ?_
            replace k4w := k4w.drew
            have hSb : Hid (∀ W', Below wr.heap.size wr W' → (fun w' : World => w'.cell? ⟨bN, oN + k * 8, none⟩ = some (.int .i64 r.x.lo) ∧ w'.cell? ⟨bN, oN + k * 8 + 1, none⟩ = some (.int .i64 r.x.hi) ∧ w'.cell? ⟨bN, oN + k * 8 + 2, none⟩ = some (.int .i64 r.y.lo) ∧ w'.cell? ⟨bN, oN + k * 8 + 3, none⟩ = some (.int .i64 r.y.hi) ∧ w'.cell? ⟨bN, oN + k * 8 + 4, none⟩ = some (.int .i64 r.s.lo) ∧ w'.cell? ⟨bN, oN + k * 8 + 5, none⟩ = some (.int .i64 r.s.hi) ∧ w'.cell? ⟨bN, oN + k * 8 + 6, none⟩ = some (.int .i64 r.d.lo) ∧ w'.cell? ⟨bN, oN + k * 8 + 7, none⟩ = some (.int .i64 r.d.hi) ∧ (∀ j, w'.cell? ⟨w.heap.size + 1, j, none⟩ = #[Value.int .i64 p.x, .int .i64 p.y][j]?)) W') := by
              show ∀ _, _
              intro W' hb9
              exact ⟨(hb9.cell (p := ⟨bN, oN + k * 8, none⟩) hbN).trans z0, (hb9.cell (p := ⟨bN, oN + k * 8 + 1, none⟩) hbN).trans z1, (hb9.cell (p := ⟨bN, oN + k * 8 + 2, none⟩) hbN).trans z2, (hb9.cell (p := ⟨bN, oN + k * 8 + 3, none⟩) hbN).trans z3, (hb9.cell (p := ⟨bN, oN + k * 8 + 4, none⟩) hbN).trans z4, (hb9.cell (p := ⟨bN, oN + k * 8 + 5, none⟩) hbN).trans z5, (hb9.cell (p := ⟨bN, oN + k * 8 + 6, none⟩) hbN).trans z6, (hb9.cell (p := ⟨bN, oN + k * 8 + 7, none⟩) hbN).trans z7, fun j => (hb9.cell (p := ⟨w.heap.size + 1, j, none⟩) k4w.lt).trans (k4w.cell j)⟩
            have hSL : Hid (∀ W', Below wr.heap.size wr W' → W'.cell? ⟨bL, oL + k * 8, none⟩ = some (.int .i64 R.x.lo) ∧ W'.cell? ⟨bL, oL + k * 8 + 1, none⟩ = some (.int .i64 R.x.hi) ∧ W'.cell? ⟨bL, oL + k * 8 + 2, none⟩ = some (.int .i64 R.y.lo) ∧ W'.cell? ⟨bL, oL + k * 8 + 3, none⟩ = some (.int .i64 R.y.hi) ∧ W'.cell? ⟨bL, oL + k * 8 + 4, none⟩ = some (.int .i64 R.s.lo) ∧ W'.cell? ⟨bL, oL + k * 8 + 5, none⟩ = some (.int .i64 R.s.hi) ∧ W'.cell? ⟨bL, oL + k * 8 + 6, none⟩ = some (.int .i64 R.d.lo) ∧ W'.cell? ⟨bL, oL + k * 8 + 7, none⟩ = some (.int .i64 R.d.hi)) := by
              show ∀ _, _
              intro W' hb9
              exact ⟨(hb9.cell (p := ⟨bL, oL + k * 8, none⟩) hbL).trans y0, (hb9.cell (p := ⟨bL, oL + k * 8 + 1, none⟩) hbL).trans y1, (hb9.cell (p := ⟨bL, oL + k * 8 + 2, none⟩) hbL).trans y2, (hb9.cell (p := ⟨bL, oL + k * 8 + 3, none⟩) hbL).trans y3, (hb9.cell (p := ⟨bL, oL + k * 8 + 4, none⟩) hbL).trans y4, (hb9.cell (p := ⟨bL, oL + k * 8 + 5, none⟩) hbL).trans y5, (hb9.cell (p := ⟨bL, oL + k * 8 + 6, none⟩) hbL).trans y6, (hb9.cell (p := ⟨bL, oL + k * 8 + 7, none⟩) hbL).trans y7⟩
            have hb9 : Below wr.heap.size wr wr.drew := (Below.refl _ _).drew
            clear z0 z1 z2 z3 z4 z5 z6 z7 y0 y1 y2 y3 y4 y5 y6 y7
            have hS := hSb.out _ hb9
            have hgg : wr.heap.size ≤ wr.drew.heap.size := hb9.size
            generalize wr.drew = wd at *
            refine held_take (i := 0) (v := ?_) 58 rfl rfl (by kernel_rfl) (by kernel_rfl) (by kernel_rfl) (fun _ _ _ h => h) (Or.inl ⟨by rfl, ?_⟩) hS ?_
            rotate_left 1
            · intro w' hSw
              try dsimp only at hSw
              obtain ⟨q0, q1, q2, q3, q4, q5, q6, q7, q8⟩ := hSw
              go_simp
              all_goals with_reducible rfl
            try simp only [Act.put, List.setIfInBounds_toArray, List.set_cons_zero, List.set_cons_succ]
            refine held_take (i := 1) (v := ?_) 59 rfl rfl (by kernel_rfl) (by kernel_rfl) (by kernel_rfl) (fun _ _ _ h => h) (Or.inl ⟨by rfl, ?_⟩) hS ?_
            rotate_left 1
            · intro w' hSw
              try dsimp only at hSw
              obtain ⟨q0, q1, q2, q3, q4, q5, q6, q7, q8⟩ := hSw
              go_simp
              all_goals with_reducible rfl
            try simp only [Act.put, List.setIfInBounds_toArray, List.set_cons_zero, List.set_cons_succ]
            refine held_take (i := 2) (v := ?_) 60 rfl rfl (by kernel_rfl) (by kernel_rfl) (by kernel_rfl) (fun _ _ _ h => h) (Or.inl ⟨by rfl, ?_⟩) hS ?_
            rotate_left 1
            · intro w' hSw
              try dsimp only at hSw
              obtain ⟨q0, q1, q2, q3, q4, q5, q6, q7, q8⟩ := hSw
              go_simp
              all_goals with_reducible rfl
            try simp only [Act.put, List.setIfInBounds_toArray, List.set_cons_zero, List.set_cons_succ]
            refine held_take (i := 3) (v := ?_) 61 rfl rfl (by kernel_rfl) (by kernel_rfl) (by kernel_rfl) (fun _ _ _ h => h) (Or.inl ⟨by rfl, ?_⟩) hS ?_
            rotate_left 1
            · intro w' hSw
              try dsimp only at hSw
              obtain ⟨q0, q1, q2, q3, q4, q5, q6, q7, q8⟩ := hSw
              go_simp
              all_goals with_reducible rfl
            try simp only [Act.put, List.setIfInBounds_toArray, List.set_cons_zero, List.set_cons_succ]
            refine held_take (i := 4) (v := ?_) 62 rfl rfl (by kernel_rfl) (by kernel_rfl) (by kernel_rfl) (fun _ _ _ h => h) (Or.inl ⟨by rfl, ?_⟩) hS ?_
            rotate_left 1
            · intro w' hSw
              try dsimp only at hSw
              obtain ⟨q0, q1, q2, q3, q4, q5, q6, q7, q8⟩ := hSw
              go_simp
              all_goals with_reducible rfl
            try simp only [Act.put, List.setIfInBounds_toArray, List.set_cons_zero, List.set_cons_succ]
            refine wpAnyH_fin (f := fun a g => (((((a.put (some 63) (.tuple #[.agg #[.int .i64 R.x.lo, .int .i64 R.x.hi, .int .i64 R.y.lo, .int .i64 R.y.hi, .int .i64 R.s.lo, .int .i64 R.s.hi, .int .i64 R.d.lo, .int .i64 R.d.hi], .int .i64 0])).put (some 57) (.tuple #[.agg #[.int .i64 R.x.lo, .int .i64 R.x.hi, .int .i64 R.y.lo, .int .i64 R.y.hi, .int .i64 R.s.lo, .int .i64 R.s.hi, .int .i64 R.d.lo, .int .i64 R.d.hi], .int .i64 0])).put (some 64) (.agg #[.int .i64 R.x.lo, .int .i64 R.x.hi, .int .i64 R.y.lo, .int .i64 R.y.hi, .int .i64 R.s.lo, .int .i64 R.s.hi, .int .i64 R.d.lo, .int .i64 R.d.hi])).put (some 65) (.int .i64 0)).put (some 10) (.pointer (some ⟨g, 0, none⟩))).put (some 11) (.int .i64 0)) (B := fun g W' => Blk W' g 86 #[.int .i64 R.x.lo, .int .i64 R.x.hi, .int .i64 R.y.lo, .int .i64 R.y.hi, .int .i64 R.s.lo, .int .i64 R.s.hi, .int .i64 R.d.lo, .int .i64 R.d.hi] ∧ Below wr.heap.size wr W') ?_ (fun hrest => ?_)
            · rintro g10 W3 ⟨k10, hb10⟩
              try simp only [Act.put, List.setIfInBounds_toArray, List.set_cons_zero, List.set_cons_succ]
              refine noPanic_normal ?_
              clear hS
              have hSS := hSL.out W3 hb10
              have heq := fun w' => eq_reg R w'
              simp only [regA] at heq
              go_wp2_with fail
              refine wp_held_np (fun w' : World => (∀ j, w'.cell? ⟨g10, j, none⟩ = #[Value.int .i64 R.x.lo, .int .i64 R.x.hi, .int .i64 R.y.lo, .int .i64 R.y.hi, .int .i64 R.s.lo, .int .i64 R.s.hi, .int .i64 R.d.lo, .int .i64 R.d.hi][j]?) ∧ w'.cell? ⟨bL, oL + k * 8, none⟩ = some (.int .i64 R.x.lo) ∧ w'.cell? ⟨bL, oL + k * 8 + 1, none⟩ = some (.int .i64 R.x.hi) ∧ w'.cell? ⟨bL, oL + k * 8 + 2, none⟩ = some (.int .i64 R.y.lo) ∧ w'.cell? ⟨bL, oL + k * 8 + 3, none⟩ = some (.int .i64 R.y.hi) ∧ w'.cell? ⟨bL, oL + k * 8 + 4, none⟩ = some (.int .i64 R.s.lo) ∧ w'.cell? ⟨bL, oL + k * 8 + 5, none⟩ = some (.int .i64 R.s.hi) ∧ w'.cell? ⟨bL, oL + k * 8 + 6, none⟩ = some (.int .i64 R.d.lo) ∧ w'.cell? ⟨bL, oL + k * 8 + 7, none⟩ = some (.int .i64 R.d.hi)) (by kernel_rfl) ?_
              replace k10 := k10.drew
              replace hb10 := hb10.drew
              have hS : (fun w' : World => (∀ j, w'.cell? ⟨g10, j, none⟩ = #[Value.int .i64 R.x.lo, .int .i64 R.x.hi, .int .i64 R.y.lo, .int .i64 R.y.hi, .int .i64 R.s.lo, .int .i64 R.s.hi, .int .i64 R.d.lo, .int .i64 R.d.hi][j]?) ∧ w'.cell? ⟨bL, oL + k * 8, none⟩ = some (.int .i64 R.x.lo) ∧ w'.cell? ⟨bL, oL + k * 8 + 1, none⟩ = some (.int .i64 R.x.hi) ∧ w'.cell? ⟨bL, oL + k * 8 + 2, none⟩ = some (.int .i64 R.y.lo) ∧ w'.cell? ⟨bL, oL + k * 8 + 3, none⟩ = some (.int .i64 R.y.hi) ∧ w'.cell? ⟨bL, oL + k * 8 + 4, none⟩ = some (.int .i64 R.s.lo) ∧ w'.cell? ⟨bL, oL + k * 8 + 5, none⟩ = some (.int .i64 R.s.hi) ∧ w'.cell? ⟨bL, oL + k * 8 + 6, none⟩ = some (.int .i64 R.d.lo) ∧ w'.cell? ⟨bL, oL + k * 8 + 7, none⟩ = some (.int .i64 R.d.hi)) W3.drew := ⟨k10.cell, hSS⟩
              generalize W3.drew = W4 at *
              refine held_take (i := 0) (v := ?_) 66 rfl rfl (by kernel_rfl) (by kernel_rfl) (by kernel_rfl) (fun _ _ _ h => h) (Or.inl ⟨by rfl, ?_⟩) hS ?_
              rotate_left 1
              · intro w' hSw
                try dsimp only at hSw
                obtain ⟨q0, q1, q2, q3, q4, q5, q6, q7, q8⟩ := hSw
                go_simp
                all_goals with_reducible rfl
              try simp only [Act.put, List.setIfInBounds_toArray, List.set_cons_zero, List.set_cons_succ]
              refine held_take (i := 1) (v := ?_) 67 rfl rfl (by kernel_rfl) (by kernel_rfl) (by kernel_rfl) (fun _ _ _ h => h) (Or.inl ⟨by rfl, ?_⟩) hS ?_
              rotate_left 1
              · intro w' hSw
                try dsimp only at hSw
                obtain ⟨q0, q1, q2, q3, q4, q5, q6, q7, q8⟩ := hSw
                go_simp
                all_goals with_reducible rfl
              try simp only [Act.put, List.setIfInBounds_toArray, List.set_cons_zero, List.set_cons_succ]
              refine held_take (i := 2) (v := ?_) 68 rfl rfl (by kernel_rfl) (by kernel_rfl) (by kernel_rfl) (fun _ _ _ h => h) (Or.inl ⟨by rfl, ?_⟩) hS ?_
              rotate_left 1
              · intro w' hSw
                try dsimp only at hSw
                obtain ⟨q0, q1, q2, q3, q4, q5, q6, q7, q8⟩ := hSw
                go_simp
                all_goals with_reducible rfl
              try simp only [Act.put, List.setIfInBounds_toArray, List.set_cons_zero, List.set_cons_succ]
              refine held_take (i := 3) (v := ?_) 69 rfl rfl (by kernel_rfl) (by kernel_rfl) (by kernel_rfl) (fun _ _ _ h => h) (Or.inl ⟨by rfl, ?_⟩) hS ?_
              rotate_left 1
              · intro w' hSw
                try dsimp only at hSw
                obtain ⟨q0, q1, q2, q3, q4, q5, q6, q7, q8⟩ := hSw
                go_simp
                all_goals with_reducible rfl
              try simp only [Act.put, List.setIfInBounds_toArray, List.set_cons_zero, List.set_cons_succ]
              refine held_take (i := 4) (v := ?_) 70 rfl rfl (by kernel_rfl) (by kernel_rfl) (by kernel_rfl) (fun _ _ _ h => h) (Or.inl ⟨by rfl, ?_⟩) hS ?_
              rotate_left 1
              · intro w' hSw
                try dsimp only at hSw
                obtain ⟨q0, q1, q2, q3, q4, q5, q6, q7, q8⟩ := hSw
                go_simp
                all_goals with_reducible rfl
              try simp only [Act.put, List.setIfInBounds_toArray, List.set_cons_zero, List.set_cons_succ]
              refine held_take (i := 5) (v := ?_) 71 rfl rfl (by kernel_rfl) (by kernel_rfl) (by kernel_rfl) (fun _ _ _ h => h) (Or.inl ⟨by rfl, ?_⟩) hS ?_
              rotate_left 1
              · intro w' hSw
                try dsimp only at hSw
                obtain ⟨q0, q1, q2, q3, q4, q5, q6, q7, q8⟩ := hSw
                go_simp
                all_goals with_reducible rfl
              try simp only [Act.put, List.setIfInBounds_toArray, List.set_cons_zero, List.set_cons_succ]
              refine held_take (i := 6) (v := ?_) 72 rfl rfl (by kernel_rfl) (by kernel_rfl) (by kernel_rfl) (fun _ _ _ h => h) (Or.inl ⟨by rfl, ?_⟩) hS ?_
              rotate_left 1
              · intro w' hSw
                try dsimp only at hSw
                obtain ⟨q0, q1, q2, q3, q4, q5, q6, q7, q8⟩ := hSw
                go_simp
                all_goals with_reducible rfl
              try simp only [Act.put, List.setIfInBounds_toArray, List.set_cons_zero, List.set_cons_succ]
              refine held_take (i := 7) (v := ?_) 73 rfl rfl (by kernel_rfl) (by kernel_rfl) (by kernel_rfl) (fun _ _ _ h => h) (Or.inl ⟨by rfl, ?_⟩) hS ?_
              rotate_left 1
              · intro w' hSw
                try dsimp only at hSw
                obtain ⟨q0, q1, q2, q3, q4, q5, q6, q7, q8⟩ := hSw
                go_simp
                all_goals with_reducible rfl
              try simp only [Act.put, List.setIfInBounds_toArray, List.set_cons_zero, List.set_cons_succ]
              refine held_take (i := 8) (v := ?_) 74 rfl rfl (by kernel_rfl) (by kernel_rfl) (by kernel_rfl) (fun _ _ _ h => h) (Or.inl ⟨by rfl, ?_⟩) hS ?_
              rotate_left 1
              · intro w' hSw
                try dsimp only at hSw
                obtain ⟨q0, q1, q2, q3, q4, q5, q6, q7, q8⟩ := hSw
                go_simp
                all_goals with_reducible rfl
              try simp only [Act.put, List.setIfInBounds_toArray, List.set_cons_zero, List.set_cons_succ]
              refine held_take (i := 9) (v := ?_) 75 rfl rfl (by kernel_rfl) (by kernel_rfl) (by kernel_rfl) (fun _ _ _ h => h) (Or.inl ⟨by rfl, ?_⟩) hS ?_
              rotate_left 1
              · intro w' hSw
                try dsimp only at hSw
                obtain ⟨q0, q1, q2, q3, q4, q5, q6, q7, q8⟩ := hSw
                go_simp
                all_goals with_reducible rfl
              try simp only [Act.put, List.setIfInBounds_toArray, List.set_cons_zero, List.set_cons_succ]
              refine wpAnyH_done (by kernel_rfl) (noPanic_normal ?_) _
              clear hS hSS
              go_wp2_with fail
              go_roundw
              case rel => exact ⟨k + 1, by go_num, by omega, hb.trans (hb10.mono hb.size)⟩
              case measure => simp [intOf]; omega
            · try simp only [Act.put, List.setIfInBounds_toArray, List.set_cons_zero, List.set_cons_succ] at hrest
              refine held_two (i := 5) (j := 9) (by kernel_rfl) rfl rfl rfl rfl (fun K hK => ?_) (fun K hK => ?_)
              · go_simp
                refine (hM _).mono ?_
                rintro e W5 ⟨rfl, hbel⟩
                replace hb9 := hb9.trans (hbel.mono hgg)
                clear hS hbel
                have hS := hSb.out _ hb9
                refine hK _ _ hS ?_
                clear hK K
                try simp only [Act.put, List.setIfInBounds_toArray, List.set_cons_zero, List.set_cons_succ]
                refine held_take (i := 6) (v := ?_) 57 rfl rfl (by kernel_rfl) (by kernel_rfl) (by kernel_rfl) (fun _ _ _ h => h) (Or.inl ⟨by rfl, ?_⟩) hS ?_
                rotate_left 1
                · intro w' hSw
                  try dsimp only at hSw
                  obtain ⟨q0, q1, q2, q3, q4, q5, q6, q7, q8⟩ := hSw
                  go_simp
                  all_goals with_reducible rfl
                try simp only [Act.put, List.setIfInBounds_toArray, List.set_cons_zero, List.set_cons_succ]
                refine held_take (i := 7) (v := ?_) 64 rfl rfl (by kernel_rfl) (by kernel_rfl) (by kernel_rfl) (fun _ _ _ h => h) (Or.inl ⟨by rfl, ?_⟩) hS ?_
                rotate_left 1
                · intro w' hSw
                  try dsimp only at hSw
                  obtain ⟨q0, q1, q2, q3, q4, q5, q6, q7, q8⟩ := hSw
                  go_simp
                  all_goals with_reducible rfl
                try simp only [Act.put, List.setIfInBounds_toArray, List.set_cons_zero, List.set_cons_succ]
                refine held_take (i := 8) (v := ?_) 65 rfl rfl (by kernel_rfl) (by kernel_rfl) (by kernel_rfl) (fun _ _ _ h => h) (Or.inl ⟨by rfl, ?_⟩) hS ?_
                rotate_left 1
                · intro w' hSw
                  try dsimp only at hSw
                  obtain ⟨q0, q1, q2, q3, q4, q5, q6, q7, q8⟩ := hSw
                  go_simp
                  all_goals with_reducible rfl
                try simp only [Act.put, List.setIfInBounds_toArray, List.set_cons_zero, List.set_cons_succ]
                refine held_one (i := 9) (by kernel_rfl) rfl rfl (fun K hK => ?_)
                go_simp
                have hgg := hb9.size
                have k10 := Blk.new W5 86 #[.int .i64 0, .int .i64 0, .int .i64 0, .int .i64 0, .int .i64 0, .int .i64 0, .int .i64 0, .int .i64 0]
                replace hb9 := hb9.alloc hb9.size (.cells #[.int .i64 0, .int .i64 0, .int .i64 0, .int .i64 0, .int .i64 0, .int .i64 0, .int .i64 0, .int .i64 0] 86)
                clear hS
                have hS := hSb.out _ hb9
                refine hK _ _ hS ?_
                clear hK K
                try simp only [Act.put, List.setIfInBounds_toArray, List.set_cons_zero, List.set_cons_succ]
                generalize W5.heap.size = g10 at *
                generalize W5.alloc (.cells #[.int .i64 0, .int .i64 0, .int .i64 0, .int .i64 0, .int .i64 0, .int .i64 0, .int .i64 0, .int .i64 0] 86) = W6 at *
                have kz := k10.set8 (.int .i64 R.x.lo) (.int .i64 R.x.hi) (.int .i64 R.y.lo) (.int .i64 R.y.hi) (.int .i64 R.s.lo) (.int .i64 R.s.hi) (.int .i64 R.d.lo) (.int .i64 R.d.hi)
                have bz := below_set8 (g := g10) hb9 (by have := hgg; omega) (.int .i64 R.x.lo) (.int .i64 R.x.hi) (.int .i64 R.y.lo) (.int .i64 R.y.hi) (.int .i64 R.s.lo) (.int .i64 R.s.hi) (.int .i64 R.d.lo) (.int .i64 R.d.hi)
                obtain ⟨wz, hwz⟩ : ∃ x, x = set8 W6 (g10) (.int .i64 R.x.lo) (.int .i64 R.x.hi) (.int .i64 R.y.lo) (.int .i64 R.y.hi) (.int .i64 R.s.lo) (.int .i64 R.s.hi) (.int .i64 R.d.lo) (.int .i64 R.d.hi) := ⟨_, rfl⟩
                rw [← hwz] at kz bz
                simp only [set8] at hwz
                obtain ⟨c10, f10, l10⟩ := k10.rules
                refine held_one (i := 10) (by kernel_rfl) rfl rfl (fun K hK => ?_)
                go_simp
                rw [← hwz]
                clear hwz c10 f10 l10 hS
                have hS := hSb.out _ bz
                refine hK _ _ hS ?_
                clear hK K
                try simp only [Act.put, List.setIfInBounds_toArray, List.set_cons_zero, List.set_cons_succ]
                refine held_take (i := 11) (v := ?_) 11 rfl rfl (by kernel_rfl) (by kernel_rfl) (by kernel_rfl) (fun _ _ _ h => h) (Or.inl ⟨by rfl, ?_⟩) hS ?_
                rotate_left 1
                · intro w' hSw
                  try dsimp only at hSw
                  obtain ⟨q0, q1, q2, q3, q4, q5, q6, q7, q8⟩ := hSw
                  go_simp
                  all_goals with_reducible rfl
                try simp only [Act.put, List.setIfInBounds_toArray, List.set_cons_zero, List.set_cons_succ]
                refine wpAnyH_done (by kernel_rfl) (hrest (g10) _ ⟨kz, bz⟩) _
              · go_simp
                have k10 := Blk.new wd 86 #[.int .i64 0, .int .i64 0, .int .i64 0, .int .i64 0, .int .i64 0, .int .i64 0, .int .i64 0, .int .i64 0]
                replace hb9 := hb9.alloc hb9.size (.cells #[.int .i64 0, .int .i64 0, .int .i64 0, .int .i64 0, .int .i64 0, .int .i64 0, .int .i64 0, .int .i64 0] 86)
                clear hS
                have hS := hSb.out _ hb9
                refine hK _ _ hS ?_
                clear hK K
                try simp only [Act.put, List.setIfInBounds_toArray, List.set_cons_zero, List.set_cons_succ]
                generalize wd.heap.size = g10 at *
                generalize wd.alloc (.cells #[.int .i64 0, .int .i64 0, .int .i64 0, .int .i64 0, .int .i64 0, .int .i64 0, .int .i64 0, .int .i64 0] 86) = W5 at *
                refine held_one (i := 5) (by kernel_rfl) rfl rfl (fun K hK => ?_)
                go_simp
                refine (hM _).mono ?_
                rintro e W6 ⟨rfl, hbel⟩
                replace hb9 := hb9.trans (hbel.mono hb9.size)
                replace k10 := k10.below hbel
                clear hS hbel
                have hS := hSb.out _ hb9
                refine hK _ _ hS ?_
                clear hK K
                try simp only [Act.put, List.setIfInBounds_toArray, List.set_cons_zero, List.set_cons_succ]
                refine held_take (i := 6) (v := ?_) 57 rfl rfl (by kernel_rfl) (by kernel_rfl) (by kernel_rfl) (fun _ _ _ h => h) (Or.inl ⟨by rfl, ?_⟩) hS ?_
                rotate_left 1
                · intro w' hSw
                  try dsimp only at hSw
                  obtain ⟨q0, q1, q2, q3, q4, q5, q6, q7, q8⟩ := hSw
                  go_simp
                  all_goals with_reducible rfl
                try simp only [Act.put, List.setIfInBounds_toArray, List.set_cons_zero, List.set_cons_succ]
                refine held_take (i := 7) (v := ?_) 64 rfl rfl (by kernel_rfl) (by kernel_rfl) (by kernel_rfl) (fun _ _ _ h => h) (Or.inl ⟨by rfl, ?_⟩) hS ?_
                rotate_left 1
                · intro w' hSw
                  try dsimp only at hSw
                  obtain ⟨q0, q1, q2, q3, q4, q5, q6, q7, q8⟩ := hSw
                  go_simp
                  all_goals with_reducible rfl
                try simp only [Act.put, List.setIfInBounds_toArray, List.set_cons_zero, List.set_cons_succ]
                refine held_take (i := 8) (v := ?_) 65 rfl rfl (by kernel_rfl) (by kernel_rfl) (by kernel_rfl) (fun _ _ _ h => h) (Or.inl ⟨by rfl, ?_⟩) hS ?_
                rotate_left 1
                · intro w' hSw
                  try dsimp only at hSw
                  obtain ⟨q0, q1, q2, q3, q4, q5, q6, q7, q8⟩ := hSw
                  go_simp
                  all_goals with_reducible rfl
                try simp only [Act.put, List.setIfInBounds_toArray, List.set_cons_zero, List.set_cons_succ]
                have kz := k10.set8 (.int .i64 R.x.lo) (.int .i64 R.x.hi) (.int .i64 R.y.lo) (.int .i64 R.y.hi) (.int .i64 R.s.lo) (.int .i64 R.s.hi) (.int .i64 R.d.lo) (.int .i64 R.d.hi)
                have bz := below_set8 (g := g10) hb9 (by have := hgg; omega) (.int .i64 R.x.lo) (.int .i64 R.x.hi) (.int .i64 R.y.lo) (.int .i64 R.y.hi) (.int .i64 R.s.lo) (.int .i64 R.s.hi) (.int .i64 R.d.lo) (.int .i64 R.d.hi)
                obtain ⟨wz, hwz⟩ : ∃ x, x = set8 W6 (g10) (.int .i64 R.x.lo) (.int .i64 R.x.hi) (.int .i64 R.y.lo) (.int .i64 R.y.hi) (.int .i64 R.s.lo) (.int .i64 R.s.hi) (.int .i64 R.d.lo) (.int .i64 R.d.hi) := ⟨_, rfl⟩
                rw [← hwz] at kz bz
                simp only [set8] at hwz
                obtain ⟨c10, f10, l10⟩ := k10.rules
                refine held_one (i := 10) (by kernel_rfl) rfl rfl (fun K hK => ?_)
                go_simp
                rw [← hwz]
                clear hwz c10 f10 l10 hS
                have hS := hSb.out _ bz
                refine hK _ _ hS ?_
                clear hK K
                try simp only [Act.put, List.setIfInBounds_toArray, List.set_cons_zero, List.set_cons_succ]
                refine held_take (i := 11) (v := ?_) 11 rfl rfl (by kernel_rfl) (by kernel_rfl) (by kernel_rfl) (fun _ _ _ h => h) (Or.inl ⟨by rfl, ?_⟩) hS ?_
                rotate_left 1
                · intro w' hSw
                  try dsimp only at hSw
                  obtain ⟨q0, q1, q2, q3, q4, q5, q6, q7, q8⟩ := hSw
                  go_simp
                  all_goals with_reducible rfl
                try simp only [Act.put, List.setIfInBounds_toArray, List.set_cons_zero, List.set_cons_succ]
                refine wpAnyH_done (by kernel_rfl) (hrest (g10) _ ⟨kz, bz⟩) _
          · obtain rfl : k = n := by omega
            have hbel := hb
            replace k3 := k3.below hbel
            replace k4 := k4.below hbel
            replace b := b.trans (hbel.mono b.size)
            replace hs := hs.below hbel
            replace hl := hl.below hbel
            replace hr1 := hr1.below hbel
            replace hr2 := hr2.below hbel
            clear hbel
            obtain ⟨c3, f3, l3⟩ := k3.rules
            obtain ⟨c4, f4, l4⟩ := k4.rules
            go_wp2_with fail
            clear c3 f3 l3 c4 f4 l4
            by_cases hq2 : (whereR s bs p ⟨-1, 0, 1⟩).2 = 0
            · obtain ⟨-, hE2, hv2⟩ := hok2.out hq2
              simp only [hv2] at hW2
              replace hE2 := Lib.hid hE2
              clear hq2 hv2
              refine (hW2 _ hs hl).mono ?_
              clear hW2
              rintro e W2 ⟨P3, n3, m3, rfl, hr3, hbel⟩
              replace k3 := k3.below hbel
              replace k4 := k4.below hbel
              replace b := b.trans (hbel.mono b.size)
              replace hs := hs.below hbel
              replace hl := hl.below hbel
              replace hr2 := hr2.below hbel
              clear hbel hr1
              replace hr3 := hr3.mono (Nat.zero_le _)
              obtain rfl : k = n3 := by have h9 : (whereTo p ⟨-1, 0, 1⟩ L bs.length).length = n3 := hr3.len; have := hTl.out ⟨-1, 0, 1⟩; have := hbl.out; omega
              go_wp2_with fail
              go_loopw [13] (fun i wr => ∃ j : Nat, i = .int .i64 j ∧ j ≤ k ∧ Below W2.heap.size W2 wr) (fun i wr => k - (intOf i).toNat)
              case atStart => exact ⟨0, rfl, by omega, Below.refl _ _⟩
              case round =>
                clear hb
                obtain ⟨j, rfl, hj, hb⟩ := hrel
                by_cases hlt : j < k
                · have hx1 := hTat.out ⟨1, 0, 1⟩ j (by rw [hbl.out]; exact hlt)
                  have hx2 := hTat.out ⟨-1, 0, 1⟩ j (by rw [hbl.out]; exact hlt)
                  obtain ⟨R, hRa⟩ : ∃ R, (placeR p ⟨1, 0, 1⟩ (nodeR s bs j)).1 = R := ⟨_, rfl⟩
                  obtain ⟨R2, hRb⟩ : ∃ R2, (placeR p ⟨-1, 0, 1⟩ (nodeR s bs j)).1 = R2 := ⟨_, rfl⟩
                  obtain ⟨a1, a2, a3, a4, a5, a6, a7, a8, a9, a10⟩ := hse.out hE2.out j (by rw [hbl.out]; exact hlt) R R2 hRa hRb
                  rw [hRa] at hx1
                  rw [hRb] at hx2
                  have q1 : (R.x.lo - p.x != p.x - R2.x.hi) = false := by rw [bne_eq_false_iff_eq]; exact a1
                  have q2 : (R.y.hi - p.y != p.y - R2.y.lo) = false := by rw [bne_eq_false_iff_eq]; exact a2
                  replace a1 := Lib.hid a1
                  replace a2 := Lib.hid a2
                  replace hRa := Lib.hid hRa
                  replace hRb := Lib.hid hRb
                  obtain ⟨bL, oL, hA1, -, hbL, y0, y1, y2, y3, y4, y5, y6, y7⟩ := (hr2.below hb).reg hx1
                  obtain ⟨bH, oH, hA2, -, hbH, x0, x1, x2, x3, x4, x5, x6, x7⟩ := (hr3.below hb).reg hx2
                  replace hx1 := Lib.hid hx1
                  replace hx2 := Lib.hid hx2
                  have k4w := k4.below hb
                  have hk0 : (0 : Int) ≤ (j : Int) := by omega
                  have hk1 : (j : Int) < (k : Int) := by omega
                  subst hA1
                  subst hA2
                  go_wp2_with fail
                  refine wp_held_np (fun w' : World => w'.cell? ⟨bL, oL + j * 8, none⟩ = some (.int .i64 R.x.lo) ∧ w'.cell? ⟨bL, oL + j * 8 + 1, none⟩ = some (.int .i64 R.x.hi) ∧ w'.cell? ⟨bL, oL + j * 8 + 2, none⟩ = some (.int .i64 R.y.lo) ∧ w'.cell? ⟨bL, oL + j * 8 + 3, none⟩ = some (.int .i64 R.y.hi) ∧ w'.cell? ⟨bL, oL + j * 8 + 4, none⟩ = some (.int .i64 R.s.lo) ∧ w'.cell? ⟨bL, oL + j * 8 + 5, none⟩ = some (.int .i64 R.s.hi) ∧ w'.cell? ⟨bL, oL + j * 8 + 6, none⟩ = some (.int .i64 R.d.lo) ∧ w'.cell? ⟨bL, oL + j * 8 + 7, none⟩ = some (.int .i64 R.d.hi) ∧ w'.cell? ⟨bH, oH + j * 8, none⟩ = some (.int .i64 R2.x.lo) ∧ w'.cell? ⟨bH, oH + j * 8 + 1, none⟩ = some (.int .i64 R2.x.hi) ∧ w'.cell? ⟨bH, oH + j * 8 + 2, none⟩ = some (.int .i64 R2.y.lo) ∧ w'.cell? ⟨bH, oH + j * 8 + 3, none⟩ = some (.int .i64 R2.y.hi) ∧ w'.cell? ⟨bH, oH + j * 8 + 4, none⟩ = some (.int .i64 R2.s.lo) ∧ w'.cell? ⟨bH, oH + j * 8 + 5, none⟩ = some (.int .i64 R2.s.hi) ∧ w'.cell? ⟨bH, oH + j * 8 + 6, none⟩ = some (.int .i64 R2.d.lo) ∧ w'.cell? ⟨bH, oH + j * 8 + 7, none⟩ = some (.int .i64 R2.d.hi)) (by kernel_rfl) ?_
                  replace k4w := k4w.drew
                  have hSb : Hid (∀ W', Below wr.heap.size wr W' → (fun w' : World => w'.cell? ⟨bL, oL + j * 8, none⟩ = some (.int .i64 R.x.lo) ∧ w'.cell? ⟨bL, oL + j * 8 + 1, none⟩ = some (.int .i64 R.x.hi) ∧ w'.cell? ⟨bL, oL + j * 8 + 2, none⟩ = some (.int .i64 R.y.lo) ∧ w'.cell? ⟨bL, oL + j * 8 + 3, none⟩ = some (.int .i64 R.y.hi) ∧ w'.cell? ⟨bL, oL + j * 8 + 4, none⟩ = some (.int .i64 R.s.lo) ∧ w'.cell? ⟨bL, oL + j * 8 + 5, none⟩ = some (.int .i64 R.s.hi) ∧ w'.cell? ⟨bL, oL + j * 8 + 6, none⟩ = some (.int .i64 R.d.lo) ∧ w'.cell? ⟨bL, oL + j * 8 + 7, none⟩ = some (.int .i64 R.d.hi) ∧ w'.cell? ⟨bH, oH + j * 8, none⟩ = some (.int .i64 R2.x.lo) ∧ w'.cell? ⟨bH, oH + j * 8 + 1, none⟩ = some (.int .i64 R2.x.hi) ∧ w'.cell? ⟨bH, oH + j * 8 + 2, none⟩ = some (.int .i64 R2.y.lo) ∧ w'.cell? ⟨bH, oH + j * 8 + 3, none⟩ = some (.int .i64 R2.y.hi) ∧ w'.cell? ⟨bH, oH + j * 8 + 4, none⟩ = some (.int .i64 R2.s.lo) ∧ w'.cell? ⟨bH, oH + j * 8 + 5, none⟩ = some (.int .i64 R2.s.hi) ∧ w'.cell? ⟨bH, oH + j * 8 + 6, none⟩ = some (.int .i64 R2.d.lo) ∧ w'.cell? ⟨bH, oH + j * 8 + 7, none⟩ = some (.int .i64 R2.d.hi)) W') := by
                    show ∀ _, _
                    intro W' hb9
                    exact ⟨(hb9.cell (p := ⟨bL, oL + j * 8, none⟩) hbL).trans y0, (hb9.cell (p := ⟨bL, oL + j * 8 + 1, none⟩) hbL).trans y1, (hb9.cell (p := ⟨bL, oL + j * 8 + 2, none⟩) hbL).trans y2, (hb9.cell (p := ⟨bL, oL + j * 8 + 3, none⟩) hbL).trans y3, (hb9.cell (p := ⟨bL, oL + j * 8 + 4, none⟩) hbL).trans y4, (hb9.cell (p := ⟨bL, oL + j * 8 + 5, none⟩) hbL).trans y5, (hb9.cell (p := ⟨bL, oL + j * 8 + 6, none⟩) hbL).trans y6, (hb9.cell (p := ⟨bL, oL + j * 8 + 7, none⟩) hbL).trans y7, (hb9.cell (p := ⟨bH, oH + j * 8, none⟩) hbH).trans x0, (hb9.cell (p := ⟨bH, oH + j * 8 + 1, none⟩) hbH).trans x1, (hb9.cell (p := ⟨bH, oH + j * 8 + 2, none⟩) hbH).trans x2, (hb9.cell (p := ⟨bH, oH + j * 8 + 3, none⟩) hbH).trans x3, (hb9.cell (p := ⟨bH, oH + j * 8 + 4, none⟩) hbH).trans x4, (hb9.cell (p := ⟨bH, oH + j * 8 + 5, none⟩) hbH).trans x5, (hb9.cell (p := ⟨bH, oH + j * 8 + 6, none⟩) hbH).trans x6, (hb9.cell (p := ⟨bH, oH + j * 8 + 7, none⟩) hbH).trans x7⟩
                  have hb9 : Below wr.heap.size wr wr.drew := (Below.refl _ _).drew
                  clear y0 y1 y2 y3 y4 y5 y6 y7 x0 x1 x2 x3 x4 x5 x6 x7
                  have hS := hSb.out _ hb9
                  have hgg : wr.heap.size ≤ wr.drew.heap.size := hb9.size
                  generalize wr.drew = wd at *
                  refine held_take (i := 0) (v := ?_) 104 rfl rfl (by kernel_rfl) (by kernel_rfl) (by kernel_rfl) (fun _ _ _ h => h) (Or.inl ⟨by rfl, ?_⟩) hS ?_
                  rotate_left 1
                  · intro w' hSw
                    try dsimp only at hSw
                    obtain ⟨q0, q1', q2', q3, q4, q5, q6, q7, q8, q9, q10, q11, q12, q13, q14, q15⟩ := hSw
                    go_simp
                    all_goals with_reducible rfl
                  try simp only [Act.put, List.setIfInBounds_toArray, List.set_cons_zero, List.set_cons_succ]
                  refine held_take (i := 1) (v := ?_) 105 rfl rfl (by kernel_rfl) (by kernel_rfl) (by kernel_rfl) (fun _ _ _ h => h) (Or.inl ⟨by rfl, ?_⟩) hS ?_
                  rotate_left 1
                  · intro w' hSw
                    try dsimp only at hSw
                    obtain ⟨q0, q1', q2', q3, q4, q5, q6, q7, q8, q9, q10, q11, q12, q13, q14, q15⟩ := hSw
                    go_simp
                    all_goals with_reducible rfl
                  try simp only [Act.put, List.setIfInBounds_toArray, List.set_cons_zero, List.set_cons_succ]
                  refine held_take (i := 2) (v := ?_) 106 rfl rfl (by kernel_rfl) (by kernel_rfl) (by kernel_rfl) (fun _ _ _ h => h) (Or.inl ⟨by rfl, ?_⟩) hS ?_
                  rotate_left 1
                  · intro w' hSw
                    try dsimp only at hSw
                    obtain ⟨q0, q1', q2', q3, q4, q5, q6, q7, q8, q9, q10, q11, q12, q13, q14, q15⟩ := hSw
                    go_simp
                    all_goals with_reducible rfl
                  try simp only [Act.put, List.setIfInBounds_toArray, List.set_cons_zero, List.set_cons_succ]
                  refine held_take (i := 3) (v := ?_) 107 rfl rfl (by kernel_rfl) (by kernel_rfl) (by kernel_rfl) (fun _ _ _ h => h) (Or.inl ⟨by rfl, ?_⟩) hS ?_
                  rotate_left 1
                  · intro w' hSw
                    try dsimp only at hSw
                    obtain ⟨q0, q1', q2', q3, q4, q5, q6, q7, q8, q9, q10, q11, q12, q13, q14, q15⟩ := hSw
                    go_simp
                    all_goals with_reducible rfl
                  try simp only [Act.put, List.setIfInBounds_toArray, List.set_cons_zero, List.set_cons_succ]
                  refine held_take (i := 4) (v := ?_) 108 rfl rfl (by kernel_rfl) (by kernel_rfl) (by kernel_rfl) (fun _ _ _ h => h) (Or.inl ⟨by rfl, ?_⟩) hS ?_
                  rotate_left 1
                  · intro w' hSw
                    try dsimp only at hSw
                    obtain ⟨q0, q1', q2', q3, q4, q5, q6, q7, q8, q9, q10, q11, q12, q13, q14, q15⟩ := hSw
                    go_simp
                    all_goals with_reducible rfl
                  try simp only [Act.put, List.setIfInBounds_toArray, List.set_cons_zero, List.set_cons_succ]
                  refine held_take (i := 5) (v := ?_) 109 rfl rfl (by kernel_rfl) (by kernel_rfl) (by kernel_rfl) (fun _ _ _ h => h) (Or.inl ⟨by rfl, ?_⟩) hS ?_
                  rotate_left 1
                  · intro w' hSw
                    try dsimp only at hSw
                    obtain ⟨q0, q1', q2', q3, q4, q5, q6, q7, q8, q9, q10, q11, q12, q13, q14, q15⟩ := hSw
                    go_simp
                    all_goals with_reducible rfl
                  try simp only [Act.put, List.setIfInBounds_toArray, List.set_cons_zero, List.set_cons_succ]
                  refine held_take (i := 6) (v := ?_) 110 rfl rfl (by kernel_rfl) (by kernel_rfl) (by kernel_rfl) (fun _ _ _ h => h) (Or.inl ⟨by rfl, ?_⟩) hS ?_
                  rotate_left 1
                  · intro w' hSw
                    try dsimp only at hSw
                    obtain ⟨q0, q1', q2', q3, q4, q5, q6, q7, q8, q9, q10, q11, q12, q13, q14, q15⟩ := hSw
                    go_simp
                    all_goals with_reducible rfl
                  try simp only [Act.put, List.setIfInBounds_toArray, List.set_cons_zero, List.set_cons_succ]
                  refine held_take (i := 7) (v := ?_) 111 rfl rfl (by kernel_rfl) (by kernel_rfl) (by kernel_rfl) (fun _ _ _ h => h) (Or.inl ⟨by rfl, ?_⟩) hS ?_
                  rotate_left 1
                  · intro w' hSw
                    try dsimp only at hSw
                    obtain ⟨q0, q1', q2', q3, q4, q5, q6, q7, q8, q9, q10, q11, q12, q13, q14, q15⟩ := hSw
                    go_simp
                    all_goals with_reducible rfl
                  try simp only [Act.put, List.setIfInBounds_toArray, List.set_cons_zero, List.set_cons_succ]
                  refine wpAnyH_fin (f := fun a g => (a.put (some 14) (.pointer (some ⟨g.1, 0, none⟩))).put (some 15) (.pointer (some ⟨g.2, 0, none⟩))) (B := fun (g : Nat × Nat) W' => Blk W' g.1 86 #[.int .i64 R.x.lo, .int .i64 R.x.hi, .int .i64 R.y.lo, .int .i64 R.y.hi, .int .i64 R.s.lo, .int .i64 R.s.hi, .int .i64 R.d.lo, .int .i64 R.d.hi] ∧ Blk W' g.2 86 #[.int .i64 R2.x.lo, .int .i64 R2.x.hi, .int .i64 R2.y.lo, .int .i64 R2.y.hi, .int .i64 R2.s.lo, .int .i64 R2.s.hi, .int .i64 R2.d.lo, .int .i64 R2.d.hi] ∧ Below wr.heap.size wr W') ?_ (fun hrest => ?_)
                  · rintro ⟨g14, g15⟩ W3 ⟨k14, k15, hb10⟩
                    dsimp only at k14 k15
                    try simp only [Act.put, List.setIfInBounds_toArray, List.set_cons_zero, List.set_cons_succ]
                    refine noPanic_normal ?_
                    clear hS
                    have k4x := (k4.below hb).below hb10
                    obtain ⟨c4, f4, l4⟩ := k4x.rules
                    obtain ⟨c14, f14, l14⟩ := k14.rules
                    obtain ⟨c15, f15, l15⟩ := k15.rules
                    go_wp2_with fail
                    go_roundw
                    case rel => exact ⟨j + 1, by go_num, by omega, hb.trans (hb10.mono hb.size)⟩
                    case measure => simp [intOf]; omega
                  · try simp only [Act.put, List.setIfInBounds_toArray, List.set_cons_zero, List.set_cons_succ] at hrest
                    refine held_two (i := 8) (j := 9) (by kernel_rfl) rfl rfl rfl rfl (fun K hK => ?_) (fun K hK => ?_)
                    · go_simp
                      have ka := Blk.new wd 86 #[.int .i64 0, .int .i64 0, .int .i64 0, .int .i64 0, .int .i64 0, .int .i64 0, .int .i64 0, .int .i64 0]
                      replace hb9 := hb9.alloc hb9.size (.cells #[.int .i64 0, .int .i64 0, .int .i64 0, .int .i64 0, .int .i64 0, .int .i64 0, .int .i64 0, .int .i64 0] 86)
                      clear hS
                      have hS := hSb.out _ hb9
                      refine hK _ _ hS ?_
                      clear hK K
                      try simp only [Act.put, List.setIfInBounds_toArray, List.set_cons_zero, List.set_cons_succ]
                      generalize wd.heap.size = ga at *
                      generalize wd.alloc (.cells #[.int .i64 0, .int .i64 0, .int .i64 0, .int .i64 0, .int .i64 0, .int .i64 0, .int .i64 0, .int .i64 0] 86) = W5 at *
                      refine held_one (i := 9) (by kernel_rfl) rfl rfl (fun K hK => ?_)
                      go_simp
                      have hne : ga < W5.heap.size := ka.lt
                      have kb := Blk.new W5 86 #[.int .i64 0, .int .i64 0, .int .i64 0, .int .i64 0, .int .i64 0, .int .i64 0, .int .i64 0, .int .i64 0]
                      replace ka := ka.alloc (.cells #[.int .i64 0, .int .i64 0, .int .i64 0, .int .i64 0, .int .i64 0, .int .i64 0, .int .i64 0, .int .i64 0] 86)
                      have hgb := hb9.size
                      skip
                      replace hb9 := hb9.alloc hb9.size (.cells #[.int .i64 0, .int .i64 0, .int .i64 0, .int .i64 0, .int .i64 0, .int .i64 0, .int .i64 0, .int .i64 0] 86)
                      clear hS
                      have hS := hSb.out _ hb9
                      refine hK _ _ hS ?_
                      clear hK K
                      try simp only [Act.put, List.setIfInBounds_toArray, List.set_cons_zero, List.set_cons_succ]
                      generalize W5.heap.size = gb at *
                      generalize W5.alloc (.cells #[.int .i64 0, .int .i64 0, .int .i64 0, .int .i64 0, .int .i64 0, .int .i64 0, .int .i64 0, .int .i64 0] 86) = W6 at *
                      have kz := ka.set8 (.int .i64 R.x.lo) (.int .i64 R.x.hi) (.int .i64 R.y.lo) (.int .i64 R.y.hi) (.int .i64 R.s.lo) (.int .i64 R.s.hi) (.int .i64 R.d.lo) (.int .i64 R.d.hi)
                      have kf := far_set8 kb (show gb ≠ ga by omega) (.int .i64 R.x.lo) (.int .i64 R.x.hi) (.int .i64 R.y.lo) (.int .i64 R.y.hi) (.int .i64 R.s.lo) (.int .i64 R.s.hi) (.int .i64 R.d.lo) (.int .i64 R.d.hi)
                      have bz := below_set8 (g := ga) hb9 (by omega) (.int .i64 R.x.lo) (.int .i64 R.x.hi) (.int .i64 R.y.lo) (.int .i64 R.y.hi) (.int .i64 R.s.lo) (.int .i64 R.s.hi) (.int .i64 R.d.lo) (.int .i64 R.d.hi)
                      obtain ⟨wz, hwz⟩ : ∃ x, x = set8 W6 ga (.int .i64 R.x.lo) (.int .i64 R.x.hi) (.int .i64 R.y.lo) (.int .i64 R.y.hi) (.int .i64 R.s.lo) (.int .i64 R.s.hi) (.int .i64 R.d.lo) (.int .i64 R.d.hi) := ⟨_, rfl⟩
                      rw [← hwz] at kz kf bz
                      simp only [set8] at hwz
                      obtain ⟨c14, f14, l14⟩ := ka.rules
                      refine held_one (i := 10) (by kernel_rfl) rfl rfl (fun K hK => ?_)
                      go_simp
                      rw [← hwz]
                      clear hwz c14 f14 l14 hS
                      have hS := hSb.out _ bz
                      refine hK _ _ hS ?_
                      clear hK K
                      try simp only [Act.put, List.setIfInBounds_toArray, List.set_cons_zero, List.set_cons_succ]
                      have kz2 := kf.set8 (.int .i64 R2.x.lo) (.int .i64 R2.x.hi) (.int .i64 R2.y.lo) (.int .i64 R2.y.hi) (.int .i64 R2.s.lo) (.int .i64 R2.s.hi) (.int .i64 R2.d.lo) (.int .i64 R2.d.hi)
                      have kf2 := far_set8 kz (show ga ≠ gb by omega) (.int .i64 R2.x.lo) (.int .i64 R2.x.hi) (.int .i64 R2.y.lo) (.int .i64 R2.y.hi) (.int .i64 R2.s.lo) (.int .i64 R2.s.hi) (.int .i64 R2.d.lo) (.int .i64 R2.d.hi)
                      have bz2 := below_set8 (g := gb) bz (by omega) (.int .i64 R2.x.lo) (.int .i64 R2.x.hi) (.int .i64 R2.y.lo) (.int .i64 R2.y.hi) (.int .i64 R2.s.lo) (.int .i64 R2.s.hi) (.int .i64 R2.d.lo) (.int .i64 R2.d.hi)
                      obtain ⟨wy, hwy⟩ : ∃ x, x = set8 wz gb (.int .i64 R2.x.lo) (.int .i64 R2.x.hi) (.int .i64 R2.y.lo) (.int .i64 R2.y.hi) (.int .i64 R2.s.lo) (.int .i64 R2.s.hi) (.int .i64 R2.d.lo) (.int .i64 R2.d.hi) := ⟨_, rfl⟩
                      rw [← hwy] at kz2 kf2 bz2
                      simp only [set8] at hwy
                      obtain ⟨c15, f15, l15⟩ := kf.rules
                      refine held_one (i := 11) (by kernel_rfl) rfl rfl (fun K hK => ?_)
                      go_simp
                      rw [← hwy]
                      clear hwy c15 f15 l15 hS
                      refine hK _ _ (hSb.out _ bz2) ?_
                      clear hK K
                      refine wpAnyH_done (by kernel_rfl) (hrest (ga, gb) _ ⟨kf2, kz2, bz2⟩) _
                    · go_simp
                      have ka := Blk.new wd 86 #[.int .i64 0, .int .i64 0, .int .i64 0, .int .i64 0, .int .i64 0, .int .i64 0, .int .i64 0, .int .i64 0]
                      replace hb9 := hb9.alloc hb9.size (.cells #[.int .i64 0, .int .i64 0, .int .i64 0, .int .i64 0, .int .i64 0, .int .i64 0, .int .i64 0, .int .i64 0] 86)
                      clear hS
                      have hS := hSb.out _ hb9
                      refine hK _ _ hS ?_
                      clear hK K
                      try simp only [Act.put, List.setIfInBounds_toArray, List.set_cons_zero, List.set_cons_succ]
                      generalize wd.heap.size = ga at *
                      generalize wd.alloc (.cells #[.int .i64 0, .int .i64 0, .int .i64 0, .int .i64 0, .int .i64 0, .int .i64 0, .int .i64 0, .int .i64 0] 86) = W5 at *
                      refine held_one (i := 8) (by kernel_rfl) rfl rfl (fun K hK => ?_)
                      go_simp
                      have hne : ga < W5.heap.size := ka.lt
                      have kb := Blk.new W5 86 #[.int .i64 0, .int .i64 0, .int .i64 0, .int .i64 0, .int .i64 0, .int .i64 0, .int .i64 0, .int .i64 0]
                      replace ka := ka.alloc (.cells #[.int .i64 0, .int .i64 0, .int .i64 0, .int .i64 0, .int .i64 0, .int .i64 0, .int .i64 0, .int .i64 0] 86)
                      have hgb := hb9.size
                      skip
                      replace hb9 := hb9.alloc hb9.size (.cells #[.int .i64 0, .int .i64 0, .int .i64 0, .int .i64 0, .int .i64 0, .int .i64 0, .int .i64 0, .int .i64 0] 86)
                      clear hS
                      have hS := hSb.out _ hb9
                      refine hK _ _ hS ?_
                      clear hK K
                      try simp only [Act.put, List.setIfInBounds_toArray, List.set_cons_zero, List.set_cons_succ]
                      generalize W5.heap.size = gb at *
                      generalize W5.alloc (.cells #[.int .i64 0, .int .i64 0, .int .i64 0, .int .i64 0, .int .i64 0, .int .i64 0, .int .i64 0, .int .i64 0] 86) = W6 at *
                      have kz := kb.set8 (.int .i64 R.x.lo) (.int .i64 R.x.hi) (.int .i64 R.y.lo) (.int .i64 R.y.hi) (.int .i64 R.s.lo) (.int .i64 R.s.hi) (.int .i64 R.d.lo) (.int .i64 R.d.hi)
                      have kf := far_set8 ka (show ga ≠ gb by omega) (.int .i64 R.x.lo) (.int .i64 R.x.hi) (.int .i64 R.y.lo) (.int .i64 R.y.hi) (.int .i64 R.s.lo) (.int .i64 R.s.hi) (.int .i64 R.d.lo) (.int .i64 R.d.hi)
                      have bz := below_set8 (g := gb) hb9 (by omega) (.int .i64 R.x.lo) (.int .i64 R.x.hi) (.int .i64 R.y.lo) (.int .i64 R.y.hi) (.int .i64 R.s.lo) (.int .i64 R.s.hi) (.int .i64 R.d.lo) (.int .i64 R.d.hi)
                      obtain ⟨wz, hwz⟩ : ∃ x, x = set8 W6 gb (.int .i64 R.x.lo) (.int .i64 R.x.hi) (.int .i64 R.y.lo) (.int .i64 R.y.hi) (.int .i64 R.s.lo) (.int .i64 R.s.hi) (.int .i64 R.d.lo) (.int .i64 R.d.hi) := ⟨_, rfl⟩
                      rw [← hwz] at kz kf bz
                      simp only [set8] at hwz
                      obtain ⟨c14, f14, l14⟩ := kb.rules
                      refine held_one (i := 10) (by kernel_rfl) rfl rfl (fun K hK => ?_)
                      go_simp
                      rw [← hwz]
                      clear hwz c14 f14 l14 hS
                      have hS := hSb.out _ bz
                      refine hK _ _ hS ?_
                      clear hK K
                      try simp only [Act.put, List.setIfInBounds_toArray, List.set_cons_zero, List.set_cons_succ]
                      have kz2 := kf.set8 (.int .i64 R2.x.lo) (.int .i64 R2.x.hi) (.int .i64 R2.y.lo) (.int .i64 R2.y.hi) (.int .i64 R2.s.lo) (.int .i64 R2.s.hi) (.int .i64 R2.d.lo) (.int .i64 R2.d.hi)
                      have kf2 := far_set8 kz (show gb ≠ ga by omega) (.int .i64 R2.x.lo) (.int .i64 R2.x.hi) (.int .i64 R2.y.lo) (.int .i64 R2.y.hi) (.int .i64 R2.s.lo) (.int .i64 R2.s.hi) (.int .i64 R2.d.lo) (.int .i64 R2.d.hi)
                      have bz2 := below_set8 (g := ga) bz (by omega) (.int .i64 R2.x.lo) (.int .i64 R2.x.hi) (.int .i64 R2.y.lo) (.int .i64 R2.y.hi) (.int .i64 R2.s.lo) (.int .i64 R2.s.hi) (.int .i64 R2.d.lo) (.int .i64 R2.d.hi)
                      obtain ⟨wy, hwy⟩ : ∃ x, x = set8 wz ga (.int .i64 R2.x.lo) (.int .i64 R2.x.hi) (.int .i64 R2.y.lo) (.int .i64 R2.y.hi) (.int .i64 R2.s.lo) (.int .i64 R2.s.hi) (.int .i64 R2.d.lo) (.int .i64 R2.d.hi) := ⟨_, rfl⟩
                      rw [← hwy] at kz2 kf2 bz2
                      simp only [set8] at hwy
                      obtain ⟨c15, f15, l15⟩ := kf.rules
                      refine held_one (i := 11) (by kernel_rfl) rfl rfl (fun K hK => ?_)
                      go_simp
                      rw [← hwy]
                      clear hwy c15 f15 l15 hS
                      refine hK _ _ (hSb.out _ bz2) ?_
                      clear hK K
                      refine wpAnyH_done (by kernel_rfl) (hrest (gb, ga) _ ⟨kf2, kz2, bz2⟩) _
                · obtain rfl : j = k := by omega
                  have hbel := hb
                  replace k3 := k3.below hbel
                  replace k4 := k4.below hbel
                  replace b := b.trans (hbel.mono b.size)
                  replace hs := hs.below hbel
                  replace hl := hl.below hbel
                  clear hbel
                  go_wp2_with fail
                  refine (works_any _).mono ?_
                  rintro e W ⟨rfl, hbel⟩
                  go_wp2
                  go_ret
                  exact ⟨rfl, b.trans (hbel.mono b.size)⟩
            · have hv2 := hno2.out hq2
              simp only [hv2] at hW2
              clear hv2
              replace hq2 := Lib.hid hq2
              refine (hW2 _ hs hl).mono ?_
              clear hW2
              rintro e W2 ⟨P3, n3, m3, rfl, hr3, hbel⟩
              replace k3 := k3.below hbel
              replace k4 := k4.below hbel
              replace b := b.trans (hbel.mono b.size)
              replace hs := hs.below hbel
              replace hl := hl.below hbel
              clear hbel
              go_wp2_with fail
              refine (works_any _).mono ?_
              rintro e W ⟨rfl, hbel⟩
              go_wp2
              go_ret
              exact ⟨rfl, b.trans (hbel.mono b.size)⟩
      · exact absurd trivial hTrue
    · have hv1 : whereR s bs p ⟨1, 0, 1⟩ = ([], (whereR s bs p ⟨1, 0, 1⟩).2) := by rw [← whereR_nil hq1]
      rw [hv1] at hW1
      generalize (whereR s bs p ⟨1, 0, 1⟩).2 = er at *
      have he2 : (er != 0) = true := by rw [bne_iff_ne]; exact hq1
      replace hq1 := Lib.hid hq1
      replace he := Lib.hid he
      clear hv1 hW2 e1
      go_enter Try.func15, Try.ntmps15
      go_wp2_with fail
      rw [← hw1]
      clear hw1
      refine (hNo _ hs hl).mono ?_
      clear hNo
      rintro e W ⟨P1, n1, m1, rfl, hr1, hbel⟩
      replace k3 := k3.below hbel
      replace k4 := k4.below hbel
      replace b := b.trans (hbel.mono b.size)
      replace hs := hs.below hbel
      replace hl := hl.below hbel
      clear hbel
      replace hr1 := hr1.mono (Nat.zero_le _)
      obtain ⟨c3, f3, l3⟩ := k3.rules
      obtain ⟨c4, f4, l4⟩ := k4.rules
      go_wp2_with fail
      clear c3 f3 l3 c4 f4 l4
      refine (hW1 _ hs hl).mono ?_
      clear hW1
      rintro e W ⟨P2, n2, m2, rfl, hr2, hbel⟩
      replace k3 := k3.below hbel
      replace k4 := k4.below hbel
      replace b := b.trans (hbel.mono b.size)
      replace hs := hs.below hbel
      replace hl := hl.below hbel
      replace hr1 := hr1.below hbel
      clear hbel
      replace hr2 := hr2.mono (Nat.zero_le _)
      obtain rfl : n2 = 0 := hr2.len.symm
      go_wp2_with fail
      refine (works_any _).mono ?_
      rintro e W ⟨rfl, hbel⟩
      go_wp2
      go_ret
      exact ⟨rfl, b.trans (hbel.mono b.size)⟩
  · have e1 : nodesR s bs = ([], errB s bs) := by rw [nodesR, if_neg he]
    have e2 : whereR s bs p ⟨1, 0, 1⟩ = ([], errB s bs) := by rw [whereR, if_neg he]
    simp only [e1] at hNo
    simp only [e2] at hW1
    generalize errB s bs = er at *
    have he2 : (er != 0) = true := by rw [bne_iff_ne]; exact he
    replace he := Lib.hid he
    clear e1 e2 hW2
    go_enter Try.func15, Try.ntmps15
    go_wp2_with fail
    rw [← hw1]
    clear hw1
    refine (hNo _ hs hl).mono ?_
    clear hNo
    rintro e W ⟨P1, n1, m1, rfl, hr1, hbel⟩
    replace k3 := k3.below hbel
    replace k4 := k4.below hbel
    replace b := b.trans (hbel.mono b.size)
    replace hs := hs.below hbel
    replace hl := hl.below hbel
    clear hbel
    replace hr1 := hr1.mono (Nat.zero_le _)
    obtain ⟨c3, f3, l3⟩ := k3.rules
    obtain ⟨c4, f4, l4⟩ := k4.rules
    go_wp2_with fail
    clear c3 f3 l3 c4 f4 l4
    refine (hW1 _ hs hl).mono ?_
    clear hW1
    rintro e W ⟨P2, n2, m2, rfl, hr2, hbel⟩
    replace k3 := k3.below hbel
    replace k4 := k4.below hbel
    replace b := b.trans (hbel.mono b.size)
    replace hs := hs.below hbel
    replace hl := hl.below hbel
    replace hr1 := hr1.below hbel
    clear hbel
    replace hr2 := hr2.mono (Nat.zero_le _)
    obtain rfl : n2 = 0 := hr2.len.symm
    go_wp2_with fail
    refine (works_any _).mono ?_
    rintro e W ⟨rfl, hbel⟩
    go_wp2
    go_ret
    exact ⟨rfl, b.trans (hbel.mono b.size)⟩
end Go.Proofs.Ytjiaepphnddpoaa
