/-
  The law TowRises.
-/
import Derived.Test.YtjiaepphnddpoaaE1
import Derived.Test.YtjiaepphnddpoaaH3
import Derived.Test.YtjiaepphnddpoaaM6
import Derived.Test.YtjiaepphnddpoaaFin
namespace Go.Proofs.Ytjiaepphnddpoaa
open Go.RowKit Go.Shelf
set_option linter.unusedSimpArgs false
set_option linter.unusedVariables false

theorem stepR_err {s : Strm} {o d : List Int} (h : (stepR s o d).2 ≠ 0) : (stepR s o d).1 = [] := by
  unfold stepR at *
  split
  · rename_i h1
    rw [if_pos h1] at h
    split
    · rename_i h2
      rw [if_pos h2] at h
      split
      · rename_i h3
        rw [if_pos h3] at h; exact absurd rfl h
      · rfl
    · rfl
  · rfl
theorem own_mono {w : World} {B B' : Nat} {e : TypeId} {size : Nat} {v : Value} {n : Nat} {xs : List Value} (h : w.ownsRow B e size v n xs) (hB : B' ≤ B) : w.ownsRow B' e size v n xs := by
  refine ⟨h.1, ?_⟩
  rcases h.2 with h2 | ⟨g, cap, cur, h2, h3, h4⟩
  · exact .inl h2
  · exact .inr ⟨g, cap, cur, h2, Nat.le_trans hB h3, h4⟩
theorem okNums_bd0 {s : Strm} {o d : List Int} (he : (stepR s o d).2 = 0) : ∀ x ∈ o, -16384 ≤ x ∧ x ≤ 16384 := by
  intro x hx
  unfold stepR at he
  by_cases h1 : okStrm s = true
  · rw [if_pos h1] at he
    by_cases h2 : okNums s o 16384 = true
    · exact of_decide_eq_true (List.all_eq_true.1 (okNums_all h2) x hx)
    · rw [if_neg h2] at he; simp at he
  · rw [if_neg h1] at he; simp at he
theorem okNums_bd1 {s : Strm} {o d : List Int} (he : (stepR s o d).2 = 0) : ∀ x ∈ d, -100 ≤ x ∧ x ≤ 100 := by
  intro x hx
  unfold stepR at he
  by_cases h1 : okStrm s = true
  · rw [if_pos h1] at he
    by_cases h2 : okNums s o 16384 = true
    · rw [if_pos h2] at he
      by_cases h3 : okNums s d 100 = true
      · exact of_decide_eq_true (List.all_eq_true.1 (okNums_all h3) x hx)
      · rw [if_neg h3] at he; simp at he
    · rw [if_neg h2] at he; simp at he
  · rw [if_neg h1] at he; simp at he
set_option maxRecDepth 100000 in
set_option maxHeartbeats 2000000 in
theorem TowRises_any (s : Strm) (A O D : Option Addr) (n c no co nd cd : Nat) (o d : List Int) (i0 i1 : Int) (w : World) (hs : SlAt w 0 5 Sec.cells A n c s.secs) (ho : SlAt w 0 1 ivs O no co o) (hd : SlAt w 0 1 ivs D nd cd d) :
    Calls Try.prog 7 #[.agg #[.int .i64 s.head, .slice A n c, .int .i64 s.lane.lo, .int .i64 s.lane.hi, .int .i64 s.bend], .agg #[.slice O no co, .slice D nd cd], .agg #[.int .i64 i0, .int .i64 i1]] w fun e w' => e = .returned (.bool true) ∧ Below w.heap.size w w' := by
  obtain ⟨w0, hw0⟩ : ∃ w0, w0 = w.alloc (.cells #[.int .i64 s.head, .slice A n c, .int .i64 s.lane.lo, .int .i64 s.lane.hi, .int .i64 s.bend] 26) := ⟨_, rfl⟩
  have z0 : w0.heap.size = w.heap.size + 1 := by rw [hw0, World.size_alloc]
  obtain ⟨w9, hw9⟩ : ∃ w9, w9 = w0.alloc (.cells #[.slice O no co, .slice D nd cd] 53) := ⟨_, rfl⟩
  have z9 : w9.heap.size = w.heap.size + 1 + 1 := by rw [hw9, World.size_alloc, z0]
  obtain ⟨w1, hw1⟩ : ∃ w1, w1 = w9.alloc (.cells #[.int .i64 i0, .int .i64 i1] 54) := ⟨_, rfl⟩
  have k3 : Blk w1 w.heap.size 26 #[.int .i64 s.head, .slice A n c, .int .i64 s.lane.lo, .int .i64 s.lane.hi, .int .i64 s.bend] := by rw [hw1, hw9, hw0]; exact ((Blk.new _ _ _).alloc _).alloc _
  have k4 : Blk w1 (w.heap.size + 1) 53 #[.slice O no co, .slice D nd cd] := by have := Blk.new w0 53 #[.slice O no co, .slice D nd cd]; rw [← hw9, z0] at this; rw [hw1]; exact this.alloc _
  have k5 : Blk w1 (w.heap.size + 1 + 1) 54 #[.int .i64 i0, .int .i64 i1] := by have := Blk.new w9 54 #[.int .i64 i0, .int .i64 i1]; rw [← hw1, z9] at this; exact this
  have b : Below w.heap.size w w1 := by rw [hw1, hw9, hw0]; exact (((Below.refl _ _).alloc (Nat.le_refl _) _).alloc (by simp) _).alloc (by simp; omega) _
  replace hs : SlAt w1 0 5 Sec.cells A n c s.secs := by rw [hw1, hw9, hw0]; exact ((hs.alloc _).alloc _).alloc _
  replace ho : SlAt w1 0 1 ivs O no co o := by rw [hw1, hw9, hw0]; exact ((ho.alloc _).alloc _).alloc _
  replace hd : SlAt w1 0 1 ivs D nd cd d := by rw [hw1, hw9, hw0]; exact ((hd.alloc _).alloc _).alloc _
  rw [hw9, hw0] at hw1
  clear hw9 hw0 z0 z9
  have hSt := fun W h1 h2 h3 => Step_any s A O D n c no co nd cd 0 0 0 o d W h1 h2 h3
  by_cases he : (stepR s o d).2 = 0
  · have hri := fun p e h1 h2 => rises (p := p) (e := e) he h1 h2
    replace hri := Lib.hid hri
    have hlens : o.length = s.secs.length ∧ d.length = s.secs.length ∧ okStrm s = true ∧ stepR s o d = (stepL s o d, 0) := by
      unfold stepR at he
      by_cases h1 : okStrm s = true
      · rw [if_pos h1] at he
        by_cases h2 : okNums s o 16384 = true
        · rw [if_pos h2] at he
          by_cases h3 : okNums s d 100 = true
          · exact ⟨okNums_len h2, okNums_len h3, h1, by rw [stepR, if_pos h1, if_pos h2, if_pos h3]⟩
          · rw [if_neg h3] at he; simp at he
        · rw [if_neg h2] at he; simp at he
      · rw [if_neg h1] at he; simp at he
    obtain ⟨hl1, hl2, hst, e4⟩ := hlens
    obtain rfl : n = no := by have := ho.len; have := hs.len; omega
    obtain rfl : n = nd := by have := hd.len; have := hs.len; omega
    have hn8 : 1 ≤ n ∧ n ≤ 8 := by have := ok_head hst; unfold headOk at this; have := hs.len; omega
    simp only [e4] at hSt
    have hst0 : Hid ((stepR s o d).1 = stepL s o d) := by show _ = _; rw [e4]
    clear e4
    have hlim0 := Lib.hid (fun x hx => okNums_bd0 he x hx)
    have hlim1 := Lib.hid (fun x hx => okNums_bd1 he x hx)
    replace he := Lib.hid he
    replace hst := Lib.hid hst
    replace hl1 := Lib.hid hl1
    replace hl2 := Lib.hid hl2
    go_enter Try.func7, Try.ntmps7
    go_wp2_with fail
    rw [← hw1]
    clear hw1
    refine (hSt _ hs ho hd).mono ?_
    clear hSt
    rintro e W ⟨P1, n1, m1, rfl, hr1, hbel⟩
    obtain rfl : n = n1 := by have h9 : (stepL s o d).length = n1 := hr1.len; have h8 : (stepL s o d).length = o.length := eachL_length _ _ _; have := ho.len; omega
    replace k3 := k3.below hbel
    replace k4 := k4.below hbel
    replace k5 := k5.below hbel
    replace b := b.trans (hbel.mono b.size)
    replace hs := hs.below hbel
    replace ho := ho.below hbel
    replace hd := hd.below hbel
    clear hbel
    go_wp2_with fail
    refine wp_held_np (fun w' : World => (∀ j, w'.cell? ⟨w.heap.size + 1, j, none⟩ = #[Value.slice O n co, .slice D n cd][j]?) ∧ True) (by kernel_rfl) ?_
    have hbel : Below W.heap.size W W.drew := (Below.refl _ _).drew
    replace hr1 := hr1.below hbel
    replace k3 := k3.below hbel
    replace k4 := k4.below hbel
    replace k5 := k5.below hbel
    replace b := b.trans (hbel.mono b.size)
    replace hs := hs.below hbel
    replace ho := ho.below hbel
    replace hd := hd.below hbel
    clear hbel
    generalize W.drew = W at *
    have hS : (fun w' : World => (∀ j, w'.cell? ⟨w.heap.size + 1, j, none⟩ = #[Value.slice O n co, .slice D n cd][j]?) ∧ True) W := ⟨k4.cell, trivial⟩
    refine held_take (i := 0) (v := ?_) 33 rfl rfl (by kernel_rfl) (by kernel_rfl) (by kernel_rfl) (fun _ _ _ h => h) (Or.inl ⟨by rfl, ?_⟩) hS ?_
    rotate_left 1
    · intro w' hSw
      try dsimp only at hSw
      obtain ⟨q1, q2⟩ := hSw
      go_simp
      all_goals with_reducible rfl
    try simp only [Act.put, List.setIfInBounds_toArray, List.set_cons_zero, List.set_cons_succ]
    refine held_take (i := 1) (v := ?_) 34 rfl rfl (by kernel_rfl) (by kernel_rfl) (by kernel_rfl) (fun _ _ _ h => h) (Or.inl ⟨by rfl, ?_⟩) hS ?_
    rotate_left 1
    · intro w' hSw
      try dsimp only at hSw
      obtain ⟨q1, q2⟩ := hSw
      go_simp
      all_goals with_reducible rfl
    try simp only [Act.put, List.setIfInBounds_toArray, List.set_cons_zero, List.set_cons_succ]
    refine held_take (i := 3) (v := ?_) 36 rfl rfl (by kernel_rfl) (by kernel_rfl) (by kernel_rfl) (fun _ _ _ h => h) (Or.inl ⟨by rfl, ?_⟩) hS ?_
    rotate_left 1
    · intro w' hSw
      try dsimp only at hSw
      obtain ⟨q1, q2⟩ := hSw
      go_simp
      all_goals with_reducible rfl
    try simp only [Act.put, List.setIfInBounds_toArray, List.set_cons_zero, List.set_cons_succ]
    refine held_take (i := 4) (v := ?_) 37 rfl rfl (by kernel_rfl) (by kernel_rfl) (by kernel_rfl) (fun _ _ _ h => h) (Or.inl ⟨by rfl, ?_⟩) hS ?_
    rotate_left 1
    · intro w' hSw
      try dsimp only at hSw
      obtain ⟨q1, q2⟩ := hSw
      go_simp
      all_goals with_reducible rfl
    try simp only [Act.put, List.setIfInBounds_toArray, List.set_cons_zero, List.set_cons_succ]
    have hol : Hid (o.length = n) := ho.len
    have hdl : Hid (d.length = n) := hd.len
    have hn0 : 0 < n := by omega
    have hn6 : n ≤ 1000000 := by omega
    have hb9 := Below.refl W.heap.size W
    have hsz0 : Hid (w.heap.size + 1 + 1 < W.heap.size) := k5.lt
    have hsz0 := hsz0.out
    have hSb : Hid (∀ W', Below W.heap.size W W' → (fun w' : World => (∀ j, w'.cell? ⟨w.heap.size + 1, j, none⟩ = #[Value.slice O n co, .slice D n cd][j]?) ∧ True) W') := by
      show ∀ _, _
      intro W' hb
      exact ⟨(k4.below hb).cell, trivial⟩
    refine wpAnyH_fin (f := fun a (q : Nat × Nat × Nat × Nat × Nat) => (((a.put (some 35) (.slice (some ⟨q.1, 0, none⟩) n q.2.1)).put (some 38) (.slice (some ⟨q.2.2.1, 0, none⟩) n q.2.2.2.1)).put (some 39) (.agg #[.slice (some ⟨q.1, 0, none⟩) n q.2.1, .slice (some ⟨q.2.2.1, 0, none⟩) n q.2.2.2.1])).put (some 9) (.pointer (some ⟨q.2.2.2.2, 0, none⟩)))
      (B := fun q W' => Blk W' q.2.2.2.2 53 #[.slice (some ⟨q.1, 0, none⟩) n q.2.1, .slice (some ⟨q.2.2.1, 0, none⟩) n q.2.2.2.1] ∧ W'.ownsRow W.heap.size 3 1 (.slice (some ⟨q.1, 0, none⟩) n q.2.1) n (o.map (.int .i64 ·)) ∧ W'.ownsRow W.heap.size 3 1 (.slice (some ⟨q.2.2.1, 0, none⟩) n q.2.2.2.1) n (d.map (.int .i64 ·)) ∧ Below W.heap.size W W' ∧ q.1 ≠ q.2.2.1 ∧ q.1 ≠ q.2.2.2.2 ∧ q.2.2.1 ≠ q.2.2.2.2 ∧ W.heap.size ≤ q.2.2.2.2) ?_ (fun hrest => ?_)
    · rintro ⟨g1, p1, g2, p2, g9⟩ W3 ⟨k9, hown1, hown2, hbel, n12, n19, n29, hg9⟩
      dsimp only at k9 hown1 hown2 n12 n19 n29 hg9
      try simp only [Act.put, List.setIfInBounds_toArray, List.set_cons_zero, List.set_cons_succ]
      refine noPanic_normal ?_
      clear hS hSb hb9
      have hg1 : W.heap.size ≤ g1 := (hown1.lt _ rfl).1
      have hg2 : W.heap.size ≤ g2 := (hown2.lt _ rfl).1
      have hb3 := hbel
      clear hbel
      have k5w := k5.below hb3
      obtain ⟨c5, f5, l5⟩ := k5w.rules
      go_wp2_with fail
      clear c5 f5 l5
      refine (Rest_any i0 2 _ (by omega)).mono ?_
      rintro e W' ⟨rfl, rfl⟩
      have hkk := restS_bd i0 (many := 2) (by omega)
      have hib := restS_bd (wrap64 (i0.tdiv 2)) (many := (n : Int)) (by omega)
      obtain ⟨ii, hii⟩ : ∃ ii : Nat, restS (wrap64 (i0.tdiv 2)) (n : Int) = ii := ⟨(restS (wrap64 (i0.tdiv 2)) (n : Int)).toNat, by omega⟩
      have hin : ii < n := by omega
      have hby := restS_bd i1 (many := 30) (by omega)
      clear hib
      rcases (show restS i0 2 = 0 ∨ restS i0 2 = 1 by omega) with hk | hk
      · rw [hk]
        replace hk := Lib.hid hk
        replace hkk := Lib.hid hkk
        obtain ⟨c5, f5, l5⟩ := k5w.rules
        obtain ⟨c9, f9, l9⟩ := k9.rules
        replace hii := Lib.hid hii
        go_wp2_with fail
        go_quiet ((go_at_call 34; with_reducible exact Calls.quiet_of_same (flip_w (Rest_any _ _ _ (by omega)))))
        have hii := hii.out
        rw [hii]
        replace hii := Lib.hid hii
        generalize restS i1 30 = by_ at *
        clear c5 f5 l5 c9 f9 l9 k5w
        replace k9 := k9.drewN nq
        replace hb3 := below_drewN hb3 nq
        replace hown1 : (W3.drewN nq).ownsRow _ _ _ _ _ _ := hown1
        replace hown2 : (W3.drewN nq).ownsRow _ _ _ _ _ _ := hown2
        generalize W3.drewN nq = W4 at *
        obtain ⟨x, hx⟩ := some_of_lt hol.out hin
        have hxb := hlim0.out x (List.mem_of_getElem? hx)
        obtain ⟨Ax, cx, ex, hslx⟩ := SlAt.of_own (enc := ivs) hown1 (by omega) o (flatMap_ivs _).symm (fun _ => rfl) hol.out
        simp only [Value.slice.injEq] at ex
        obtain ⟨rfl, -, rfl⟩ := ex
        obtain ⟨bx, ox, hA9, -, -, e9⟩ := hslx.int hx
        simp only [Option.some.injEq, Addr.mk.injEq] at hA9
        obtain ⟨rfl, rfl, -⟩ := hA9
        rw [Nat.zero_add] at e9
        have f8 := hown1.frozenAt ii
        clear hslx
        have hii0 : (0 : Int) ≤ (ii : Int) := by omega
        have hii1 : (ii : Int) < (n : Int) := by omega
        have hst := (hown1.stored ii (.int .i64 (x + by_))).1
        rw [← List.map_set] at hst
        have hsv := ownsRow_setCell hown2 (p := ⟨g1, ii, none⟩) (by simp [Value.ownBlock]; omega) (.int .i64 (x + by_))
        have k9s := k9.far (p := ⟨g1, ii, none⟩) (show g9 ≠ g1 by omega) (.int .i64 (x + by_))
        have hb4 := hb3.setCell (p := ⟨g1, ii, none⟩) (show W.heap.size ≤ g1 by omega) (.int .i64 (x + by_))
        have k3w := k3.below hb3
        have k3s := k3.below hb4
        obtain ⟨c9, f9, l9⟩ := k9.rules
        obtain ⟨c3, f3, l3⟩ := k3w.rules
        have hle := hri.out (o.set ii (x + by_)) d (LeL.set hx hby.1) (LeL.refl d)
        replace hx := Lib.hid hx
        replace hle := Lib.hid hle
        go_wp2_with fail
        clear c9 f9 l9 c3 f3 l3 e9 f8
        generalize W4.setCell ⟨g1, ii, none⟩ (.int .i64 (x + by_)) = W5 at *
        have hsw := hs.below hb4
        obtain ⟨A1, c1, e1, hq1⟩ := SlAt.of_own (enc := ivs) hst (by omega) (o.set ii (x + by_)) (flatMap_ivs _).symm (fun _ => rfl) (by simp [hol.out])
        obtain ⟨A2, c2, e2, hq2⟩ := SlAt.of_own (enc := ivs) hsv (by omega) d (flatMap_ivs _).symm (fun _ => rfl) (by simp [hdl.out])
        simp only [Value.slice.injEq] at e1 e2
        obtain ⟨rfl, -, rfl⟩ := e1
        obtain ⟨rfl, -, rfl⟩ := e2
        have hr1w := hr1.below hb4
        replace b := b.trans (hb4.mono b.size)
        have hll : (stepL s o d).length = n := by rw [show (stepL s o d).length = o.length from eachL_length _ _ _]; exact hol.out
        refine (Step_any s A (some ⟨g1, 0, none⟩) (some ⟨g2, 0, none⟩) n c n p1 n p2 0 _ _ (o.set ii (x + by_)) d _ hsw hq1 hq2).mono ?_
        rintro e W6 ⟨P6, n6, m6, rfl, hr6, hbel⟩
        replace b := b.trans (hbel.mono b.size)
        replace hr1w := hr1w.below hbel
        clear hst hsv hq1 hq2 hsw k9 k9s hb3 hb4 k3w k3s
        have hlv := hle.out
        clear hle
        generalize stepR s (o.set ii (x + by_)) d = rr at *
        obtain ⟨L2, e2⟩ := rr
        dsimp only at hlv hr6 ⊢
        rcases hlv with ⟨rfl, rfl⟩ | ⟨rfl, rfl⟩ | ⟨rfl, hLe⟩
        · obtain rfl : n6 = 0 := hr6.len.symm
          go_wp2_with fail
          refine (works_any _).mono ?_
          rintro e W ⟨rfl, hbel⟩
          go_wp2
          go_ret
          exact ⟨rfl, b.trans (hbel.mono b.size)⟩
        · obtain rfl : n6 = 0 := hr6.len.symm
          go_wp2_with fail
          refine (works_any _).mono ?_
          rintro e W ⟨rfl, hbel⟩
          go_wp2
          go_ret
          exact ⟨rfl, b.trans (hbel.mono b.size)⟩
        · have hlen1 := hLe.1
          rw [hst0.out] at hLe hlen1
          obtain rfl : n = n6 := by have h9 : L2.length = n6 := hr6.len; omega
          have hll2 : Hid (L2.length = n) := hr6.len
          replace hr6 := hr6.mono (Nat.zero_le _)
          replace hll := Lib.hid hll
          replace hLe := Lib.hid hLe
          clear hlen1
          go_wp2_with fail
          go_loopw [15] (fun i wr => ∃ j : Nat, i = .int .i64 j ∧ j ≤ n ∧ Below W6.heap.size W6 wr) (fun i wr => n - (intOf i).toNat)
          case atStart => exact ⟨0, rfl, by omega, Below.refl _ _⟩
          case round =>
            obtain ⟨j, rfl, hj, hb⟩ := hrel
            by_cases hlt : j < n
            · obtain ⟨x1, hx1⟩ := some_of_lt hll.out hlt
              obtain ⟨x2, hx2⟩ := some_of_lt hll2.out hlt
              have hxx := hLe.out.2 j x1 x2 hx1 hx2
              obtain ⟨b1, o1, rfl, -, hb1, u1⟩ := hr1w.int hx1
              obtain ⟨b2, o2, rfl, -, hb2, u2⟩ := hr6.int hx2
              replace u1 := (hb.cell (p := ⟨b1, o1 + j, none⟩) hb1).trans u1
              replace u2 := (hb.cell (p := ⟨b2, o2 + j, none⟩) hb2).trans u2
              replace hx1 := Lib.hid hx1
              replace hx2 := Lib.hid hx2
              have hj0 : (0 : Int) ≤ (j : Int) := by omega
              have hj1 : (j : Int) < (n : Int) := by omega
              have hxx2 : decide (x2 < x1) = false := decide_eq_false (by omega)
              go_wp2_with fail
              go_quiet (fail)
              go_wp2_with fail
              go_roundw
              case rel => exact ⟨j + 1, by go_num, by omega, below_drewN hb _⟩
              case measure => simp [intOf]; omega
            · obtain rfl : j = n := by omega
              replace b := b.trans (hb.mono b.size)
              go_wp2_with fail
              refine (works_any _).mono ?_
              rintro e W ⟨rfl, hbel⟩
              go_wp2
              go_ret
              exact ⟨rfl, b.trans (hbel.mono b.size)⟩
      · rw [hk]
        replace hk := Lib.hid hk
        replace hkk := Lib.hid hkk
        obtain ⟨c5, f5, l5⟩ := k5w.rules
        obtain ⟨c9, f9, l9⟩ := k9.rules
        replace hii := Lib.hid hii
        go_wp2_with fail
        go_quiet ((go_at_call 34; with_reducible exact Calls.quiet_of_same (flip_w (Rest_any _ _ _ (by omega)))))
        have hii := hii.out
        rw [hii]
        replace hii := Lib.hid hii
        generalize restS i1 30 = by_ at *
        clear c5 f5 l5 c9 f9 l9 k5w
        replace k9 := k9.drewN nq
        replace hb3 := below_drewN hb3 nq
        replace hown1 : (W3.drewN nq).ownsRow _ _ _ _ _ _ := hown1
        replace hown2 : (W3.drewN nq).ownsRow _ _ _ _ _ _ := hown2
        generalize W3.drewN nq = W4 at *
        obtain ⟨x, hx⟩ := some_of_lt hdl.out hin
        have hxb := hlim1.out x (List.mem_of_getElem? hx)
        obtain ⟨Ax, cx, ex, hslx⟩ := SlAt.of_own (enc := ivs) hown2 (by omega) d (flatMap_ivs _).symm (fun _ => rfl) hdl.out
        simp only [Value.slice.injEq] at ex
        obtain ⟨rfl, -, rfl⟩ := ex
        obtain ⟨bx, ox, hA9, -, -, e9⟩ := hslx.int hx
        simp only [Option.some.injEq, Addr.mk.injEq] at hA9
        obtain ⟨rfl, rfl, -⟩ := hA9
        rw [Nat.zero_add] at e9
        have f8 := hown2.frozenAt ii
        clear hslx
        have hii0 : (0 : Int) ≤ (ii : Int) := by omega
        have hii1 : (ii : Int) < (n : Int) := by omega
        have hst := (hown2.stored ii (.int .i64 (x + by_))).1
        rw [← List.map_set] at hst
        have hsv := ownsRow_setCell hown1 (p := ⟨g2, ii, none⟩) (by simp [Value.ownBlock]; omega) (.int .i64 (x + by_))
        have k9s := k9.far (p := ⟨g2, ii, none⟩) (show g9 ≠ g2 by omega) (.int .i64 (x + by_))
        have hb4 := hb3.setCell (p := ⟨g2, ii, none⟩) (show W.heap.size ≤ g2 by omega) (.int .i64 (x + by_))
        have k3w := k3.below hb3
        have k3s := k3.below hb4
        obtain ⟨c9, f9, l9⟩ := k9.rules
        obtain ⟨c3, f3, l3⟩ := k3w.rules
        have hle := hri.out o (d.set ii (x + by_)) (LeL.refl o) (LeL.set hx hby.1)
        replace hx := Lib.hid hx
        replace hle := Lib.hid hle
        go_wp2_with fail
        clear c9 f9 l9 c3 f3 l3 e9 f8
        generalize W4.setCell ⟨g2, ii, none⟩ (.int .i64 (x + by_)) = W5 at *
        have hsw := hs.below hb4
        obtain ⟨A1, c1, e1, hq1⟩ := SlAt.of_own (enc := ivs) hsv (by omega) o (flatMap_ivs _).symm (fun _ => rfl) (by simp [hol.out])
        obtain ⟨A2, c2, e2, hq2⟩ := SlAt.of_own (enc := ivs) hst (by omega) (d.set ii (x + by_)) (flatMap_ivs _).symm (fun _ => rfl) (by simp [hdl.out])
        simp only [Value.slice.injEq] at e1 e2
        obtain ⟨rfl, -, rfl⟩ := e1
        obtain ⟨rfl, -, rfl⟩ := e2
        have hr1w := hr1.below hb4
        replace b := b.trans (hb4.mono b.size)
        have hll : (stepL s o d).length = n := by rw [show (stepL s o d).length = o.length from eachL_length _ _ _]; exact hol.out
        refine (Step_any s A (some ⟨g1, 0, none⟩) (some ⟨g2, 0, none⟩) n c n p1 n p2 0 _ _ o (d.set ii (x + by_)) _ hsw hq1 hq2).mono ?_
        rintro e W6 ⟨P6, n6, m6, rfl, hr6, hbel⟩
        replace b := b.trans (hbel.mono b.size)
        replace hr1w := hr1w.below hbel
        clear hst hsv hq1 hq2 hsw k9 k9s hb3 hb4 k3w k3s
        have hlv := hle.out
        clear hle
        generalize stepR s o (d.set ii (x + by_)) = rr at *
        obtain ⟨L2, e2⟩ := rr
        dsimp only at hlv hr6 ⊢
        rcases hlv with ⟨rfl, rfl⟩ | ⟨rfl, rfl⟩ | ⟨rfl, hLe⟩
        · obtain rfl : n6 = 0 := hr6.len.symm
          go_wp2_with fail
          refine (works_any _).mono ?_
          rintro e W ⟨rfl, hbel⟩
          go_wp2
          go_ret
          exact ⟨rfl, b.trans (hbel.mono b.size)⟩
        · obtain rfl : n6 = 0 := hr6.len.symm
          go_wp2_with fail
          refine (works_any _).mono ?_
          rintro e W ⟨rfl, hbel⟩
          go_wp2
          go_ret
          exact ⟨rfl, b.trans (hbel.mono b.size)⟩
        · have hlen1 := hLe.1
          rw [hst0.out] at hLe hlen1
          obtain rfl : n = n6 := by have h9 : L2.length = n6 := hr6.len; omega
          have hll2 : Hid (L2.length = n) := hr6.len
          replace hr6 := hr6.mono (Nat.zero_le _)
          replace hll := Lib.hid hll
          replace hLe := Lib.hid hLe
          clear hlen1
          go_wp2_with fail
          go_loopw [15] (fun i wr => ∃ j : Nat, i = .int .i64 j ∧ j ≤ n ∧ Below W6.heap.size W6 wr) (fun i wr => n - (intOf i).toNat)
          case atStart => exact ⟨0, rfl, by omega, Below.refl _ _⟩
          case round =>
            obtain ⟨j, rfl, hj, hb⟩ := hrel
            by_cases hlt : j < n
            · obtain ⟨x1, hx1⟩ := some_of_lt hll.out hlt
              obtain ⟨x2, hx2⟩ := some_of_lt hll2.out hlt
              have hxx := hLe.out.2 j x1 x2 hx1 hx2
              obtain ⟨b1, o1, rfl, -, hb1, u1⟩ := hr1w.int hx1
              obtain ⟨b2, o2, rfl, -, hb2, u2⟩ := hr6.int hx2
              replace u1 := (hb.cell (p := ⟨b1, o1 + j, none⟩) hb1).trans u1
              replace u2 := (hb.cell (p := ⟨b2, o2 + j, none⟩) hb2).trans u2
              replace hx1 := Lib.hid hx1
              replace hx2 := Lib.hid hx2
              have hj0 : (0 : Int) ≤ (j : Int) := by omega
              have hj1 : (j : Int) < (n : Int) := by omega
              have hxx2 : decide (x2 < x1) = false := decide_eq_false (by omega)
              go_wp2_with fail
              go_quiet (fail)
              go_wp2_with fail
              go_roundw
              case rel => exact ⟨j + 1, by go_num, by omega, below_drewN hb _⟩
              case measure => simp [intOf]; omega
            · obtain rfl : j = n := by omega
              replace b := b.trans (hb.mono b.size)
              go_wp2_with fail
              refine (works_any _).mono ?_
              rintro e W ⟨rfl, hbel⟩
              go_wp2
              go_ret
              exact ⟨rfl, b.trans (hbel.mono b.size)⟩
    · try simp only [Act.put, List.setIfInBounds_toArray, List.set_cons_zero, List.set_cons_succ] at hrest
      refine held_two (i := 2) (j := 7) (by kernel_rfl) rfl rfl rfl rfl (fun K hK => ?_) (fun K hK => ?_)
      · go_simp
        refine (Own_any o O n co 0 _ hn0 hn6 (ho.below hb9)).mono ?_
        rintro e X1 ⟨g1, p1, rfl, hown1, hbel⟩
        have lo1 : W.heap.size ≤ g1 := (hown1.lt _ rfl).1
        have sz1 := hbel.size
        replace hown1 := own_mono hown1 hb9.size
        replace hb9 := hb9.trans (hbel.mono hb9.size)
        have hi1 : g1 < X1.heap.size := (hown1.lt _ rfl).2
        clear hS hbel
        have hS := hSb.out _ hb9
        refine hK _ _ hS ?_
        clear hK K
        try simp only [Act.put, List.setIfInBounds_toArray, List.set_cons_zero, List.set_cons_succ]
        refine held_two (i := 5) (j := 7) (by kernel_rfl) rfl rfl rfl rfl (fun K hK => ?_) (fun K hK => ?_)
        · go_simp
          refine (Own_any d D n cd 0 _ hn0 hn6 (hd.below hb9)).mono ?_
          rintro e X2 ⟨g2, p2, rfl, hown2, hbel⟩
          have lo2 : X1.heap.size ≤ g2 := (hown2.lt _ rfl).1
          have sz2 := hbel.size
          replace hown2 := own_mono hown2 hb9.size
          replace hown1 := ownsRow_below hown1 hbel
          replace hb9 := hb9.trans (hbel.mono hb9.size)
          have hi2 : g2 < X2.heap.size := (hown2.lt _ rfl).2
          clear hS hbel
          have hS := hSb.out _ hb9
          refine hK _ _ hS ?_
          clear hK K
          try simp only [Act.put, List.setIfInBounds_toArray, List.set_cons_zero, List.set_cons_succ]
          refine held_take (i := 6) (v := ?_) 39 rfl rfl (by kernel_rfl) (by kernel_rfl) (by kernel_rfl) (fun _ _ _ h => h) (Or.inl ⟨by rfl, ?_⟩) hS ?_
          rotate_left 1
          · intro w' hSw
            try dsimp only at hSw
            obtain ⟨q1, q2⟩ := hSw
            go_simp
            all_goals with_reducible rfl
          try simp only [Act.put, List.setIfInBounds_toArray, List.set_cons_zero, List.set_cons_succ]
          refine held_one (i := 7) (by kernel_rfl) rfl rfl (fun K hK => ?_)
          go_simp
          have k9 := Blk.new X2 53 #[.slice none 0 0, .slice none 0 0]
          replace hown1 := hown1.alloc (.cells #[.slice none 0 0, .slice none 0 0] 53)
          replace hown2 := hown2.alloc (.cells #[.slice none 0 0, .slice none 0 0] 53)
          replace hb9 := hb9.alloc hb9.size (.cells #[.slice none 0 0, .slice none 0 0] 53)
          clear hS
          have hS := hSb.out _ hb9
          refine hK _ _ hS ?_
          clear hK K
          try simp only [Act.put, List.setIfInBounds_toArray, List.set_cons_zero, List.set_cons_succ]
          generalize X2.heap.size = g9 at *
          have sz9 := k9.lt
          generalize hY : X2.alloc (.cells #[.slice none 0 0, .slice none 0 0] 53) = Y at *
          clear hY
          have kz := (k9.set_ 0 (.slice (some ⟨g1, 0, none⟩) n p1)).set_ 1 (.slice (some ⟨g2, 0, none⟩) n p2)
          simp only [List.setIfInBounds_toArray, List.set_cons_zero, List.set_cons_succ] at kz
          have hz1 := ownsRow_setCell (ownsRow_setCell hown1 (p := ⟨g9, 0, none⟩) (by simp [Value.ownBlock]; omega) (.slice (some ⟨g1, 0, none⟩) n p1)) (p := ⟨g9, 1, none⟩) (by simp [Value.ownBlock]; omega) (.slice (some ⟨g2, 0, none⟩) n p2)
          have hz2 := ownsRow_setCell (ownsRow_setCell hown2 (p := ⟨g9, 0, none⟩) (by simp [Value.ownBlock]; omega) (.slice (some ⟨g1, 0, none⟩) n p1)) (p := ⟨g9, 1, none⟩) (by simp [Value.ownBlock]; omega) (.slice (some ⟨g2, 0, none⟩) n p2)
          have bz := (hb9.setCell (p := ⟨g9, 0, none⟩) (show W.heap.size ≤ g9 by have := hsz0; omega) (.slice (some ⟨g1, 0, none⟩) n p1)).setCell (p := ⟨g9, 1, none⟩) (show W.heap.size ≤ g9 by have := hsz0; omega) (.slice (some ⟨g2, 0, none⟩) n p2)
          obtain ⟨c9, f9, l9⟩ := k9.rules
          refine held_one (i := 8) (by kernel_rfl) rfl rfl (fun K hK => ?_)
          go_simp
          refine hK _ _ (hSb.out _ bz) ?_
          clear hK K
          refine wpAnyH_done (by kernel_rfl) (hrest (g1, p1, g2, p2, g9) _ ⟨kz, hz1, hz2, bz, by dsimp only; omega, by dsimp only; omega, by dsimp only; omega, by dsimp only; omega⟩) _
        · go_simp
          have k9 := Blk.new X1 53 #[.slice none 0 0, .slice none 0 0]
          replace hown1 := hown1.alloc (.cells #[.slice none 0 0, .slice none 0 0] 53)
          replace hb9 := hb9.alloc hb9.size (.cells #[.slice none 0 0, .slice none 0 0] 53)
          clear hS
          have hS := hSb.out _ hb9
          refine hK _ _ hS ?_
          clear hK K
          try simp only [Act.put, List.setIfInBounds_toArray, List.set_cons_zero, List.set_cons_succ]
          generalize X1.heap.size = g9 at *
          have sz9 := k9.lt
          generalize hY : X1.alloc (.cells #[.slice none 0 0, .slice none 0 0] 53) = Y at *
          clear hY
          refine held_one (i := 5) (by kernel_rfl) rfl rfl (fun K hK => ?_)
          go_simp
          refine (Own_any d D n cd 0 _ hn0 hn6 (hd.below hb9)).mono ?_
          rintro e X2 ⟨g2, p2, rfl, hown2, hbel⟩
          have lo2 : Y.heap.size ≤ g2 := (hown2.lt _ rfl).1
          have sz2 := hbel.size
          replace hown2 := own_mono hown2 hb9.size
          replace hown1 := ownsRow_below hown1 hbel
          replace k9 := k9.below hbel
          replace hb9 := hb9.trans (hbel.mono hb9.size)
          have hi2 : g2 < X2.heap.size := (hown2.lt _ rfl).2
          clear hS hbel
          have hS := hSb.out _ hb9
          refine hK _ _ hS ?_
          clear hK K
          try simp only [Act.put, List.setIfInBounds_toArray, List.set_cons_zero, List.set_cons_succ]
          refine held_take (i := 6) (v := ?_) 39 rfl rfl (by kernel_rfl) (by kernel_rfl) (by kernel_rfl) (fun _ _ _ h => h) (Or.inl ⟨by rfl, ?_⟩) hS ?_
          rotate_left 1
          · intro w' hSw
            try dsimp only at hSw
            obtain ⟨q1, q2⟩ := hSw
            go_simp
            all_goals with_reducible rfl
          try simp only [Act.put, List.setIfInBounds_toArray, List.set_cons_zero, List.set_cons_succ]
          have kz := (k9.set_ 0 (.slice (some ⟨g1, 0, none⟩) n p1)).set_ 1 (.slice (some ⟨g2, 0, none⟩) n p2)
          simp only [List.setIfInBounds_toArray, List.set_cons_zero, List.set_cons_succ] at kz
          have hz1 := ownsRow_setCell (ownsRow_setCell hown1 (p := ⟨g9, 0, none⟩) (by simp [Value.ownBlock]; omega) (.slice (some ⟨g1, 0, none⟩) n p1)) (p := ⟨g9, 1, none⟩) (by simp [Value.ownBlock]; omega) (.slice (some ⟨g2, 0, none⟩) n p2)
          have hz2 := ownsRow_setCell (ownsRow_setCell hown2 (p := ⟨g9, 0, none⟩) (by simp [Value.ownBlock]; omega) (.slice (some ⟨g1, 0, none⟩) n p1)) (p := ⟨g9, 1, none⟩) (by simp [Value.ownBlock]; omega) (.slice (some ⟨g2, 0, none⟩) n p2)
          have bz := (hb9.setCell (p := ⟨g9, 0, none⟩) (show W.heap.size ≤ g9 by have := hsz0; omega) (.slice (some ⟨g1, 0, none⟩) n p1)).setCell (p := ⟨g9, 1, none⟩) (show W.heap.size ≤ g9 by have := hsz0; omega) (.slice (some ⟨g2, 0, none⟩) n p2)
          obtain ⟨c9, f9, l9⟩ := k9.rules
          refine held_one (i := 8) (by kernel_rfl) rfl rfl (fun K hK => ?_)
          go_simp
          refine hK _ _ (hSb.out _ bz) ?_
          clear hK K
          refine wpAnyH_done (by kernel_rfl) (hrest (g1, p1, g2, p2, g9) _ ⟨kz, hz1, hz2, bz, by dsimp only; omega, by dsimp only; omega, by dsimp only; omega, by dsimp only; omega⟩) _
      · go_simp
        have k9 := Blk.new W 53 #[.slice none 0 0, .slice none 0 0]
        replace hb9 := hb9.alloc hb9.size (.cells #[.slice none 0 0, .slice none 0 0] 53)
        clear hS
        have hS := hSb.out _ hb9
        refine hK _ _ hS ?_
        clear hK K
        try simp only [Act.put, List.setIfInBounds_toArray, List.set_cons_zero, List.set_cons_succ]
        have sz9 := k9.lt
        generalize hY : W.alloc (.cells #[.slice none 0 0, .slice none 0 0] 53) = Y at *
        clear hY
        refine held_one (i := 2) (by kernel_rfl) rfl rfl (fun K hK => ?_)
        go_simp
        refine (Own_any o O n co 0 _ hn0 hn6 (ho.below hb9)).mono ?_
        rintro e X1 ⟨g1, p1, rfl, hown1, hbel⟩
        have lo1 : Y.heap.size ≤ g1 := (hown1.lt _ rfl).1
        have sz1 := hbel.size
        replace hown1 := own_mono hown1 hb9.size
        replace k9 := k9.below hbel
        replace hb9 := hb9.trans (hbel.mono hb9.size)
        have hi1 : g1 < X1.heap.size := (hown1.lt _ rfl).2
        clear hS hbel
        have hS := hSb.out _ hb9
        refine hK _ _ hS ?_
        clear hK K
        try simp only [Act.put, List.setIfInBounds_toArray, List.set_cons_zero, List.set_cons_succ]
        refine held_one (i := 5) (by kernel_rfl) rfl rfl (fun K hK => ?_)
        go_simp
        refine (Own_any d D n cd 0 _ hn0 hn6 (hd.below hb9)).mono ?_
        rintro e X2 ⟨g2, p2, rfl, hown2, hbel⟩
        have lo2 : X1.heap.size ≤ g2 := (hown2.lt _ rfl).1
        have sz2 := hbel.size
        replace hown2 := own_mono hown2 hb9.size
        replace hown1 := ownsRow_below hown1 hbel
        replace k9 := k9.below hbel
        replace hb9 := hb9.trans (hbel.mono hb9.size)
        have hi2 : g2 < X2.heap.size := (hown2.lt _ rfl).2
        clear hS hbel
        have hS := hSb.out _ hb9
        refine hK _ _ hS ?_
        clear hK K
        try simp only [Act.put, List.setIfInBounds_toArray, List.set_cons_zero, List.set_cons_succ]
        refine held_take (i := 6) (v := ?_) 39 rfl rfl (by kernel_rfl) (by kernel_rfl) (by kernel_rfl) (fun _ _ _ h => h) (Or.inl ⟨by rfl, ?_⟩) hS ?_
        rotate_left 1
        · intro w' hSw
          try dsimp only at hSw
          obtain ⟨q1, q2⟩ := hSw
          go_simp
          all_goals with_reducible rfl
        try simp only [Act.put, List.setIfInBounds_toArray, List.set_cons_zero, List.set_cons_succ]
        have kz := (k9.set_ 0 (.slice (some ⟨g1, 0, none⟩) n p1)).set_ 1 (.slice (some ⟨g2, 0, none⟩) n p2)
        simp only [List.setIfInBounds_toArray, List.set_cons_zero, List.set_cons_succ] at kz
        have hz1 := ownsRow_setCell (ownsRow_setCell hown1 (p := ⟨W.heap.size, 0, none⟩) (by simp [Value.ownBlock]; omega) (.slice (some ⟨g1, 0, none⟩) n p1)) (p := ⟨W.heap.size, 1, none⟩) (by simp [Value.ownBlock]; omega) (.slice (some ⟨g2, 0, none⟩) n p2)
        have hz2 := ownsRow_setCell (ownsRow_setCell hown2 (p := ⟨W.heap.size, 0, none⟩) (by simp [Value.ownBlock]; omega) (.slice (some ⟨g1, 0, none⟩) n p1)) (p := ⟨W.heap.size, 1, none⟩) (by simp [Value.ownBlock]; omega) (.slice (some ⟨g2, 0, none⟩) n p2)
        have bz := (hb9.setCell (p := ⟨W.heap.size, 0, none⟩) (show W.heap.size ≤ W.heap.size by have := hsz0; omega) (.slice (some ⟨g1, 0, none⟩) n p1)).setCell (p := ⟨W.heap.size, 1, none⟩) (show W.heap.size ≤ W.heap.size by have := hsz0; omega) (.slice (some ⟨g2, 0, none⟩) n p2)
        obtain ⟨c9, f9, l9⟩ := k9.rules
        refine held_one (i := 8) (by kernel_rfl) rfl rfl (fun K hK => ?_)
        go_simp
        refine hK _ _ (hSb.out _ bz) ?_
        clear hK K
        refine wpAnyH_done (by kernel_rfl) (hrest (g1, p1, g2, p2, W.heap.size) _ ⟨kz, hz1, hz2, bz, by dsimp only; omega, by dsimp only; omega, by dsimp only; omega, by dsimp only; omega⟩) _
  · have hnil := stepR_err he
    generalize stepR s o d = r at *
    obtain ⟨r1, er⟩ := r
    dsimp only at hnil he hSt
    subst hnil
    have he2 : (er != 0) = true := by rw [bne_iff_ne]; exact he
    go_enter Try.func7, Try.ntmps7
    go_wp2_with fail
    rw [← hw1]
    clear hw1
    refine (hSt _ hs ho hd).mono ?_
    clear hSt
    rintro e W ⟨P1, n1, m1, rfl, hr1, hbel⟩
    obtain rfl : n1 = 0 := hr1.len.symm
    replace k3 := k3.below hbel
    replace k4 := k4.below hbel
    replace k5 := k5.below hbel
    replace b := b.trans (hbel.mono b.size)
    replace hs := hs.below hbel
    replace ho := ho.below hbel
    replace hd := hd.below hbel
    clear hbel
    go_wp2_with fail
    refine (works_any _).mono ?_
    rintro e W ⟨rfl, hbel⟩
    go_wp2
    go_ret
    exact ⟨rfl, b.trans (hbel.mono b.size)⟩
end Go.Proofs.Ytjiaepphnddpoaa
