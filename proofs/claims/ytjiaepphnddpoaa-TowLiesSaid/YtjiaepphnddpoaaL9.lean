/-
  The law TowLies.
-/
import Derived.Test.YtjiaepphnddpoaaE1
import Derived.Test.YtjiaepphnddpoaaH4
import Derived.Test.YtjiaepphnddpoaaG9
namespace Go.Proofs.Ytjiaepphnddpoaa
open Go.RowKit Go.Shelf
set_option linter.unusedSimpArgs false
set_option linter.unusedVariables false

set_option maxRecDepth 100000 in
set_option maxHeartbeats 1000000 in
theorem TowLies_any (s : Strm) (A O Q : Option Addr) (n c no co nq cq : Nat) (bs : List Bnd) (bits : List Int) (w : World) (hs : SlAt w 0 5 Sec.cells A n c s.secs) (hl : SlAt w 0 2 Bnd.cells O no co bs) (hq : SlAt w 0 1 ivs Q nq cq bits) :
    Calls Try.prog 12 #[.agg #[.int .i64 s.head, .slice A n c, .int .i64 s.lane.lo, .int .i64 s.lane.hi, .int .i64 s.bend, .slice O no co], .slice Q nq cq] w fun e w' => e = .returned (.bool true) ∧ Below w.heap.size w w' := by
  obtain ⟨w1, hw1⟩ : ∃ w1, w1 = w.alloc (.cells #[.int .i64 s.head, .slice A n c, .int .i64 s.lane.lo, .int .i64 s.lane.hi, .int .i64 s.bend, .slice O no co] 37) := ⟨_, rfl⟩
  have k3 : Blk w1 w.heap.size 37 #[.int .i64 s.head, .slice A n c, .int .i64 s.lane.lo, .int .i64 s.lane.hi, .int .i64 s.bend, .slice O no co] := by rw [hw1]; exact Blk.new _ _ _
  have b : Below w.heap.size w w1 := by rw [hw1]; exact (Below.refl _ _).alloc (Nat.le_refl _) _
  replace hs : SlAt w1 0 5 Sec.cells A n c s.secs := by rw [hw1]; exact hs.alloc _
  replace hl : SlAt w1 0 2 Bnd.cells O no co bs := by rw [hw1]; exact hl.alloc _
  replace hq : SlAt w1 0 1 ivs Q nq cq bits := by rw [hw1]; exact hq.alloc _
  have hNo := fun W h1 h2 => Nodes_any s A O n c no co 0 0 bs W h1 h2
  by_cases he : errB s bs = 0
  · have e1 : nodesR s bs = (nodesL s bs, 0) := by rw [nodesR, if_pos he]
    simp only [e1] at hNo
    obtain ⟨ho, hb0⟩ := errB_zero he
    have hno : n = no := by have := okOffs_len hb0; have := hl.len; have := hs.len; omega
    subst hno
    have hn8 : n ≤ 8 := by have := ok_head ho; unfold headOk at this; have := hs.len; omega
    have hbl := Lib.hid hl.len
    have hLi := insL_lies bits 0 (okOffs_all hb0)
    have hlen : Hid ((insL bs bits 0).length = n) := by show _ = _; rw [insL_len]; exact hbl.out
    have hrg := hLi.range (okOffs_all hb0)
    have hNl : Hid ((nodesL s bs).length = n) := by show _ = _; rw [nodesL, List.length_map, List.length_range, hbl.out]
    have hNat := Lib.hid (fun i (hi : i < bs.length) => nodesL_at s bs hi)
    have hin := Lib.hid (fun up hd i (hi : i < (insL bs bits 0).length) => laid_node (o := insL bs bits 0) up ho hb0 hLi hd hi)
    have hla := Lib.hid (fun up i (hi : i < (insL bs bits 0).length) => laidL_at s (insL bs bits 0) up hi)
    have hll := Lib.hid (fun up => show (laidL s (insL bs bits 0) up).length = (insL bs bits 0).length from laidTo_len _ _ _ _)
    have hins := fun W h1 h2 => inside_any bs bits 0 O Q n co nq cq 0 0 W (by omega) (by omega) h1 h2
    have hlaid := fun P pc up W h1 h2 => laid_any s A P n c pc 0 0 (insL bs bits 0) up W ho hrg h1 h2
    generalize nodesL s bs = L at *
    generalize insL bs bits 0 = o at *
    clear e1 hLi hrg
    replace he := Lib.hid he
    replace ho := Lib.hid ho
    replace hb0 := Lib.hid hb0
    replace hlaid := Lib.hid hlaid
    replace hins := Lib.hid hins
    go_enter Try.func12, Try.ntmps12
    go_wp2_with fail
    rw [← hw1]
    clear hw1
    refine (hNo _ hs hl).mono ?_
    clear hNo
    rintro e W ⟨P1, n1, m1, rfl, hr1, hbel⟩
    obtain rfl : n = n1 := by have h9 : L.length = n1 := hr1.len; have := hNl.out; omega
    replace k3 := k3.below hbel
    replace b := b.trans (hbel.mono b.size)
    replace hs := hs.below hbel
    replace hl := hl.below hbel
    replace hq := hq.below hbel
    clear hbel
    replace hr1 := hr1.mono (Nat.zero_le _)
    go_wp2_with fail
    go_loopw [7] (fun i wr => ∃ k : Nat, i = jv k ∧ k ≤ 2 ∧ Below W.heap.size W wr) (fun i wr => 2 - (intOf i).toNat)
    case atStart => exact ⟨0, rfl, by omega, Below.refl _ _⟩
    case round =>
      obtain ⟨k, rfl, hk, hb⟩ := hrel
      match k, hk with
      | 0, _ =>
        rw [show jv 0 = .int .i64 0 from rfl]
        have hbel := hb
        replace k3 := k3.below hbel
        replace b := b.trans (hbel.mono b.size)
        replace hs := hs.below hbel
        replace hl := hl.below hbel
        replace hq := hq.below hbel
        clear hbel
        go_wp2_with fail
        refine wp_held_np (fun w' : World => (∀ j, w'.cell? ⟨w.heap.size, j, none⟩ = #[Value.int .i64 s.head, .slice A n c, .int .i64 s.lane.lo, .int .i64 s.lane.hi, .int .i64 s.bend, .slice O n co][j]?) ∧ True) (by kernel_rfl) ?_
        have hbel : Below wr.heap.size wr wr.drew := (Below.refl _ _).drew
        replace k3 := k3.below hbel
        replace b := b.trans (hbel.mono b.size)
        replace hs := hs.below hbel
        replace hl := hl.below hbel
        replace hq := hq.below hbel
        replace hb := hb.drew
        clear hbel
        generalize wr.drew = wd at *
        have hS : (fun w' : World => (∀ j, w'.cell? ⟨w.heap.size, j, none⟩ = #[Value.int .i64 s.head, .slice A n c, .int .i64 s.lane.lo, .int .i64 s.lane.hi, .int .i64 s.bend, .slice O n co][j]?) ∧ True) wd := ⟨k3.cell, trivial⟩
        refine held_take (i := 0) (v := ?_) 34 rfl rfl (by kernel_rfl) (by kernel_rfl) (by kernel_rfl) (fun _ _ _ h => h) (Or.inl ⟨by rfl, ?_⟩) hS ?_
        rotate_left 1
        · intro w' hSw
          try dsimp only at hSw
          obtain ⟨q1, q2⟩ := hSw
          go_simp
          all_goals with_reducible rfl
        try simp only [Act.put, List.setIfInBounds_toArray, List.set_cons_zero, List.set_cons_succ]
        refine held_take (i := 1) (v := ?_) 35 rfl rfl (by kernel_rfl) (by kernel_rfl) (by kernel_rfl) (fun _ _ _ h => h) (Or.inl ⟨by rfl, ?_⟩) hS ?_
        rotate_left 1
        · intro w' hSw
          try dsimp only at hSw
          obtain ⟨q1, q2⟩ := hSw
          go_simp
          all_goals with_reducible rfl
        try simp only [Act.put, List.setIfInBounds_toArray, List.set_cons_zero, List.set_cons_succ]
        refine held_take (i := 2) (v := ?_) 36 rfl rfl (by kernel_rfl) (by kernel_rfl) (by kernel_rfl) (fun _ _ _ h => h) (Or.inl ⟨by rfl, ?_⟩) hS ?_
        rotate_left 1
        · intro w' hSw
          try dsimp only at hSw
          obtain ⟨q1, q2⟩ := hSw
          go_simp
          all_goals with_reducible rfl
        try simp only [Act.put, List.setIfInBounds_toArray, List.set_cons_zero, List.set_cons_succ]
        refine held_take (i := 3) (v := ?_) 37 rfl rfl (by kernel_rfl) (by kernel_rfl) (by kernel_rfl) (fun _ _ _ h => h) (Or.inl ⟨by rfl, ?_⟩) hS ?_
        rotate_left 1
        · intro w' hSw
          try dsimp only at hSw
          obtain ⟨q1, q2⟩ := hSw
          go_simp
          all_goals with_reducible rfl
        try simp only [Act.put, List.setIfInBounds_toArray, List.set_cons_zero, List.set_cons_succ]
        refine held_take (i := 4) (v := ?_) 38 rfl rfl (by kernel_rfl) (by kernel_rfl) (by kernel_rfl) (fun _ _ _ h => h) (Or.inl ⟨by rfl, ?_⟩) hS ?_
        rotate_left 1
        · intro w' hSw
          try dsimp only at hSw
          obtain ⟨q1, q2⟩ := hSw
          go_simp
          all_goals with_reducible rfl
        try simp only [Act.put, List.setIfInBounds_toArray, List.set_cons_zero, List.set_cons_succ]
        refine held_take (i := 6) (v := ?_) 40 rfl rfl (by kernel_rfl) (by kernel_rfl) (by kernel_rfl) (fun _ _ _ h => h) (Or.inl ⟨by rfl, ?_⟩) hS ?_
        rotate_left 1
        · intro w' hSw
          try dsimp only at hSw
          obtain ⟨q1, q2⟩ := hSw
          go_simp
          all_goals with_reducible rfl
        try simp only [Act.put, List.setIfInBounds_toArray, List.set_cons_zero, List.set_cons_succ]
        refine held_take (i := 7) (v := ?_) 41 rfl rfl (by kernel_rfl) (by kernel_rfl) (by kernel_rfl) (fun _ _ _ h => h) (Or.inl ⟨by rfl, ?_⟩) hS ?_
        rotate_left 1
        · intro w' hSw
          try dsimp only at hSw
          obtain ⟨q1, q2⟩ := hSw
          go_simp
          all_goals with_reducible rfl
        try simp only [Act.put, List.setIfInBounds_toArray, List.set_cons_zero, List.set_cons_succ]
        refine held_one (i := 5) (by kernel_rfl) rfl rfl (fun K hK => ?_)
        go_simp
        refine (hins.out _ hl hq).mono ?_
        rintro e W1 ⟨P5, m5, rfl, hr5, hbel⟩
        clear hS
        replace k3 := k3.below hbel
        replace b := b.trans (hbel.mono b.size)
        replace hs := hs.below hbel
        replace hl := hl.below hbel
        replace hq := hq.below hbel
        replace hb := hb.trans (hbel.mono hb.size)
        skip
        clear hbel
        have hS : (fun w' : World => (∀ j, w'.cell? ⟨w.heap.size, j, none⟩ = #[Value.int .i64 s.head, .slice A n c, .int .i64 s.lane.lo, .int .i64 s.lane.hi, .int .i64 s.bend, .slice O n co][j]?) ∧ True) W1 := ⟨k3.cell, trivial⟩
        refine hK _ _ hS ?_
        clear hK K
        try simp only [Act.put, List.setIfInBounds_toArray, List.set_cons_zero, List.set_cons_succ]
        replace hr5 := hr5.mono (Nat.zero_le _)
        refine held_one (i := 8) (by kernel_rfl) rfl rfl (fun K hK => ?_)
        go_simp
        refine (hlaid.out P5 m5 true _ hs hr5).mono ?_
        rintro e W2 ⟨P6, n6, m6, rfl, hr6, hbel⟩
        clear hS
        replace k3 := k3.below hbel
        replace b := b.trans (hbel.mono b.size)
        replace hs := hs.below hbel
        replace hl := hl.below hbel
        replace hq := hq.below hbel
        replace hb := hb.trans (hbel.mono hb.size)
        clear hbel hr5
        have hS : (fun w' : World => (∀ j, w'.cell? ⟨w.heap.size, j, none⟩ = #[Value.int .i64 s.head, .slice A n c, .int .i64 s.lane.lo, .int .i64 s.lane.hi, .int .i64 s.bend, .slice O n co][j]?) ∧ True) W2 := ⟨k3.cell, trivial⟩
        refine hK _ _ hS ?_
        clear hK K
        try simp only [Act.put, List.setIfInBounds_toArray, List.set_cons_zero, List.set_cons_succ]
        refine held_take (i := 9) (v := ?_) 33 rfl rfl (by kernel_rfl) (by kernel_rfl) (by kernel_rfl) (fun _ _ _ h => h) (Or.inl ⟨by rfl, ?_⟩) hS ?_
        rotate_left 1
        · intro w' hSw
          try dsimp only at hSw
          obtain ⟨q1, q2⟩ := hSw
          go_simp
          all_goals with_reducible rfl
        try simp only [Act.put, List.setIfInBounds_toArray, List.set_cons_zero, List.set_cons_succ]
        refine held_take (i := 10) (v := ?_) 43 rfl rfl (by kernel_rfl) (by kernel_rfl) (by kernel_rfl) (fun _ _ _ h => h) (Or.inl ⟨by rfl, ?_⟩) hS ?_
        rotate_left 1
        · intro w' hSw
          try dsimp only at hSw
          obtain ⟨q1, q2⟩ := hSw
          go_simp
          all_goals with_reducible rfl
        try simp only [Act.put, List.setIfInBounds_toArray, List.set_cons_zero, List.set_cons_succ]
        refine held_take (i := 11) (v := ?_) 44 rfl rfl (by kernel_rfl) (by kernel_rfl) (by kernel_rfl) (fun _ _ _ h => h) (Or.inl ⟨by rfl, ?_⟩) hS ?_
        rotate_left 1
        · intro w' hSw
          try dsimp only at hSw
          obtain ⟨q1, q2⟩ := hSw
          go_simp
          all_goals with_reducible rfl
        try simp only [Act.put, List.setIfInBounds_toArray, List.set_cons_zero, List.set_cons_succ]
        refine held_take (i := 12) (v := ?_) 8 rfl rfl (by kernel_rfl) (by kernel_rfl) (by kernel_rfl) (fun _ _ _ h => h) (Or.inl ⟨by rfl, ?_⟩) hS ?_
        rotate_left 1
        · intro w' hSw
          try dsimp only at hSw
          obtain ⟨q1, q2⟩ := hSw
          go_simp
          all_goals with_reducible rfl
        try simp only [Act.put, List.setIfInBounds_toArray, List.set_cons_zero, List.set_cons_succ]
        refine held_take (i := 13) (v := ?_) 9 rfl rfl (by kernel_rfl) (by kernel_rfl) (by kernel_rfl) (fun _ _ _ h => h) (Or.inl ⟨by rfl, ?_⟩) hS ?_
        rotate_left 1
        · intro w' hSw
          try dsimp only at hSw
          obtain ⟨q1, q2⟩ := hSw
          go_simp
          all_goals with_reducible rfl
        try simp only [Act.put, List.setIfInBounds_toArray, List.set_cons_zero, List.set_cons_succ]
        refine wpAnyH_done (by kernel_rfl) (noPanic_normal ?_) _
        clear hS
        replace hr6 := hr6.mono (Nat.zero_le _)
        cases hd : laidB s o with
        | false =>
          replace hd := Lib.hid hd
          clear hr6
          go_wp2_with fail
          go_roundw
          case rel => exact ⟨0 + 1, rfl, by omega, hb⟩
          case measure => simp [intOf]
        | true =>
          have hpt := Lib.hid (hin.out true hd)
          rw [if_pos hd] at hr6
          obtain rfl : n = n6 := by have h9 : (laidL s o true).length = n6 := hr6.len; have := hll.out true; have := hlen.out; omega
          replace hd := Lib.hid hd
          have hr1w := hr1.below hb
          go_wp2_with fail
          go_loopw [10] (fun i wq => ∃ j : Nat, i = .int .i64 j ∧ j ≤ n ∧ Below W2.heap.size W2 wq) (fun i wq => n - (intOf i).toNat)
          case atStart => exact ⟨0, rfl, by omega, Below.refl _ _⟩
          case round =>
            obtain ⟨j, rfl, hj, hb9⟩ := hrel
            by_cases hlt : j < n
            · have hx1 := hNat.out j (by rw [hbl.out]; exact hlt)
              have hx2 := hla.out true j (by rw [hlen.out]; exact hlt)
              obtain ⟨hp1, hp2, hp3⟩ := hpt.out j (by rw [hlen.out]; exact hlt)
              obtain ⟨bR, oR, hA1, -, hbR, z0, z1, z2, z3, z4, z5, z6, z7⟩ := hr1w.reg hx1
              obtain ⟨bP, oP, hA2, -, hbP, p0, p1⟩ := hr6.pnt hx2
              have hHas := fun W => Has_yes _ _ W hp1 hp2 hp3
              dsimp only at p0 p1
              simp only [regA] at hHas
              generalize nodeR s bs j = r at *
              generalize laidX s o true (j + 1) = px at *
              generalize o.getD j s.head = py at *
              replace hx1 := Lib.hid hx1
              replace hx2 := Lib.hid hx2
              replace hp1 := Lib.hid hp1
              replace hp2 := Lib.hid hp2
              replace hp3 := Lib.hid hp3
              subst hA1
              subst hA2
              have hj0 : (0 : Int) ≤ (j : Int) := by omega
              have hj1 : (j : Int) < (n : Int) := by omega
              go_wp2_with fail
              refine wp_held_np (fun w' : World => w'.cell? ⟨bR, oR + j * 8, none⟩ = some (.int .i64 r.x.lo) ∧ w'.cell? ⟨bR, oR + j * 8 + 1, none⟩ = some (.int .i64 r.x.hi) ∧ w'.cell? ⟨bR, oR + j * 8 + 2, none⟩ = some (.int .i64 r.y.lo) ∧ w'.cell? ⟨bR, oR + j * 8 + 3, none⟩ = some (.int .i64 r.y.hi) ∧ w'.cell? ⟨bR, oR + j * 8 + 4, none⟩ = some (.int .i64 r.s.lo) ∧ w'.cell? ⟨bR, oR + j * 8 + 5, none⟩ = some (.int .i64 r.s.hi) ∧ w'.cell? ⟨bR, oR + j * 8 + 6, none⟩ = some (.int .i64 r.d.lo) ∧ w'.cell? ⟨bR, oR + j * 8 + 7, none⟩ = some (.int .i64 r.d.hi) ∧ w'.cell? ⟨bP, oP + j * 2, none⟩ = some (.int .i64 px) ∧ w'.cell? ⟨bP, oP + j * 2 + 1, none⟩ = some (.int .i64 py)) (by kernel_rfl) ?_
              replace hb9 := hb9.drew
              generalize wr.drew = wd at *
              have hS : (fun w' : World => w'.cell? ⟨bR, oR + j * 8, none⟩ = some (.int .i64 r.x.lo) ∧ w'.cell? ⟨bR, oR + j * 8 + 1, none⟩ = some (.int .i64 r.x.hi) ∧ w'.cell? ⟨bR, oR + j * 8 + 2, none⟩ = some (.int .i64 r.y.lo) ∧ w'.cell? ⟨bR, oR + j * 8 + 3, none⟩ = some (.int .i64 r.y.hi) ∧ w'.cell? ⟨bR, oR + j * 8 + 4, none⟩ = some (.int .i64 r.s.lo) ∧ w'.cell? ⟨bR, oR + j * 8 + 5, none⟩ = some (.int .i64 r.s.hi) ∧ w'.cell? ⟨bR, oR + j * 8 + 6, none⟩ = some (.int .i64 r.d.lo) ∧ w'.cell? ⟨bR, oR + j * 8 + 7, none⟩ = some (.int .i64 r.d.hi) ∧ w'.cell? ⟨bP, oP + j * 2, none⟩ = some (.int .i64 px) ∧ w'.cell? ⟨bP, oP + j * 2 + 1, none⟩ = some (.int .i64 py)) wd := ⟨(hb9.cell (p := ⟨bR, oR + j * 8, none⟩) hbR).trans z0, (hb9.cell (p := ⟨bR, oR + j * 8 + 1, none⟩) hbR).trans z1, (hb9.cell (p := ⟨bR, oR + j * 8 + 2, none⟩) hbR).trans z2, (hb9.cell (p := ⟨bR, oR + j * 8 + 3, none⟩) hbR).trans z3, (hb9.cell (p := ⟨bR, oR + j * 8 + 4, none⟩) hbR).trans z4, (hb9.cell (p := ⟨bR, oR + j * 8 + 5, none⟩) hbR).trans z5, (hb9.cell (p := ⟨bR, oR + j * 8 + 6, none⟩) hbR).trans z6, (hb9.cell (p := ⟨bR, oR + j * 8 + 7, none⟩) hbR).trans z7, (hb9.cell (p := ⟨bP, oP + j * 2, none⟩) hbP).trans p0, (hb9.cell (p := ⟨bP, oP + j * 2 + 1, none⟩) hbP).trans p1⟩
              refine held_take (i := 0) (v := ?_) 59 rfl rfl (by kernel_rfl) (by kernel_rfl) (by kernel_rfl) (fun _ _ _ h => h) (Or.inl ⟨by rfl, ?_⟩) hS ?_
              rotate_left 1
              · intro w' hSw
                try dsimp only at hSw
                obtain ⟨q0, q1, q2, q3, q4, q5, q6, q7, q8, q9⟩ := hSw
                go_simp
                all_goals with_reducible rfl
              try simp only [Act.put, List.setIfInBounds_toArray, List.set_cons_zero, List.set_cons_succ]
              refine held_take (i := 1) (v := ?_) 60 rfl rfl (by kernel_rfl) (by kernel_rfl) (by kernel_rfl) (fun _ _ _ h => h) (Or.inl ⟨by rfl, ?_⟩) hS ?_
              rotate_left 1
              · intro w' hSw
                try dsimp only at hSw
                obtain ⟨q0, q1, q2, q3, q4, q5, q6, q7, q8, q9⟩ := hSw
                go_simp
                all_goals with_reducible rfl
              try simp only [Act.put, List.setIfInBounds_toArray, List.set_cons_zero, List.set_cons_succ]
              refine held_take (i := 2) (v := ?_) 61 rfl rfl (by kernel_rfl) (by kernel_rfl) (by kernel_rfl) (fun _ _ _ h => h) (Or.inl ⟨by rfl, ?_⟩) hS ?_
              rotate_left 1
              · intro w' hSw
                try dsimp only at hSw
                obtain ⟨q0, q1, q2, q3, q4, q5, q6, q7, q8, q9⟩ := hSw
                go_simp
                all_goals with_reducible rfl
              try simp only [Act.put, List.setIfInBounds_toArray, List.set_cons_zero, List.set_cons_succ]
              refine held_take (i := 3) (v := ?_) 62 rfl rfl (by kernel_rfl) (by kernel_rfl) (by kernel_rfl) (fun _ _ _ h => h) (Or.inl ⟨by rfl, ?_⟩) hS ?_
              rotate_left 1
              · intro w' hSw
                try dsimp only at hSw
                obtain ⟨q0, q1, q2, q3, q4, q5, q6, q7, q8, q9⟩ := hSw
                go_simp
                all_goals with_reducible rfl
              try simp only [Act.put, List.setIfInBounds_toArray, List.set_cons_zero, List.set_cons_succ]
              refine held_take (i := 4) (v := ?_) 63 rfl rfl (by kernel_rfl) (by kernel_rfl) (by kernel_rfl) (fun _ _ _ h => h) (Or.inl ⟨by rfl, ?_⟩) hS ?_
              rotate_left 1
              · intro w' hSw
                try dsimp only at hSw
                obtain ⟨q0, q1, q2, q3, q4, q5, q6, q7, q8, q9⟩ := hSw
                go_simp
                all_goals with_reducible rfl
              try simp only [Act.put, List.setIfInBounds_toArray, List.set_cons_zero, List.set_cons_succ]
              refine held_take (i := 5) (v := ?_) 64 rfl rfl (by kernel_rfl) (by kernel_rfl) (by kernel_rfl) (fun _ _ _ h => h) (Or.inl ⟨by rfl, ?_⟩) hS ?_
              rotate_left 1
              · intro w' hSw
                try dsimp only at hSw
                obtain ⟨q0, q1, q2, q3, q4, q5, q6, q7, q8, q9⟩ := hSw
                go_simp
                all_goals with_reducible rfl
              try simp only [Act.put, List.setIfInBounds_toArray, List.set_cons_zero, List.set_cons_succ]
              refine held_take (i := 6) (v := ?_) 65 rfl rfl (by kernel_rfl) (by kernel_rfl) (by kernel_rfl) (fun _ _ _ h => h) (Or.inl ⟨by rfl, ?_⟩) hS ?_
              rotate_left 1
              · intro w' hSw
                try dsimp only at hSw
                obtain ⟨q0, q1, q2, q3, q4, q5, q6, q7, q8, q9⟩ := hSw
                go_simp
                all_goals with_reducible rfl
              try simp only [Act.put, List.setIfInBounds_toArray, List.set_cons_zero, List.set_cons_succ]
              refine held_take (i := 7) (v := ?_) 66 rfl rfl (by kernel_rfl) (by kernel_rfl) (by kernel_rfl) (fun _ _ _ h => h) (Or.inl ⟨by rfl, ?_⟩) hS ?_
              rotate_left 1
              · intro w' hSw
                try dsimp only at hSw
                obtain ⟨q0, q1, q2, q3, q4, q5, q6, q7, q8, q9⟩ := hSw
                go_simp
                all_goals with_reducible rfl
              try simp only [Act.put, List.setIfInBounds_toArray, List.set_cons_zero, List.set_cons_succ]
              refine held_one (i := 8) (by kernel_rfl) rfl rfl (fun K hK => ?_)
              go_simp
              refine (hHas _).mono ?_
              rintro e W3 ⟨rfl, hbel⟩
              clear hS
              replace hb9 := hb9.trans (hbel.mono hb9.size)
              have hS : (fun w' : World => w'.cell? ⟨bR, oR + j * 8, none⟩ = some (.int .i64 r.x.lo) ∧ w'.cell? ⟨bR, oR + j * 8 + 1, none⟩ = some (.int .i64 r.x.hi) ∧ w'.cell? ⟨bR, oR + j * 8 + 2, none⟩ = some (.int .i64 r.y.lo) ∧ w'.cell? ⟨bR, oR + j * 8 + 3, none⟩ = some (.int .i64 r.y.hi) ∧ w'.cell? ⟨bR, oR + j * 8 + 4, none⟩ = some (.int .i64 r.s.lo) ∧ w'.cell? ⟨bR, oR + j * 8 + 5, none⟩ = some (.int .i64 r.s.hi) ∧ w'.cell? ⟨bR, oR + j * 8 + 6, none⟩ = some (.int .i64 r.d.lo) ∧ w'.cell? ⟨bR, oR + j * 8 + 7, none⟩ = some (.int .i64 r.d.hi) ∧ w'.cell? ⟨bP, oP + j * 2, none⟩ = some (.int .i64 px) ∧ w'.cell? ⟨bP, oP + j * 2 + 1, none⟩ = some (.int .i64 py)) W3 := ⟨(hb9.cell (p := ⟨bR, oR + j * 8, none⟩) hbR).trans z0, (hb9.cell (p := ⟨bR, oR + j * 8 + 1, none⟩) hbR).trans z1, (hb9.cell (p := ⟨bR, oR + j * 8 + 2, none⟩) hbR).trans z2, (hb9.cell (p := ⟨bR, oR + j * 8 + 3, none⟩) hbR).trans z3, (hb9.cell (p := ⟨bR, oR + j * 8 + 4, none⟩) hbR).trans z4, (hb9.cell (p := ⟨bR, oR + j * 8 + 5, none⟩) hbR).trans z5, (hb9.cell (p := ⟨bR, oR + j * 8 + 6, none⟩) hbR).trans z6, (hb9.cell (p := ⟨bR, oR + j * 8 + 7, none⟩) hbR).trans z7, (hb9.cell (p := ⟨bP, oP + j * 2, none⟩) hbP).trans p0, (hb9.cell (p := ⟨bP, oP + j * 2 + 1, none⟩) hbP).trans p1⟩
              refine hK _ _ hS ?_
              clear hK K hHas hbel
              try simp only [Act.put, List.setIfInBounds_toArray, List.set_cons_zero, List.set_cons_succ]
              refine held_take (i := 9) (v := ?_) 58 rfl rfl (by kernel_rfl) (by kernel_rfl) (by kernel_rfl) (fun _ _ _ h => h) (Or.inl ⟨by rfl, ?_⟩) hS ?_
              rotate_left 1
              · intro w' hSw
                try dsimp only at hSw
                obtain ⟨q0, q1, q2, q3, q4, q5, q6, q7, q8, q9⟩ := hSw
                go_simp
                all_goals with_reducible rfl
              try simp only [Act.put, List.setIfInBounds_toArray, List.set_cons_zero, List.set_cons_succ]
              refine held_take (i := 10) (v := ?_) 68 rfl rfl (by kernel_rfl) (by kernel_rfl) (by kernel_rfl) (fun _ _ _ h => h) (Or.inl ⟨by rfl, ?_⟩) hS ?_
              rotate_left 1
              · intro w' hSw
                try dsimp only at hSw
                obtain ⟨q0, q1, q2, q3, q4, q5, q6, q7, q8, q9⟩ := hSw
                go_simp
                all_goals with_reducible rfl
              try simp only [Act.put, List.setIfInBounds_toArray, List.set_cons_zero, List.set_cons_succ]
              refine held_take (i := 11) (v := ?_) 69 rfl rfl (by kernel_rfl) (by kernel_rfl) (by kernel_rfl) (fun _ _ _ h => h) (Or.inl ⟨by rfl, ?_⟩) hS ?_
              rotate_left 1
              · intro w' hSw
                try dsimp only at hSw
                obtain ⟨q0, q1, q2, q3, q4, q5, q6, q7, q8, q9⟩ := hSw
                go_simp
                all_goals with_reducible rfl
              try simp only [Act.put, List.setIfInBounds_toArray, List.set_cons_zero, List.set_cons_succ]
              refine held_take (i := 12) (v := ?_) 11 rfl rfl (by kernel_rfl) (by kernel_rfl) (by kernel_rfl) (fun _ _ _ h => h) (Or.inl ⟨by rfl, ?_⟩) hS ?_
              rotate_left 1
              · intro w' hSw
                try dsimp only at hSw
                obtain ⟨q0, q1, q2, q3, q4, q5, q6, q7, q8, q9⟩ := hSw
                go_simp
                all_goals with_reducible rfl
              try simp only [Act.put, List.setIfInBounds_toArray, List.set_cons_zero, List.set_cons_succ]
              refine held_take (i := 13) (v := ?_) 12 rfl rfl (by kernel_rfl) (by kernel_rfl) (by kernel_rfl) (fun _ _ _ h => h) (Or.inl ⟨by rfl, ?_⟩) hS ?_
              rotate_left 1
              · intro w' hSw
                try dsimp only at hSw
                obtain ⟨q0, q1, q2, q3, q4, q5, q6, q7, q8, q9⟩ := hSw
                go_simp
                all_goals with_reducible rfl
              try simp only [Act.put, List.setIfInBounds_toArray, List.set_cons_zero, List.set_cons_succ]
              refine wpAnyH_done (by kernel_rfl) (noPanic_normal ?_) _
              clear hS z0 z1 z2 z3 z4 z5 z6 z7 p0 p1
              go_wp2_with fail
              go_roundw
              case rel => exact ⟨j + 1, by go_num, by omega, hb9⟩
              case measure => simp [intOf]; omega
            · obtain rfl : j = n := by omega
              go_wp2_with fail
              go_roundw
              case rel => exact ⟨0 + 1, rfl, by omega, hb.trans (hb9.mono hb.size)⟩
              case measure => simp [intOf]
      | 1, _ =>
        rw [show jv 1 = .int .i64 1 from rfl]
        have hbel := hb
        replace k3 := k3.below hbel
        replace b := b.trans (hbel.mono b.size)
        replace hs := hs.below hbel
        replace hl := hl.below hbel
        replace hq := hq.below hbel
        clear hbel
        go_wp2_with fail
        refine wp_held_np (fun w' : World => (∀ j, w'.cell? ⟨w.heap.size, j, none⟩ = #[Value.int .i64 s.head, .slice A n c, .int .i64 s.lane.lo, .int .i64 s.lane.hi, .int .i64 s.bend, .slice O n co][j]?) ∧ True) (by kernel_rfl) ?_
        have hbel : Below wr.heap.size wr wr.drew := (Below.refl _ _).drew
        replace k3 := k3.below hbel
        replace b := b.trans (hbel.mono b.size)
        replace hs := hs.below hbel
        replace hl := hl.below hbel
        replace hq := hq.below hbel
        replace hb := hb.drew
        clear hbel
        generalize wr.drew = wd at *
        have hS : (fun w' : World => (∀ j, w'.cell? ⟨w.heap.size, j, none⟩ = #[Value.int .i64 s.head, .slice A n c, .int .i64 s.lane.lo, .int .i64 s.lane.hi, .int .i64 s.bend, .slice O n co][j]?) ∧ True) wd := ⟨k3.cell, trivial⟩
        refine held_take (i := 0) (v := ?_) 34 rfl rfl (by kernel_rfl) (by kernel_rfl) (by kernel_rfl) (fun _ _ _ h => h) (Or.inl ⟨by rfl, ?_⟩) hS ?_
        rotate_left 1
        · intro w' hSw
          try dsimp only at hSw
          obtain ⟨q1, q2⟩ := hSw
          go_simp
          all_goals with_reducible rfl
        try simp only [Act.put, List.setIfInBounds_toArray, List.set_cons_zero, List.set_cons_succ]
        refine held_take (i := 1) (v := ?_) 35 rfl rfl (by kernel_rfl) (by kernel_rfl) (by kernel_rfl) (fun _ _ _ h => h) (Or.inl ⟨by rfl, ?_⟩) hS ?_
        rotate_left 1
        · intro w' hSw
          try dsimp only at hSw
          obtain ⟨q1, q2⟩ := hSw
          go_simp
          all_goals with_reducible rfl
        try simp only [Act.put, List.setIfInBounds_toArray, List.set_cons_zero, List.set_cons_succ]
        refine held_take (i := 2) (v := ?_) 36 rfl rfl (by kernel_rfl) (by kernel_rfl) (by kernel_rfl) (fun _ _ _ h => h) (Or.inl ⟨by rfl, ?_⟩) hS ?_
        rotate_left 1
        · intro w' hSw
          try dsimp only at hSw
          obtain ⟨q1, q2⟩ := hSw
          go_simp
          all_goals with_reducible rfl
        try simp only [Act.put, List.setIfInBounds_toArray, List.set_cons_zero, List.set_cons_succ]
        refine held_take (i := 3) (v := ?_) 37 rfl rfl (by kernel_rfl) (by kernel_rfl) (by kernel_rfl) (fun _ _ _ h => h) (Or.inl ⟨by rfl, ?_⟩) hS ?_
        rotate_left 1
        · intro w' hSw
          try dsimp only at hSw
          obtain ⟨q1, q2⟩ := hSw
          go_simp
          all_goals with_reducible rfl
        try simp only [Act.put, List.setIfInBounds_toArray, List.set_cons_zero, List.set_cons_succ]
        refine held_take (i := 4) (v := ?_) 38 rfl rfl (by kernel_rfl) (by kernel_rfl) (by kernel_rfl) (fun _ _ _ h => h) (Or.inl ⟨by rfl, ?_⟩) hS ?_
        rotate_left 1
        · intro w' hSw
          try dsimp only at hSw
          obtain ⟨q1, q2⟩ := hSw
          go_simp
          all_goals with_reducible rfl
        try simp only [Act.put, List.setIfInBounds_toArray, List.set_cons_zero, List.set_cons_succ]
        refine held_take (i := 6) (v := ?_) 40 rfl rfl (by kernel_rfl) (by kernel_rfl) (by kernel_rfl) (fun _ _ _ h => h) (Or.inl ⟨by rfl, ?_⟩) hS ?_
        rotate_left 1
        · intro w' hSw
          try dsimp only at hSw
          obtain ⟨q1, q2⟩ := hSw
          go_simp
          all_goals with_reducible rfl
        try simp only [Act.put, List.setIfInBounds_toArray, List.set_cons_zero, List.set_cons_succ]
        refine held_take (i := 7) (v := ?_) 41 rfl rfl (by kernel_rfl) (by kernel_rfl) (by kernel_rfl) (fun _ _ _ h => h) (Or.inl ⟨by rfl, ?_⟩) hS ?_
        rotate_left 1
        · intro w' hSw
          try dsimp only at hSw
          obtain ⟨q1, q2⟩ := hSw
          go_simp
          all_goals with_reducible rfl
        try simp only [Act.put, List.setIfInBounds_toArray, List.set_cons_zero, List.set_cons_succ]
        refine held_one (i := 5) (by kernel_rfl) rfl rfl (fun K hK => ?_)
        go_simp
        refine (hins.out _ hl hq).mono ?_
        rintro e W1 ⟨P5, m5, rfl, hr5, hbel⟩
        clear hS
        replace k3 := k3.below hbel
        replace b := b.trans (hbel.mono b.size)
        replace hs := hs.below hbel
        replace hl := hl.below hbel
        replace hq := hq.below hbel
        replace hb := hb.trans (hbel.mono hb.size)
        skip
        clear hbel
        have hS : (fun w' : World => (∀ j, w'.cell? ⟨w.heap.size, j, none⟩ = #[Value.int .i64 s.head, .slice A n c, .int .i64 s.lane.lo, .int .i64 s.lane.hi, .int .i64 s.bend, .slice O n co][j]?) ∧ True) W1 := ⟨k3.cell, trivial⟩
        refine hK _ _ hS ?_
        clear hK K
        try simp only [Act.put, List.setIfInBounds_toArray, List.set_cons_zero, List.set_cons_succ]
        replace hr5 := hr5.mono (Nat.zero_le _)
        refine held_one (i := 8) (by kernel_rfl) rfl rfl (fun K hK => ?_)
        go_simp
        refine (hlaid.out P5 m5 false _ hs hr5).mono ?_
        rintro e W2 ⟨P6, n6, m6, rfl, hr6, hbel⟩
        clear hS
        replace k3 := k3.below hbel
        replace b := b.trans (hbel.mono b.size)
        replace hs := hs.below hbel
        replace hl := hl.below hbel
        replace hq := hq.below hbel
        replace hb := hb.trans (hbel.mono hb.size)
        clear hbel hr5
        have hS : (fun w' : World => (∀ j, w'.cell? ⟨w.heap.size, j, none⟩ = #[Value.int .i64 s.head, .slice A n c, .int .i64 s.lane.lo, .int .i64 s.lane.hi, .int .i64 s.bend, .slice O n co][j]?) ∧ True) W2 := ⟨k3.cell, trivial⟩
        refine hK _ _ hS ?_
        clear hK K
        try simp only [Act.put, List.setIfInBounds_toArray, List.set_cons_zero, List.set_cons_succ]
        refine held_take (i := 9) (v := ?_) 33 rfl rfl (by kernel_rfl) (by kernel_rfl) (by kernel_rfl) (fun _ _ _ h => h) (Or.inl ⟨by rfl, ?_⟩) hS ?_
        rotate_left 1
        · intro w' hSw
          try dsimp only at hSw
          obtain ⟨q1, q2⟩ := hSw
          go_simp
          all_goals with_reducible rfl
        try simp only [Act.put, List.setIfInBounds_toArray, List.set_cons_zero, List.set_cons_succ]
        refine held_take (i := 10) (v := ?_) 43 rfl rfl (by kernel_rfl) (by kernel_rfl) (by kernel_rfl) (fun _ _ _ h => h) (Or.inl ⟨by rfl, ?_⟩) hS ?_
        rotate_left 1
        · intro w' hSw
          try dsimp only at hSw
          obtain ⟨q1, q2⟩ := hSw
          go_simp
          all_goals with_reducible rfl
        try simp only [Act.put, List.setIfInBounds_toArray, List.set_cons_zero, List.set_cons_succ]
        refine held_take (i := 11) (v := ?_) 44 rfl rfl (by kernel_rfl) (by kernel_rfl) (by kernel_rfl) (fun _ _ _ h => h) (Or.inl ⟨by rfl, ?_⟩) hS ?_
        rotate_left 1
        · intro w' hSw
          try dsimp only at hSw
          obtain ⟨q1, q2⟩ := hSw
          go_simp
          all_goals with_reducible rfl
        try simp only [Act.put, List.setIfInBounds_toArray, List.set_cons_zero, List.set_cons_succ]
        refine held_take (i := 12) (v := ?_) 8 rfl rfl (by kernel_rfl) (by kernel_rfl) (by kernel_rfl) (fun _ _ _ h => h) (Or.inl ⟨by rfl, ?_⟩) hS ?_
        rotate_left 1
        · intro w' hSw
          try dsimp only at hSw
          obtain ⟨q1, q2⟩ := hSw
          go_simp
          all_goals with_reducible rfl
        try simp only [Act.put, List.setIfInBounds_toArray, List.set_cons_zero, List.set_cons_succ]
        refine held_take (i := 13) (v := ?_) 9 rfl rfl (by kernel_rfl) (by kernel_rfl) (by kernel_rfl) (fun _ _ _ h => h) (Or.inl ⟨by rfl, ?_⟩) hS ?_
        rotate_left 1
        · intro w' hSw
          try dsimp only at hSw
          obtain ⟨q1, q2⟩ := hSw
          go_simp
          all_goals with_reducible rfl
        try simp only [Act.put, List.setIfInBounds_toArray, List.set_cons_zero, List.set_cons_succ]
        refine wpAnyH_done (by kernel_rfl) (noPanic_normal ?_) _
        clear hS
        replace hr6 := hr6.mono (Nat.zero_le _)
        cases hd : laidB s o with
        | false =>
          replace hd := Lib.hid hd
          clear hr6
          go_wp2_with fail
          go_roundw
          case rel => exact ⟨1 + 1, rfl, by omega, hb⟩
          case measure => simp [intOf]
        | true =>
          have hpt := Lib.hid (hin.out false hd)
          rw [if_pos hd] at hr6
          obtain rfl : n = n6 := by have h9 : (laidL s o false).length = n6 := hr6.len; have := hll.out false; have := hlen.out; omega
          replace hd := Lib.hid hd
          have hr1w := hr1.below hb
          go_wp2_with fail
          go_loopw [10] (fun i wq => ∃ j : Nat, i = .int .i64 j ∧ j ≤ n ∧ Below W2.heap.size W2 wq) (fun i wq => n - (intOf i).toNat)
          case atStart => exact ⟨0, rfl, by omega, Below.refl _ _⟩
          case round =>
            obtain ⟨j, rfl, hj, hb9⟩ := hrel
            by_cases hlt : j < n
            · have hx1 := hNat.out j (by rw [hbl.out]; exact hlt)
              have hx2 := hla.out false j (by rw [hlen.out]; exact hlt)
              obtain ⟨hp1, hp2, hp3⟩ := hpt.out j (by rw [hlen.out]; exact hlt)
              obtain ⟨bR, oR, hA1, -, hbR, z0, z1, z2, z3, z4, z5, z6, z7⟩ := hr1w.reg hx1
              obtain ⟨bP, oP, hA2, -, hbP, p0, p1⟩ := hr6.pnt hx2
              have hHas := fun W => Has_yes _ _ W hp1 hp2 hp3
              dsimp only at p0 p1
              simp only [regA] at hHas
              generalize nodeR s bs j = r at *
              generalize laidX s o false (j + 1) = px at *
              generalize o.getD j s.head = py at *
              replace hx1 := Lib.hid hx1
              replace hx2 := Lib.hid hx2
              replace hp1 := Lib.hid hp1
              replace hp2 := Lib.hid hp2
              replace hp3 := Lib.hid hp3
              subst hA1
              subst hA2
              have hj0 : (0 : Int) ≤ (j : Int) := by omega
              have hj1 : (j : Int) < (n : Int) := by omega
              go_wp2_with fail
              refine wp_held_np (fun w' : World => w'.cell? ⟨bR, oR + j * 8, none⟩ = some (.int .i64 r.x.lo) ∧ w'.cell? ⟨bR, oR + j * 8 + 1, none⟩ = some (.int .i64 r.x.hi) ∧ w'.cell? ⟨bR, oR + j * 8 + 2, none⟩ = some (.int .i64 r.y.lo) ∧ w'.cell? ⟨bR, oR + j * 8 + 3, none⟩ = some (.int .i64 r.y.hi) ∧ w'.cell? ⟨bR, oR + j * 8 + 4, none⟩ = some (.int .i64 r.s.lo) ∧ w'.cell? ⟨bR, oR + j * 8 + 5, none⟩ = some (.int .i64 r.s.hi) ∧ w'.cell? ⟨bR, oR + j * 8 + 6, none⟩ = some (.int .i64 r.d.lo) ∧ w'.cell? ⟨bR, oR + j * 8 + 7, none⟩ = some (.int .i64 r.d.hi) ∧ w'.cell? ⟨bP, oP + j * 2, none⟩ = some (.int .i64 px) ∧ w'.cell? ⟨bP, oP + j * 2 + 1, none⟩ = some (.int .i64 py)) (by kernel_rfl) ?_
              replace hb9 := hb9.drew
              generalize wr.drew = wd at *
              have hS : (fun w' : World => w'.cell? ⟨bR, oR + j * 8, none⟩ = some (.int .i64 r.x.lo) ∧ w'.cell? ⟨bR, oR + j * 8 + 1, none⟩ = some (.int .i64 r.x.hi) ∧ w'.cell? ⟨bR, oR + j * 8 + 2, none⟩ = some (.int .i64 r.y.lo) ∧ w'.cell? ⟨bR, oR + j * 8 + 3, none⟩ = some (.int .i64 r.y.hi) ∧ w'.cell? ⟨bR, oR + j * 8 + 4, none⟩ = some (.int .i64 r.s.lo) ∧ w'.cell? ⟨bR, oR + j * 8 + 5, none⟩ = some (.int .i64 r.s.hi) ∧ w'.cell? ⟨bR, oR + j * 8 + 6, none⟩ = some (.int .i64 r.d.lo) ∧ w'.cell? ⟨bR, oR + j * 8 + 7, none⟩ = some (.int .i64 r.d.hi) ∧ w'.cell? ⟨bP, oP + j * 2, none⟩ = some (.int .i64 px) ∧ w'.cell? ⟨bP, oP + j * 2 + 1, none⟩ = some (.int .i64 py)) wd := ⟨(hb9.cell (p := ⟨bR, oR + j * 8, none⟩) hbR).trans z0, (hb9.cell (p := ⟨bR, oR + j * 8 + 1, none⟩) hbR).trans z1, (hb9.cell (p := ⟨bR, oR + j * 8 + 2, none⟩) hbR).trans z2, (hb9.cell (p := ⟨bR, oR + j * 8 + 3, none⟩) hbR).trans z3, (hb9.cell (p := ⟨bR, oR + j * 8 + 4, none⟩) hbR).trans z4, (hb9.cell (p := ⟨bR, oR + j * 8 + 5, none⟩) hbR).trans z5, (hb9.cell (p := ⟨bR, oR + j * 8 + 6, none⟩) hbR).trans z6, (hb9.cell (p := ⟨bR, oR + j * 8 + 7, none⟩) hbR).trans z7, (hb9.cell (p := ⟨bP, oP + j * 2, none⟩) hbP).trans p0, (hb9.cell (p := ⟨bP, oP + j * 2 + 1, none⟩) hbP).trans p1⟩
              refine held_take (i := 0) (v := ?_) 59 rfl rfl (by kernel_rfl) (by kernel_rfl) (by kernel_rfl) (fun _ _ _ h => h) (Or.inl ⟨by rfl, ?_⟩) hS ?_
              rotate_left 1
              · intro w' hSw
                try dsimp only at hSw
                obtain ⟨q0, q1, q2, q3, q4, q5, q6, q7, q8, q9⟩ := hSw
                go_simp
                all_goals with_reducible rfl
              try simp only [Act.put, List.setIfInBounds_toArray, List.set_cons_zero, List.set_cons_succ]
              refine held_take (i := 1) (v := ?_) 60 rfl rfl (by kernel_rfl) (by kernel_rfl) (by kernel_rfl) (fun _ _ _ h => h) (Or.inl ⟨by rfl, ?_⟩) hS ?_
              rotate_left 1
              · intro w' hSw
                try dsimp only at hSw
                obtain ⟨q0, q1, q2, q3, q4, q5, q6, q7, q8, q9⟩ := hSw
                go_simp
                all_goals with_reducible rfl
              try simp only [Act.put, List.setIfInBounds_toArray, List.set_cons_zero, List.set_cons_succ]
              refine held_take (i := 2) (v := ?_) 61 rfl rfl (by kernel_rfl) (by kernel_rfl) (by kernel_rfl) (fun _ _ _ h => h) (Or.inl ⟨by rfl, ?_⟩) hS ?_
              rotate_left 1
              · intro w' hSw
                try dsimp only at hSw
                obtain ⟨q0, q1, q2, q3, q4, q5, q6, q7, q8, q9⟩ := hSw
                go_simp
                all_goals with_reducible rfl
              try simp only [Act.put, List.setIfInBounds_toArray, List.set_cons_zero, List.set_cons_succ]
              refine held_take (i := 3) (v := ?_) 62 rfl rfl (by kernel_rfl) (by kernel_rfl) (by kernel_rfl) (fun _ _ _ h => h) (Or.inl ⟨by rfl, ?_⟩) hS ?_
              rotate_left 1
              · intro w' hSw
                try dsimp only at hSw
                obtain ⟨q0, q1, q2, q3, q4, q5, q6, q7, q8, q9⟩ := hSw
                go_simp
                all_goals with_reducible rfl
              try simp only [Act.put, List.setIfInBounds_toArray, List.set_cons_zero, List.set_cons_succ]
              refine held_take (i := 4) (v := ?_) 63 rfl rfl (by kernel_rfl) (by kernel_rfl) (by kernel_rfl) (fun _ _ _ h => h) (Or.inl ⟨by rfl, ?_⟩) hS ?_
              rotate_left 1
              · intro w' hSw
                try dsimp only at hSw
                obtain ⟨q0, q1, q2, q3, q4, q5, q6, q7, q8, q9⟩ := hSw
                go_simp
                all_goals with_reducible rfl
              try simp only [Act.put, List.setIfInBounds_toArray, List.set_cons_zero, List.set_cons_succ]
              refine held_take (i := 5) (v := ?_) 64 rfl rfl (by kernel_rfl) (by kernel_rfl) (by kernel_rfl) (fun _ _ _ h => h) (Or.inl ⟨by rfl, ?_⟩) hS ?_
              rotate_left 1
              · intro w' hSw
                try dsimp only at hSw
                obtain ⟨q0, q1, q2, q3, q4, q5, q6, q7, q8, q9⟩ := hSw
                go_simp
                all_goals with_reducible rfl
              try simp only [Act.put, List.setIfInBounds_toArray, List.set_cons_zero, List.set_cons_succ]
              refine held_take (i := 6) (v := ?_) 65 rfl rfl (by kernel_rfl) (by kernel_rfl) (by kernel_rfl) (fun _ _ _ h => h) (Or.inl ⟨by rfl, ?_⟩) hS ?_
              rotate_left 1
              · intro w' hSw
                try dsimp only at hSw
                obtain ⟨q0, q1, q2, q3, q4, q5, q6, q7, q8, q9⟩ := hSw
                go_simp
                all_goals with_reducible rfl
              try simp only [Act.put, List.setIfInBounds_toArray, List.set_cons_zero, List.set_cons_succ]
              refine held_take (i := 7) (v := ?_) 66 rfl rfl (by kernel_rfl) (by kernel_rfl) (by kernel_rfl) (fun _ _ _ h => h) (Or.inl ⟨by rfl, ?_⟩) hS ?_
              rotate_left 1
              · intro w' hSw
                try dsimp only at hSw
                obtain ⟨q0, q1, q2, q3, q4, q5, q6, q7, q8, q9⟩ := hSw
                go_simp
                all_goals with_reducible rfl
              try simp only [Act.put, List.setIfInBounds_toArray, List.set_cons_zero, List.set_cons_succ]
              refine held_one (i := 8) (by kernel_rfl) rfl rfl (fun K hK => ?_)
              go_simp
              refine (hHas _).mono ?_
              rintro e W3 ⟨rfl, hbel⟩
              clear hS
              replace hb9 := hb9.trans (hbel.mono hb9.size)
              have hS : (fun w' : World => w'.cell? ⟨bR, oR + j * 8, none⟩ = some (.int .i64 r.x.lo) ∧ w'.cell? ⟨bR, oR + j * 8 + 1, none⟩ = some (.int .i64 r.x.hi) ∧ w'.cell? ⟨bR, oR + j * 8 + 2, none⟩ = some (.int .i64 r.y.lo) ∧ w'.cell? ⟨bR, oR + j * 8 + 3, none⟩ = some (.int .i64 r.y.hi) ∧ w'.cell? ⟨bR, oR + j * 8 + 4, none⟩ = some (.int .i64 r.s.lo) ∧ w'.cell? ⟨bR, oR + j * 8 + 5, none⟩ = some (.int .i64 r.s.hi) ∧ w'.cell? ⟨bR, oR + j * 8 + 6, none⟩ = some (.int .i64 r.d.lo) ∧ w'.cell? ⟨bR, oR + j * 8 + 7, none⟩ = some (.int .i64 r.d.hi) ∧ w'.cell? ⟨bP, oP + j * 2, none⟩ = some (.int .i64 px) ∧ w'.cell? ⟨bP, oP + j * 2 + 1, none⟩ = some (.int .i64 py)) W3 := ⟨(hb9.cell (p := ⟨bR, oR + j * 8, none⟩) hbR).trans z0, (hb9.cell (p := ⟨bR, oR + j * 8 + 1, none⟩) hbR).trans z1, (hb9.cell (p := ⟨bR, oR + j * 8 + 2, none⟩) hbR).trans z2, (hb9.cell (p := ⟨bR, oR + j * 8 + 3, none⟩) hbR).trans z3, (hb9.cell (p := ⟨bR, oR + j * 8 + 4, none⟩) hbR).trans z4, (hb9.cell (p := ⟨bR, oR + j * 8 + 5, none⟩) hbR).trans z5, (hb9.cell (p := ⟨bR, oR + j * 8 + 6, none⟩) hbR).trans z6, (hb9.cell (p := ⟨bR, oR + j * 8 + 7, none⟩) hbR).trans z7, (hb9.cell (p := ⟨bP, oP + j * 2, none⟩) hbP).trans p0, (hb9.cell (p := ⟨bP, oP + j * 2 + 1, none⟩) hbP).trans p1⟩
              refine hK _ _ hS ?_
              clear hK K hHas hbel
              try simp only [Act.put, List.setIfInBounds_toArray, List.set_cons_zero, List.set_cons_succ]
              refine held_take (i := 9) (v := ?_) 58 rfl rfl (by kernel_rfl) (by kernel_rfl) (by kernel_rfl) (fun _ _ _ h => h) (Or.inl ⟨by rfl, ?_⟩) hS ?_
              rotate_left 1
              · intro w' hSw
                try dsimp only at hSw
                obtain ⟨q0, q1, q2, q3, q4, q5, q6, q7, q8, q9⟩ := hSw
                go_simp
                all_goals with_reducible rfl
              try simp only [Act.put, List.setIfInBounds_toArray, List.set_cons_zero, List.set_cons_succ]
              refine held_take (i := 10) (v := ?_) 68 rfl rfl (by kernel_rfl) (by kernel_rfl) (by kernel_rfl) (fun _ _ _ h => h) (Or.inl ⟨by rfl, ?_⟩) hS ?_
              rotate_left 1
              · intro w' hSw
                try dsimp only at hSw
                obtain ⟨q0, q1, q2, q3, q4, q5, q6, q7, q8, q9⟩ := hSw
                go_simp
                all_goals with_reducible rfl
              try simp only [Act.put, List.setIfInBounds_toArray, List.set_cons_zero, List.set_cons_succ]
              refine held_take (i := 11) (v := ?_) 69 rfl rfl (by kernel_rfl) (by kernel_rfl) (by kernel_rfl) (fun _ _ _ h => h) (Or.inl ⟨by rfl, ?_⟩) hS ?_
              rotate_left 1
              · intro w' hSw
                try dsimp only at hSw
                obtain ⟨q0, q1, q2, q3, q4, q5, q6, q7, q8, q9⟩ := hSw
                go_simp
                all_goals with_reducible rfl
              try simp only [Act.put, List.setIfInBounds_toArray, List.set_cons_zero, List.set_cons_succ]
              refine held_take (i := 12) (v := ?_) 11 rfl rfl (by kernel_rfl) (by kernel_rfl) (by kernel_rfl) (fun _ _ _ h => h) (Or.inl ⟨by rfl, ?_⟩) hS ?_
              rotate_left 1
              · intro w' hSw
                try dsimp only at hSw
                obtain ⟨q0, q1, q2, q3, q4, q5, q6, q7, q8, q9⟩ := hSw
                go_simp
                all_goals with_reducible rfl
              try simp only [Act.put, List.setIfInBounds_toArray, List.set_cons_zero, List.set_cons_succ]
              refine held_take (i := 13) (v := ?_) 12 rfl rfl (by kernel_rfl) (by kernel_rfl) (by kernel_rfl) (fun _ _ _ h => h) (Or.inl ⟨by rfl, ?_⟩) hS ?_
              rotate_left 1
              · intro w' hSw
                try dsimp only at hSw
                obtain ⟨q0, q1, q2, q3, q4, q5, q6, q7, q8, q9⟩ := hSw
                go_simp
                all_goals with_reducible rfl
              try simp only [Act.put, List.setIfInBounds_toArray, List.set_cons_zero, List.set_cons_succ]
              refine wpAnyH_done (by kernel_rfl) (noPanic_normal ?_) _
              clear hS z0 z1 z2 z3 z4 z5 z6 z7 p0 p1
              go_wp2_with fail
              go_roundw
              case rel => exact ⟨j + 1, by go_num, by omega, hb9⟩
              case measure => simp [intOf]; omega
            · obtain rfl : j = n := by omega
              go_wp2_with fail
              go_roundw
              case rel => exact ⟨1 + 1, rfl, by omega, hb.trans (hb9.mono hb.size)⟩
              case measure => simp [intOf]
      | 2, _ =>
        rw [show jv 2 = .int .i64 2 from rfl]
        have hbel := hb
        replace k3 := k3.below hbel
        replace b := b.trans (hbel.mono b.size)
        replace hs := hs.below hbel
        replace hl := hl.below hbel
        replace hq := hq.below hbel
        go_wp2_with fail
        refine (works_any _).mono ?_
        rintro e W ⟨rfl, hbel⟩
        go_wp2
        go_ret
        exact ⟨rfl, b.trans (hbel.mono b.size)⟩
  · have e1 : nodesR s bs = ([], errB s bs) := by rw [nodesR, if_neg he]
    simp only [e1] at hNo
    generalize errB s bs = er at *
    have he2 : (er != 0) = true := by rw [bne_iff_ne]; exact he
    replace he := Lib.hid he
    clear e1
    go_enter Try.func12, Try.ntmps12
    go_wp2_with fail
    rw [← hw1]
    clear hw1
    refine (hNo _ hs hl).mono ?_
    clear hNo
    rintro e W ⟨P1, n1, m1, rfl, hr1, hbel⟩
    obtain rfl : n1 = 0 := hr1.len.symm
    replace k3 := k3.below hbel
    replace b := b.trans (hbel.mono b.size)
    replace hs := hs.below hbel
    replace hl := hl.below hbel
    replace hq := hq.below hbel
    clear hbel
    go_wp2_with fail
    refine (works_any _).mono ?_
    rintro e W ⟨rfl, hbel⟩
    go_wp2
    go_ret
    exact ⟨rfl, b.trans (hbel.mono b.size)⟩
end Go.Proofs.Ytjiaepphnddpoaa
