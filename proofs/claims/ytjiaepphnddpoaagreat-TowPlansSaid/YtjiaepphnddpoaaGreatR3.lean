/-
  The specification's package: a step of offsets, its loop.
-/
import Derived.Test.YtjiaepphnddpoaaGreatR1
namespace Go.Proofs.YtjiaepphnddpoaaGreat
open Go.RowKit Go.Shelf

def stepTo (s : Strm) (o d : List Int) (k : Nat) : List Int := (List.range k).map fun i => eased s (s.sec i) (o.getD i s.head) (prev s.head o i) (d.getD i 0)
theorem stepTo_succ (s : Strm) (o d : List Int) (k : Nat) : stepTo s o d (k + 1) = stepTo s o d k ++ [eased s (s.sec k) (o.getD k s.head) (prev s.head o k) (d.getD k 0)] := by
  unfold stepTo; rw [List.range_succ, List.map_append]; rfl
theorem stepTo_all (s : Strm) (o d : List Int) : stepTo s o d o.length = stepL s o d := rfl
set_option maxRecDepth 100000 in
set_option maxHeartbeats 4000000 in
theorem Rstep_any (s : Strm) (A O D : Option Addr) (n c co cd B1 B2 B3 : Nat) (o d : List Int) (w : World) (hst : okStrm s = true) (ho1 : okNums s o 16384 = true) (hd1 : okNums s d 100 = true) (hs : SlAt w B1 5 Sec.cells A n c s.secs) (ho : SlAt w B2 1 ivs O n co o) (hd : SlAt w B3 1 ivs D n cd d) :
    Calls Tryz.prog 151 #[.agg #[.int .i64 s.head, .slice A n c, .int .i64 s.lane.lo, .int .i64 s.lane.hi, .int .i64 s.bend], .slice O n co, .slice D n cd] w fun e w' => ∃ P pc, e = .returned (.slice P n pc) ∧ SlAt w' w.heap.size 1 ivs P n pc (stepL s o d) ∧ Below w.heap.size w w' := by
  have hl := Lib.hid hs.len
  have hlo := Lib.hid ho.len
  have hld := Lib.hid hd.len
  have hn8 : n ≤ 8 := by have := ok_head hst; unfold headOk at this; have := hl.out; omega
  replace hst := Lib.hid hst
  have hoa := Lib.hid (okNums_all ho1)
  have hda := Lib.hid (okNums_all hd1)
  clear ho1 hd1
  obtain ⟨w1, hw1⟩ : ∃ w1, w1 = w.alloc (.cells #[.int .i64 s.head, .slice A n c, .int .i64 s.lane.lo, .int .i64 s.lane.hi, .int .i64 s.bend] 26) := ⟨_, rfl⟩
  have k3 : Blk w1 w.heap.size 26 #[.int .i64 s.head, .slice A n c, .int .i64 s.lane.lo, .int .i64 s.lane.hi, .int .i64 s.bend] := by rw [hw1]; exact Blk.new _ _ _
  have b1 : Below w.heap.size w w1 := by rw [hw1]; exact (Below.refl _ _).alloc (Nat.le_refl _) _
  have hs1 : SlAt w1 B1 5 Sec.cells A n c s.secs := by rw [hw1]; exact hs.alloc _
  have ho1 : SlAt w1 B2 1 ivs O n co o := by rw [hw1]; exact ho.alloc _
  have hd1 : SlAt w1 B3 1 ivs D n cd d := by rw [hw1]; exact hd.alloc _
  go_enter Tryz.func151, Tryz.ntmps151
  go_wp2_with fail
  rw [← hw1]
  clear hw1 hs ho hd
  go_loopw [7, 8] (fun v i wr => ∃ k : Nat, i = .int .i64 k ∧ k ≤ n ∧ wr.ownsRow w1.heap.size 3 1 v k ((stepTo s o d k).map (.int .i64 ·)) ∧ Below w1.heap.size w1 wr) (fun v i wr => n - (intOf i).toNat)
  case atStart => exact ⟨0, rfl, Nat.zero_le _, ⟨rfl, .inl ⟨rfl, rfl⟩⟩, Below.refl _ _⟩
  case round =>
    obtain ⟨k, rfl, hk, hown, hb⟩ := hrel
    have k3w := k3.belowB hb k3.lt
    by_cases hlt : k < n
    · obtain ⟨x, hx⟩ := some_of_lt hl.out hlt
      obtain ⟨y, hy⟩ := some_of_lt hlo.out hlt
      obtain ⟨z, hz⟩ := some_of_lt hld.out hlt
      have hyd : o.getD k s.head = y := by rw [List.getD_eq_getElem?_getD, hy]; rfl
      have hzd : d.getD k 0 = z := by rw [List.getD_eq_getElem?_getD, hz]; rfl
      have hxs : s.sec k = x := by have := sec_at s (i := k) (by have := hl.out; omega); rw [hx] at this; exact (Option.some.inj this).symm
      have hxo := ok_sec hst.out (i := k) (by have := hl.out; omega)
      rw [hxs] at hxo
      obtain ⟨g0, g1, g2, g3, g4, g5, g6, g7, g8, g9⟩ := of_decide_eq_true hxo
      obtain ⟨a0, a1, a2, a3, a4, a5, a6, a7, a8⟩ := ok_head hst.out
      have hyb : -16384 ≤ y ∧ y ≤ 16384 := by have := List.all_eq_true.1 hoa.out y (List.mem_of_getElem? hy); simpa [okNum] using this
      have hzb : -100 ≤ z ∧ z ≤ 100 := by have := List.all_eq_true.1 hda.out z (List.mem_of_getElem? hz); simpa [okNum] using this
      have hpb : -16384 ≤ prev s.head o k ∧ prev s.head o k ≤ 16384 := by
        cases k with
        | zero => show -16384 ≤ s.head ∧ s.head ≤ 16384; omega
        | succ q =>
          obtain ⟨y', hy'⟩ := some_of_lt hlo.out (show q < n by omega)
          have : prev s.head o (q + 1) = y' := by show o.getD q s.head = y'; rw [List.getD_eq_getElem?_getD, hy']; rfl
          rw [this]
          have := List.all_eq_true.1 hoa.out y' (List.mem_of_getElem? hy'); simpa [okNum] using this
      have hbef := fun W (hW : Below w1.heap.size w1 W) => before_any s A O n c n co 0 k o W hlt (by omega) ((ho1.mono (Nat.zero_le _)).keep hW.size (fun _ _ h => hW.cell h))
      have hnx := Lib.hid (stepTo_succ s o d k)
      rw [hyd, hzd, hxs] at hnx
      obtain ⟨pv, hpv⟩ : ∃ pv, prev s.head o k = pv := ⟨_, rfl⟩
      rw [hpv] at hnx hpb
      simp only [hpv] at hbef
      obtain ⟨bA, oA, hA, -, hbA, d0, d1, d2, d3, d4⟩ := hs1.sec hx
      obtain ⟨bO, oO, hO, -, hbO, e0⟩ := ho1.int hy
      obtain ⟨bD, oD, hD, -, hbD, e1⟩ := hd1.int hz
      replace d0 := (hb.cell (by dsimp only; omega)).trans d0
      replace d1 := (hb.cell (by dsimp only; omega)).trans d1
      replace d2 := (hb.cell (by dsimp only; omega)).trans d2
      replace d3 := (hb.cell (by dsimp only; omega)).trans d3
      replace d4 := (hb.cell (by dsimp only; omega)).trans d4
      replace hx := Lib.hid hx
      replace hy := Lib.hid hy
      replace hz := Lib.hid hz
      clear hyd hzd hxs hpv
      obtain ⟨m1, m2⟩ := mul_bd (64 - x.fol) y 64 16384 (by omega) (by omega) (by omega) (by omega) (by omega)
      obtain ⟨m3, m4⟩ := mul_bd x.fol pv 64 16384 (by omega) (by omega) (by omega) (by omega) (by omega)
      have hq := fun W => Down_any ((64 - x.fol) * y + x.fol * pv) 64 W (by omega) (by omega) (by omega) (by omega)
      obtain ⟨qd, hqd⟩ : ∃ qd, ((64 - x.fol) * y + x.fol * pv) / 64 = qd := ⟨_, rfl⟩
      have hqb : -100000 ≤ qd ∧ qd ≤ 100000 := by rw [← hqd]; omega
      simp only [hqd] at hq
      have u1 := IntWalk.i64_in (64 - x.fol) (by omega)
      have u2 := IntWalk.i64_in ((64 - x.fol) * y) (by omega)
      have u3 := IntWalk.i64_in (x.fol * pv) (by omega)
      have u4 := IntWalk.i64_in ((64 - x.fol) * y + x.fol * pv) (by omega)
      have u5 := IntWalk.i64_in (qd + z) (by omega)
      have he : Hid (eased s x y pv z = max (-16384) (min (if s.lane.hi < qd + z then max s.lane.hi (qd + z - x.bird) else if qd + z < s.lane.lo then min s.lane.lo (qd + z + x.bird) else qd + z) 16384)) := by show _ = _; rw [← hqd]; rfl
      clear m1 m2 m3 m4
      replace hqd := Lib.hid hqd
      have hk0 : (0 : Int) ≤ (k : Int) := by omega
      have hk1 : (k : Int) < (n : Int) := by omega
      subst hA
      subst hO
      subst hD
      obtain ⟨c3, f3, l3⟩ := k3w.rules
      have lbA : bA < wr.heap.size := by have := hb.size; omega
      go_wp2_with fail
      clear c3 f3 l3 d0 d1 d2 d3 d4
      have k9 := Blk.new wr 94 #[.int .i64 x.len, .int .i64 x.fol, .int .i64 x.bird, .int .i64 x.drag, .int .i64 x.cap]
      replace k3w := k3w.alloc (.cells #[.int .i64 x.len, .int .i64 x.fol, .int .i64 x.bird, .int .i64 x.drag, .int .i64 x.cap] 94)
      replace hown := hown.alloc (.cells #[.int .i64 x.len, .int .i64 x.fol, .int .i64 x.bird, .int .i64 x.drag, .int .i64 x.cap] 94)
      have lwr := hb.size
      replace hb := hb.alloc hb.size (.cells #[.int .i64 x.len, .int .i64 x.fol, .int .i64 x.bird, .int .i64 x.drag, .int .i64 x.cap] 94)
      generalize hWA : wr.alloc (.cells #[.int .i64 x.len, .int .i64 x.fol, .int .i64 x.bird, .int .i64 x.drag, .int .i64 x.cap] 94) = WA at *
      clear hWA
      refine wp_held_np (fun w' : World => (∀ j, w'.cell? ⟨wr.heap.size, j, none⟩ = #[Value.int .i64 x.len, .int .i64 x.fol, .int .i64 x.bird, .int .i64 x.drag, .int .i64 x.cap][j]?) ∧ (∀ j, w'.cell? ⟨w.heap.size, j, none⟩ = #[Value.int .i64 s.head, .slice (some ⟨bA, oA, none⟩) n c, .int .i64 s.lane.lo, .int .i64 s.lane.hi, .int .i64 s.bend][j]?) ∧ w'.cell? ⟨bO, oO + k, none⟩ = some (.int .i64 y) ∧ w'.cell? ⟨bD, oD + k, none⟩ = some (.int .i64 z)) (by kernel_rfl) ?_
      replace k9 := k9.drew
      replace k3w := k3w.drew
      replace hown : WA.drew.ownsRow _ _ _ _ _ _ := hown
      replace hb := hb.drew
      generalize WA.drew = W5 at *
      have hS : (fun w' : World => (∀ j, w'.cell? ⟨wr.heap.size, j, none⟩ = #[Value.int .i64 x.len, .int .i64 x.fol, .int .i64 x.bird, .int .i64 x.drag, .int .i64 x.cap][j]?) ∧ (∀ j, w'.cell? ⟨w.heap.size, j, none⟩ = #[Value.int .i64 s.head, .slice (some ⟨bA, oA, none⟩) n c, .int .i64 s.lane.lo, .int .i64 s.lane.hi, .int .i64 s.bend][j]?) ∧ w'.cell? ⟨bO, oO + k, none⟩ = some (.int .i64 y) ∧ w'.cell? ⟨bD, oD + k, none⟩ = some (.int .i64 z)) W5 := ⟨k9.cell, k3w.cell, (hb.cell (p := ⟨bO, oO + k, none⟩) hbO).trans e0, (hb.cell (p := ⟨bD, oD + k, none⟩) hbD).trans e1⟩
      refine held_take (i := 0) (v := ?_) 23 rfl rfl (by kernel_rfl) (by kernel_rfl) (by kernel_rfl) (fun _ _ _ h => h) (Or.inl ⟨by rfl, ?_⟩) hS ?_
      rotate_left 1
      · intro w' hSw
        try dsimp only at hSw
        obtain ⟨q1, q2, q3, q4⟩ := hSw
        go_simp
        all_goals with_reducible rfl
      try simp only [Act.put, List.setIfInBounds_toArray, List.set_cons_zero, List.set_cons_succ]
      refine held_take (i := 1) (v := ?_) 24 rfl rfl (by kernel_rfl) (by kernel_rfl) (by kernel_rfl) (fun _ _ _ h => h) (Or.inl ⟨by rfl, ?_⟩) hS ?_
      rotate_left 1
      · intro w' hSw
        try dsimp only at hSw
        obtain ⟨q1, q2, q3, q4⟩ := hSw
        go_simp
        all_goals with_reducible rfl
      try simp only [Act.put, List.setIfInBounds_toArray, List.set_cons_zero, List.set_cons_succ]
      refine held_take (i := 2) (v := ?_) 25 rfl rfl (by kernel_rfl) (by kernel_rfl) (by kernel_rfl) (fun _ _ _ h => h) (Or.inl ⟨by rfl, ?_⟩) hS ?_
      rotate_left 1
      · intro w' hSw
        try dsimp only at hSw
        obtain ⟨q1, q2, q3, q4⟩ := hSw
        go_simp
        all_goals with_reducible rfl
      try simp only [Act.put, List.setIfInBounds_toArray, List.set_cons_zero, List.set_cons_succ]
      refine held_take (i := 3) (v := ?_) 26 rfl rfl (by kernel_rfl) (by kernel_rfl) (by kernel_rfl) (fun _ _ _ h => h) (Or.inl ⟨by rfl, ?_⟩) hS ?_
      rotate_left 1
      · intro w' hSw
        try dsimp only at hSw
        obtain ⟨q1, q2, q3, q4⟩ := hSw
        go_simp
        all_goals with_reducible rfl
      try simp only [Act.put, List.setIfInBounds_toArray, List.set_cons_zero, List.set_cons_succ]
      refine held_take (i := 4) (v := ?_) 27 rfl rfl (by kernel_rfl) (by kernel_rfl) (by kernel_rfl) (fun _ _ _ h => h) (Or.inl ⟨by rfl, ?_⟩) hS ?_
      rotate_left 1
      · intro w' hSw
        try dsimp only at hSw
        obtain ⟨q1, q2, q3, q4⟩ := hSw
        go_simp
        all_goals with_reducible rfl
      try simp only [Act.put, List.setIfInBounds_toArray, List.set_cons_zero, List.set_cons_succ]
      refine held_take (i := 5) (v := ?_) 28 rfl rfl (by kernel_rfl) (by kernel_rfl) (by kernel_rfl) (fun _ _ _ h => h) (Or.inl ⟨by rfl, ?_⟩) hS ?_
      rotate_left 1
      · intro w' hSw
        try dsimp only at hSw
        obtain ⟨q1, q2, q3, q4⟩ := hSw
        go_simp
        all_goals with_reducible rfl
      try simp only [Act.put, List.setIfInBounds_toArray, List.set_cons_zero, List.set_cons_succ]
      refine held_take (i := 6) (v := ?_) 29 rfl rfl (by kernel_rfl) (by kernel_rfl) (by kernel_rfl) (fun _ _ _ h => h) (Or.inl ⟨by rfl, ?_⟩) hS ?_
      rotate_left 1
      · intro w' hSw
        try dsimp only at hSw
        obtain ⟨q1, q2, q3, q4⟩ := hSw
        go_simp
        all_goals with_reducible rfl
      try simp only [Act.put, List.setIfInBounds_toArray, List.set_cons_zero, List.set_cons_succ]
      refine held_take (i := 7) (v := ?_) 30 rfl rfl (by kernel_rfl) (by kernel_rfl) (by kernel_rfl) (fun _ _ _ h => h) (Or.inl ⟨by rfl, ?_⟩) hS ?_
      rotate_left 1
      · intro w' hSw
        try dsimp only at hSw
        obtain ⟨q1, q2, q3, q4⟩ := hSw
        go_simp
        all_goals with_reducible rfl
      try simp only [Act.put, List.setIfInBounds_toArray, List.set_cons_zero, List.set_cons_succ]
      refine held_take (i := 8) (v := ?_) 31 rfl rfl (by kernel_rfl) (by kernel_rfl) (by kernel_rfl) (fun _ _ _ h => h) (Or.inl ⟨by rfl, ?_⟩) hS ?_
      rotate_left 1
      · intro w' hSw
        try dsimp only at hSw
        obtain ⟨q1, q2, q3, q4⟩ := hSw
        go_simp
        all_goals with_reducible rfl
      try simp only [Act.put, List.setIfInBounds_toArray, List.set_cons_zero, List.set_cons_succ]
      refine held_take (i := 9) (v := ?_) 32 rfl rfl (by kernel_rfl) (by kernel_rfl) (by kernel_rfl) (fun _ _ _ h => h) (Or.inl ⟨by rfl, ?_⟩) hS ?_
      rotate_left 1
      · intro w' hSw
        try dsimp only at hSw
        obtain ⟨q1, q2, q3, q4⟩ := hSw
        go_simp
        all_goals with_reducible rfl
      try simp only [Act.put, List.setIfInBounds_toArray, List.set_cons_zero, List.set_cons_succ]
      refine held_take (i := 10) (v := ?_) 33 rfl rfl (by kernel_rfl) (by kernel_rfl) (by kernel_rfl) (fun _ _ _ h => h) (Or.inl ⟨by rfl, ?_⟩) hS ?_
      rotate_left 1
      · intro w' hSw
        try dsimp only at hSw
        obtain ⟨q1, q2, q3, q4⟩ := hSw
        go_simp
        all_goals with_reducible rfl
      try simp only [Act.put, List.setIfInBounds_toArray, List.set_cons_zero, List.set_cons_succ]
      refine held_take (i := 11) (v := ?_) 34 rfl rfl (by kernel_rfl) (by kernel_rfl) (by kernel_rfl) (fun _ _ _ h => h) (Or.inl ⟨by rfl, ?_⟩) hS ?_
      rotate_left 1
      · intro w' hSw
        try dsimp only at hSw
        obtain ⟨q1, q2, q3, q4⟩ := hSw
        go_simp
        all_goals with_reducible rfl
      try simp only [Act.put, List.setIfInBounds_toArray, List.set_cons_zero, List.set_cons_succ]
      refine held_take (i := 12) (v := ?_) 35 rfl rfl (by kernel_rfl) (by kernel_rfl) (by kernel_rfl) (fun _ _ _ h => h) (Or.inl ⟨by rfl, ?_⟩) hS ?_
      rotate_left 1
      · intro w' hSw
        try dsimp only at hSw
        obtain ⟨q1, q2, q3, q4⟩ := hSw
        go_simp
        all_goals with_reducible rfl
      try simp only [Act.put, List.setIfInBounds_toArray, List.set_cons_zero, List.set_cons_succ]
      refine held_take (i := 17) (v := ?_) 40 rfl rfl (by kernel_rfl) (by kernel_rfl) (by kernel_rfl) (fun _ _ _ h => h) (Or.inl ⟨by rfl, ?_⟩) hS ?_
      rotate_left 1
      · intro w' hSw
        try dsimp only at hSw
        obtain ⟨q1, q2, q3, q4⟩ := hSw
        go_simp
        all_goals with_reducible rfl
      try simp only [Act.put, List.setIfInBounds_toArray, List.set_cons_zero, List.set_cons_succ]
      refine held_take (i := 18) (v := ?_) 41 rfl rfl (by kernel_rfl) (by kernel_rfl) (by kernel_rfl) (fun _ _ _ h => h) (Or.inl ⟨by rfl, ?_⟩) hS ?_
      rotate_left 1
      · intro w' hSw
        try dsimp only at hSw
        obtain ⟨q1, q2, q3, q4⟩ := hSw
        go_simp
        all_goals with_reducible rfl
      try simp only [Act.put, List.setIfInBounds_toArray, List.set_cons_zero, List.set_cons_succ]
      refine held_take (i := 19) (v := ?_) 42 rfl rfl (by kernel_rfl) (by kernel_rfl) (by kernel_rfl) (fun _ _ _ h => h) (Or.inl ⟨by rfl, ?_⟩) hS ?_
      rotate_left 1
      · intro w' hSw
        try dsimp only at hSw
        obtain ⟨q1, q2, q3, q4⟩ := hSw
        go_simp
        all_goals with_reducible rfl
      try simp only [Act.put, List.setIfInBounds_toArray, List.set_cons_zero, List.set_cons_succ]
      refine held_take (i := 20) (v := ?_) 43 rfl rfl (by kernel_rfl) (by kernel_rfl) (by kernel_rfl) (fun _ _ _ h => h) (Or.inl ⟨by rfl, ?_⟩) hS ?_
      rotate_left 1
      · intro w' hSw
        try dsimp only at hSw
        obtain ⟨q1, q2, q3, q4⟩ := hSw
        go_simp
        all_goals with_reducible rfl
      try simp only [Act.put, List.setIfInBounds_toArray, List.set_cons_zero, List.set_cons_succ]
      refine held_one (i := 13) (by kernel_rfl) rfl rfl (fun K hK => ?_)
      go_simp
      refine (hbef _ hb).mono ?_
      rintro e w6 ⟨rfl, hb6⟩
      clear hS hbef
      replace k9 := k9.below hb6
      replace k3w := k3w.below hb6
      replace hown := ownsRow_below hown hb6
      replace hb := hb.trans (hb6.mono hb.size)
      clear hb6
      have hS : (fun w' : World => (∀ j, w'.cell? ⟨wr.heap.size, j, none⟩ = #[Value.int .i64 x.len, .int .i64 x.fol, .int .i64 x.bird, .int .i64 x.drag, .int .i64 x.cap][j]?) ∧ (∀ j, w'.cell? ⟨w.heap.size, j, none⟩ = #[Value.int .i64 s.head, .slice (some ⟨bA, oA, none⟩) n c, .int .i64 s.lane.lo, .int .i64 s.lane.hi, .int .i64 s.bend][j]?) ∧ w'.cell? ⟨bO, oO + k, none⟩ = some (.int .i64 y) ∧ w'.cell? ⟨bD, oD + k, none⟩ = some (.int .i64 z)) w6 := ⟨k9.cell, k3w.cell, (hb.cell (p := ⟨bO, oO + k, none⟩) hbO).trans e0, (hb.cell (p := ⟨bD, oD + k, none⟩) hbD).trans e1⟩
      refine hK _ _ hS ?_
      clear hK K
      try simp only [Act.put, List.setIfInBounds_toArray, List.set_cons_zero, List.set_cons_succ]
      refine held_take (i := 14) (v := ?_) 37 rfl rfl (by kernel_rfl) (by kernel_rfl) (by kernel_rfl) (fun _ _ _ h => h) (Or.inl ⟨by rfl, ?_⟩) hS ?_
      rotate_left 1
      · intro w' hSw
        try dsimp only at hSw
        obtain ⟨q1, q2, q3, q4⟩ := hSw
        go_simp
        all_goals with_reducible rfl
      try simp only [Act.put, List.setIfInBounds_toArray, List.set_cons_zero, List.set_cons_succ]
      refine held_take (i := 15) (v := ?_) 38 rfl rfl (by kernel_rfl) (by kernel_rfl) (by kernel_rfl) (fun _ _ _ h => h) (Or.inl ⟨by rfl, ?_⟩) hS ?_
      rotate_left 1
      · intro w' hSw
        try dsimp only at hSw
        obtain ⟨q1, q2, q3, q4⟩ := hSw
        go_simp
        all_goals with_reducible rfl
      try simp only [Act.put, List.setIfInBounds_toArray, List.set_cons_zero, List.set_cons_succ]
      refine held_one (i := 16) (by kernel_rfl) rfl rfl (fun K hK => ?_)
      go_simp
      refine (hq _).mono ?_
      rintro e w' ⟨rfl, rfl⟩
      refine hK _ _ hS ?_
      clear hK K hq
      try simp only [Act.put, List.setIfInBounds_toArray, List.set_cons_zero, List.set_cons_succ]
      refine held_take (i := 21) (v := ?_) 44 rfl rfl (by kernel_rfl) (by kernel_rfl) (by kernel_rfl) (fun _ _ _ h => h) (Or.inl ⟨by rfl, ?_⟩) hS ?_
      rotate_left 1
      · intro w' hSw
        try dsimp only at hSw
        obtain ⟨q1, q2, q3, q4⟩ := hSw
        go_simp
        all_goals with_reducible rfl
      try simp only [Act.put, List.setIfInBounds_toArray, List.set_cons_zero, List.set_cons_succ]
      refine held_take (i := 22) (v := ?_) 10 rfl rfl (by kernel_rfl) (by kernel_rfl) (by kernel_rfl) (fun _ _ _ h => h) (Or.inl ⟨by rfl, ?_⟩) hS ?_
      rotate_left 1
      · intro w' hSw
        try dsimp only at hSw
        obtain ⟨q1, q2, q3, q4⟩ := hSw
        go_simp
        all_goals with_reducible rfl
      try simp only [Act.put, List.setIfInBounds_toArray, List.set_cons_zero, List.set_cons_succ]
      refine wpAnyH_done (by kernel_rfl) (noPanic_normal ?_) _
      clear hS e0 e1 u1 u2 u3 u4 u5
      have hmax := max2_int
      have hmin := min2_int
      have v1 := IntWalk.i64_in (qd + z - x.bird) (by omega)
      have v2 := IntWalk.i64_in (qd + z + x.bird) (by omega)
      generalize qd + z = N0 at *
      by_cases c1 : s.lane.hi < N0
      · rw [if_pos c1] at he
        have hbig1 : Hid (k + 1 ≤ maxLen) := by show k + 1 ≤ maxLen; unfold maxLen; omega
        have hbig2 : Hid ((k + 1) * 8 ≤ 140737488355328) := by show (k + 1) * 8 ≤ 140737488355328; omega
        have hI := fun W => Into_any (max (N0 - x.bird) s.lane.hi) (-16384) 16384 W
        obtain ⟨ez, hez⟩ : ∃ ez, max (-16384) (min (max (N0 - x.bird) s.lane.hi) 16384) = ez := ⟨_, rfl⟩
        simp only [hez] at hI
        have hee : Hid (eased s x y pv z = ez) := by show _ = _; rw [he.out, ← hez] <;> first | rfl | (congr 2; omega)
        replace hez := Lib.hid hez
        obtain ⟨i0, hi0, hz0, hz1, hz2⟩ := info_parts Tryz.infoInt
        obtain ⟨c3, f3, l3⟩ := k3w.rules
        obtain ⟨c9, f9, l9⟩ := k9.rules
        have hnews : ∀ (j : Nat) (u : Value), ([.int .i64 ez] : List Value)[j]? = some u → (w6.alloc (.cells #[.int .i64 ez] 3)).cell? ((⟨w6.heap.size, 0, none⟩ : Addr).add j) = some u :=
          World.news_of_block (cs := #[.int .i64 ez]) (World.alloc_heap_new w6 _)
        have hownf := hown.alloc (.cells #[.int .i64 ez] 3)
        have hbf := hb.alloc hb.size (.cells #[.int .i64 ez] 3)
        go_wp2_with (first | (go_at_call 175; refine (hI _).mono ?_; rintro e w' ⟨rfl, rfl⟩) | (at_builtin; refine wpList_append_lies _ rfl (.tmp 73) (.tmp 76) 31 rfl w1.heap.size 3 i0 (.int .i64 0) 1 8 Tryz.underlying31 hi0 hz0 hz1 hz2 rfl (by decide) u7 k ((stepTo s o d k).map (.int .i64 ·)) rfl hownf ⟨w6.heap.size, 0, none⟩ 1 1 [.int .i64 ez] rfl rfl hnews (by simp [Value.oneCell']) (by decide) hbig1.out hbig2.out hbf.size (w6.heap.size + 1) (by simp) ?_; intro g cap w7 hown7 hgrow hlies hlt7))
        have hbg : Below w1.heap.size _ w7 := ⟨hgrow.os, hgrow.tape, hgrow.output, hgrow.size, fun b hb2 => hgrow.block b (Nat.lt_of_lt_of_le hb2 hbf.size) (fun e => by have := (hownf.lt _ e.symm).1; omega)⟩
        have hbh := hbf.trans hbg
        go_roundw
        case rel =>
          refine ⟨k + 1, by go_num, by omega, ?_, hbh⟩
          rw [hnx.out, hee.out, List.map_append]
          simpa using hown7
        case measure => simp [intOf]; omega
      · rw [if_neg c1] at he
        by_cases c2 : N0 < s.lane.lo
        · rw [if_pos c2] at he
          have hbig1 : Hid (k + 1 ≤ maxLen) := by show k + 1 ≤ maxLen; unfold maxLen; omega
          have hbig2 : Hid ((k + 1) * 8 ≤ 140737488355328) := by show (k + 1) * 8 ≤ 140737488355328; omega
          have hI := fun W => Into_any (min (N0 + x.bird) s.lane.lo) (-16384) 16384 W
          obtain ⟨ez, hez⟩ : ∃ ez, max (-16384) (min (min (N0 + x.bird) s.lane.lo) 16384) = ez := ⟨_, rfl⟩
          simp only [hez] at hI
          have hee : Hid (eased s x y pv z = ez) := by show _ = _; rw [he.out, ← hez] <;> first | rfl | (congr 2; omega)
          replace hez := Lib.hid hez
          obtain ⟨i0, hi0, hz0, hz1, hz2⟩ := info_parts Tryz.infoInt
          obtain ⟨c3, f3, l3⟩ := k3w.rules
          obtain ⟨c9, f9, l9⟩ := k9.rules
          have hnews : ∀ (j : Nat) (u : Value), ([.int .i64 ez] : List Value)[j]? = some u → (w6.alloc (.cells #[.int .i64 ez] 3)).cell? ((⟨w6.heap.size, 0, none⟩ : Addr).add j) = some u :=
            World.news_of_block (cs := #[.int .i64 ez]) (World.alloc_heap_new w6 _)
          have hownf := hown.alloc (.cells #[.int .i64 ez] 3)
          have hbf := hb.alloc hb.size (.cells #[.int .i64 ez] 3)
          go_wp2_with (first | (go_at_call 175; refine (hI _).mono ?_; rintro e w' ⟨rfl, rfl⟩) | (at_builtin; refine wpList_append_lies _ rfl (.tmp 73) (.tmp 76) 31 rfl w1.heap.size 3 i0 (.int .i64 0) 1 8 Tryz.underlying31 hi0 hz0 hz1 hz2 rfl (by decide) u7 k ((stepTo s o d k).map (.int .i64 ·)) rfl hownf ⟨w6.heap.size, 0, none⟩ 1 1 [.int .i64 ez] rfl rfl hnews (by simp [Value.oneCell']) (by decide) hbig1.out hbig2.out hbf.size (w6.heap.size + 1) (by simp) ?_; intro g cap w7 hown7 hgrow hlies hlt7))
          have hbg : Below w1.heap.size _ w7 := ⟨hgrow.os, hgrow.tape, hgrow.output, hgrow.size, fun b hb2 => hgrow.block b (Nat.lt_of_lt_of_le hb2 hbf.size) (fun e => by have := (hownf.lt _ e.symm).1; omega)⟩
          have hbh := hbf.trans hbg
          go_roundw
          case rel =>
            refine ⟨k + 1, by go_num, by omega, ?_, hbh⟩
            rw [hnx.out, hee.out, List.map_append]
            simpa using hown7
          case measure => simp [intOf]; omega
        · rw [if_neg c2] at he
          have hbig1 : Hid (k + 1 ≤ maxLen) := by show k + 1 ≤ maxLen; unfold maxLen; omega
          have hbig2 : Hid ((k + 1) * 8 ≤ 140737488355328) := by show (k + 1) * 8 ≤ 140737488355328; omega
          have hI := fun W => Into_any (N0) (-16384) 16384 W
          obtain ⟨ez, hez⟩ : ∃ ez, max (-16384) (min (N0) 16384) = ez := ⟨_, rfl⟩
          simp only [hez] at hI
          have hee : Hid (eased s x y pv z = ez) := by show _ = _; rw [he.out, ← hez] <;> first | rfl | (congr 2; omega)
          replace hez := Lib.hid hez
          obtain ⟨i0, hi0, hz0, hz1, hz2⟩ := info_parts Tryz.infoInt
          obtain ⟨c3, f3, l3⟩ := k3w.rules
          obtain ⟨c9, f9, l9⟩ := k9.rules
          have hnews : ∀ (j : Nat) (u : Value), ([.int .i64 ez] : List Value)[j]? = some u → (w6.alloc (.cells #[.int .i64 ez] 3)).cell? ((⟨w6.heap.size, 0, none⟩ : Addr).add j) = some u :=
            World.news_of_block (cs := #[.int .i64 ez]) (World.alloc_heap_new w6 _)
          have hownf := hown.alloc (.cells #[.int .i64 ez] 3)
          have hbf := hb.alloc hb.size (.cells #[.int .i64 ez] 3)
          go_wp2_with (first | (go_at_call 175; refine (hI _).mono ?_; rintro e w' ⟨rfl, rfl⟩) | (at_builtin; refine wpList_append_lies _ rfl (.tmp 73) (.tmp 76) 31 rfl w1.heap.size 3 i0 (.int .i64 0) 1 8 Tryz.underlying31 hi0 hz0 hz1 hz2 rfl (by decide) u7 k ((stepTo s o d k).map (.int .i64 ·)) rfl hownf ⟨w6.heap.size, 0, none⟩ 1 1 [.int .i64 ez] rfl rfl hnews (by simp [Value.oneCell']) (by decide) hbig1.out hbig2.out hbf.size (w6.heap.size + 1) (by simp) ?_; intro g cap w7 hown7 hgrow hlies hlt7))
          have hbg : Below w1.heap.size _ w7 := ⟨hgrow.os, hgrow.tape, hgrow.output, hgrow.size, fun b hb2 => hgrow.block b (Nat.lt_of_lt_of_le hb2 hbf.size) (fun e => by have := (hownf.lt _ e.symm).1; omega)⟩
          have hbh := hbf.trans hbg
          go_roundw
          case rel =>
            refine ⟨k + 1, by go_num, by omega, ?_, hbh⟩
            rw [hnx.out, hee.out, List.map_append]
            simpa using hown7
          case measure => simp [intOf]; omega
    · obtain rfl : k = n := by omega
      obtain ⟨c3, f3, l3⟩ := k3w.rules
      go_wp2
      go_ret
      have hlen : (stepTo s o d k).length = k := by simp [stepTo]
      obtain ⟨P, pc, e2, h2⟩ := SlAt.of_own (enc := ivs) hown (by omega) (stepTo s o d k) (flatMap_ivs _).symm (fun _ => rfl) hlen
      have hst2 : stepTo s o d k = stepL s o d := by rw [← stepTo_all, hlo.out]
      rw [hst2] at h2
      exact ⟨P, pc, by rw [e2]; rfl, h2.mono b1.size, b1.trans (hb.mono b1.size)⟩
end Go.Proofs.YtjiaepphnddpoaaGreat
