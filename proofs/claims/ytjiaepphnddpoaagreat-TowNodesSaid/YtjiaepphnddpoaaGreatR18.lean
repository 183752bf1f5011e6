/-
  Walks: the specification's nodes, Nodes; two lists of regions alike.
  Walks: the specification's Nodes and Where.
-/
import Derived.Test.YtjiaepphnddpoaaGreatR16
import Derived.Test.YtjiaepphnddpoaaGreatR8
import Derived.Test.YtjiaepphnddpoaaGreatN6
import Derived.Test.YtjiaepphnddpoaaGreatBase
import Derived.Test.YtjiaepphnddpoaaGreatR5
import Derived.Test.YtjiaepphnddpoaaGreatR15
namespace Go.Proofs.YtjiaepphnddpoaaGreat
open Go.RowKit Go.Shelf
set_option linter.unusedSimpArgs false
set_option linter.unusedVariables false

set_option maxRecDepth 100000 in
set_option maxHeartbeats 1000000 in
theorem placesEq_any (A C : Option Addr) (na ca nb cb B1 B2 : Nat) (xs : List Reg) (w : World) (h1 : SlAt w B1 8 Reg.cells A na ca xs) (h2 : SlAt w B2 8 Reg.cells C nb cb xs) :
    Calls Tryz.prog 29 #[.slice A na ca, .slice C nb cb] w fun e w' => e = .returned (.bool true) ∧ Below w.heap.size w w' := by
  have hle := h1.le
  have hl1 := Lib.hid h1.len
  obtain rfl : na = nb := by have := h1.len; have := h2.len; omega
  go_enter Tryz.func29, Tryz.ntmps29
  go_wp2_with fail
  go_loopw [5] (fun i wr => ∃ k : Nat, i = .int .i64 k ∧ k ≤ na ∧ Below w.heap.size w wr) (fun i wr => na - (intOf i).toNat)
  case atStart => exact ⟨0, rfl, Nat.zero_le _, Below.refl _ _⟩
  case round =>
    obtain ⟨k, rfl, hk, hb⟩ := hrel
    by_cases hlt : k < na
    · obtain ⟨x, hx⟩ := some_of_lt hl1.out hlt
      obtain ⟨b1, o1, hA1, -, -, z0, z1, z2, z3, z4, z5, z6, z7⟩ := (h1.keep hb.size (fun _ _ h => hb.cell h)).reg hx
      obtain ⟨b2, o2, hA2, -, -, y0, y1, y2, y3, y4, y5, y6, y7⟩ := (h2.keep hb.size (fun _ _ h => hb.cell h)).reg hx
      have t1 := IntWalk.i64_in ((k : Int) + 1) (by omega)
      have hk0 : (0 : Int) ≤ (k : Int) := by omega
      have hk1 : (k : Int) < (na : Int) := by omega
      replace hx := Lib.hid hx
      subst hA1
      subst hA2
      go_wp2_with fail
      go_quiet (fail)
      go_wp2_with fail
      go_roundw
      case rel => exact ⟨k + 1, by go_num, by omega, below_drewN hb _⟩
      case measure => simp [intOf]; omega
    · obtain rfl : k = na := by omega
      go_wp2
      go_ret
      exact ⟨rfl, hb⟩
set_option maxRecDepth 100000 in
set_option maxHeartbeats 4000000 in
theorem Rnodes_any (s : Strm) (A O : Option Addr) (n c co B1 B : Nat) (bs : List Bnd) (w : World) (ho : okStrm s = true) (hl : okOffs s bs = true) (hss : SlAt w B1 5 Sec.cells A n c s.secs) (hs : SlAt w B 2 Bnd.cells O n co bs) :
    Calls Tryz.prog 82 #[.agg #[.int .i64 s.head, .slice A n c, .int .i64 s.lane.lo, .int .i64 s.lane.hi, .int .i64 s.bend], .slice O n co] w (OwnRegs w n (nodesL s bs)) := by
  have hh := Lib.hid (ok_head ho)
  have hla := Lib.hid (okOffs_all hl)
  have hbl := Lib.hid hs.len
  have hsl := Lib.hid hss.len
  have hn8 : n ≤ 8 := by have := hh.out; unfold headOk at this; have := hsl.out; omega
  have hmin := min2_int
  have hmax := max2_int
  have hbe := fun W h => Rbends_any s A O n c co B bs W ho hl h
  replace ho := Lib.hid ho
  replace hl := Lib.hid hl
  replace hbe := Lib.hid hbe
  go_enter Tryz.func82, Tryz.ntmps82
  go_wp2_with fail
  refine (hbe.out _ (hs.alloc _)).mono ?_
  rintro e w1 ⟨O', co', rfl, hr, hb1⟩
  have k2 := (Blk.new w _ _).below hb1
  have b1 := ((Below.refl w.heap.size w).alloc (Nat.le_refl _) _).trans (hb1.mono (by simp))
  have hss1 := (hss.alloc _).below hb1
  have hs1 := (hs.alloc _).below hb1
  have hbdl := Lib.hid (show (bendL s bs).length = n by rw [bendL, eachL_length]; exact hbl.out)
  clear hb1 hss hs
  go_wp2_with fail
  go_loopw [5, 7, 8, 9] (fun v f q i wr => ∃ k : Nat, i = .int .i64 k ∧ k ≤ n ∧ f = .int .i64 (farS s k) ∧ q = .int .i64 (nearS s bs k) ∧ wr.ownsRow w1.heap.size 45 8 v k ((nodesTo s bs k).flatMap Reg.cells) ∧ Below w1.heap.size w1 wr) (fun v f q i wr => n - (intOf i).toNat)
  case atStart =>
    exact ⟨0, rfl, Nat.zero_le _, rfl, rfl, ⟨rfl, .inl ⟨rfl, rfl⟩⟩, Below.refl _ _⟩
  case round =>
    obtain ⟨k, rfl, hk, rfl, rfl, hown, hb⟩ := hrel
    by_cases hlt : k < n
    · have hk0 : (0 : Int) ≤ (k : Int) := by omega
      have hk1 : (k : Int) < (n : Int) := by omega
      obtain ⟨y, hy⟩ := some_of_lt hbdl.out hlt
      have hyd : (bendL s bs).getD k ⟨0, 0⟩ = y := by rw [List.getD_eq_getElem?_getD, hy]; rfl
      obtain ⟨z, hz⟩ := some_of_lt hbl.out hlt
      have hzd : bs.getD k ⟨0, 0⟩ = z := by rw [List.getD_eq_getElem?_getD, hz]; rfl
      have hks : k < s.secs.length := by have := hsl.out; omega
      obtain ⟨bb, ob, hO, -, hbbl, e0, e1⟩ := hr.bnd hy
      obtain ⟨bs_, os_, hA, -, hsbl, g0, -⟩ := hss1.sec (sec_at s hks)
      obtain ⟨bz, oz, hOz, -, hzbl, z0, z1⟩ := hs1.bnd hz
      replace e0 := (hb.cell (by dsimp only; omega)).trans e0
      replace e1 := (hb.cell (by dsimp only; omega)).trans e1
      have hyb := bend_hi hh.out hla.out k
      rw [hyd] at hyb
      have hsb := sec_len ho.out k
      have hfb := farS_bd ho.out k
      have hnb := nearS_bd ho.out hla.out k
      have hshb := shortS_bd hsb.1 hsb.2 hyb.1
      have hfs : Hid (farS s (k + 1) = farS s k + (s.sec k).len) := rfl
      have hns : Hid (nearS s bs (k + 1) = nearS s bs k + shortS (s.sec k).len y.hi) := by show nearS s bs k + shortS (s.sec k).len ((bendL s bs).getD k ⟨0, 0⟩).hi = _; rw [hyd]
      have hnode : Hid (nodeR s bs k = (tightR { allReg with x := ⟨-(farS s k + (s.sec k).len), -(nearS s bs k + shortS (s.sec k).len y.hi)⟩, y := z }).1) := by
        show nodeR s bs k = _
        unfold nodeR
        rw [hzd, hfs.out, hns.out]
      have m1 : min (s.sec k).len y.hi * min (s.sec k).len y.hi ≤ (s.sec k).len * (s.sec k).len := sq_le (by omega) (by omega)
      have m2 : (s.sec k).len * (s.sec k).len ≤ 1000 * 1000 := sq_le hsb.1 hsb.2
      have m3 : 0 ≤ min (s.sec k).len y.hi * min (s.sec k).len y.hi := Int.mul_nonneg (by omega) (by omega)
      have hroot := fun W => RRoot_any ((s.sec k).len * (s.sec k).len - min (s.sec k).len y.hi * min (s.sec k).len y.hi) W (by omega) (by omega)
      have hsheq : rootS ((s.sec k).len * (s.sec k).len - min (s.sec k).len y.hi * min (s.sec k).len y.hi) = shortS (s.sec k).len y.hi := by unfold shortS; rw [Int.min_comm]
      simp only [hsheq] at hroot
      clear hsheq
      have t1 := IntWalk.i64_in (farS s k + (s.sec k).len) (by omega)
      have t2 := IntWalk.i64_in (nearS s bs k + shortS (s.sec k).len y.hi) (by omega)
      have t3 := IntWalk.i64_in (-(farS s k + (s.sec k).len)) (by omega)
      have t4 := IntWalk.i64_in (-(nearS s bs k + shortS (s.sec k).len y.hi)) (by omega)
      have t5 := IntWalk.i64_in ((s.sec k).len * (s.sec k).len) (by omega)
      have t6 := IntWalk.i64_in (min (s.sec k).len y.hi * min (s.sec k).len y.hi) (by omega)
      have t7 := IntWalk.i64_in ((s.sec k).len * (s.sec k).len - min (s.sec k).len y.hi * min (s.sec k).len y.hi) (by omega)
      replace hy := Lib.hid hy
      replace hz := Lib.hid hz
      clear hyd hzd
      generalize shortS (s.sec k).len y.hi = sh at *
      generalize (s.sec k).len = ln at *
      generalize farS s k = fa at *
      generalize nearS s bs k = ne at *
      subst hO
      subst hA
      subst hOz
      have k2w := k2.belowB hb k2.lt
      have g0w := (hb.cell (p := ⟨bs_, os_ + k * 5, none⟩) hsbl).trans g0
      obtain ⟨c2, f2, l2⟩ := k2w.rules
      have lsb : bs_ < wr.heap.size := by have := hb.size; omega
      have lbz : bz < w1.heap.size := Nat.lt_of_lt_of_le hzbl (Nat.le_refl _)
      go_wp2_with fail
      refine (hroot _).mono ?_
      rintro e w' ⟨rfl, rfl⟩
      have hall := fun W => RAllReg_any W
      simp only [regA, allReg] at hall
      clear hroot m1 m2 m3 t5 t6 t7
      go_wp2_with fail
      clear c2 f2 l2
      refine (hall _).mono ?_
      rintro e w3 ⟨rfl, hb3⟩
      clear hall
      have howna := ownsRow_below hown hb3
      have hba := hb.trans (hb3.mono hb.size)
      clear hb3
      have lw3 := hba.size
      have howna0 := howna
      go_wp2_with fail
      have k10 := Blk.new w3 45 #[.int .i64 (-32768), .int .i64 32768, .int .i64 (-32768), .int .i64 32768, .int .i64 (-65536), .int .i64 65536, .int .i64 (-65536), .int .i64 65536]
      replace howna := howna.alloc (.cells #[.int .i64 (-32768), .int .i64 32768, .int .i64 (-32768), .int .i64 32768, .int .i64 (-65536), .int .i64 65536, .int .i64 (-65536), .int .i64 65536] 45)
      replace hba := hba.alloc hba.size (.cells #[.int .i64 (-32768), .int .i64 32768, .int .i64 (-32768), .int .i64 32768, .int .i64 (-65536), .int .i64 65536, .int .i64 (-65536), .int .i64 65536] 45)
      generalize hV0 : w3.alloc (.cells #[.int .i64 (-32768), .int .i64 32768, .int .i64 (-32768), .int .i64 32768, .int .i64 (-65536), .int .i64 65536, .int .i64 (-65536), .int .i64 65536] 45) = V0 at *
      clear hV0
      refine wp_held_np (fun w' : World => w'.cell? ⟨bz, oz + k * 2, none⟩ = some (.int .i64 z.lo) ∧ w'.cell? ⟨bz, oz + k * 2 + 1, none⟩ = some (.int .i64 z.hi)) (by kernel_rfl) ?_
      replace hba := hba.drew
      replace howna : V0.drew.ownsRow _ _ _ _ _ _ := howna
      replace k10 := k10.drew
      generalize V0.drew = V at *
      have hS : (fun w' : World => w'.cell? ⟨bz, oz + k * 2, none⟩ = some (.int .i64 z.lo) ∧ w'.cell? ⟨bz, oz + k * 2 + 1, none⟩ = some (.int .i64 z.hi)) V := ⟨(hba.cell (p := ⟨bz, oz + k * 2, none⟩) lbz).trans z0, (hba.cell (p := ⟨bz, oz + k * 2 + 1, none⟩) lbz).trans z1⟩
      refine held_take (i := 0) (v := ?_) 57 rfl rfl (by kernel_rfl) (by kernel_rfl) (by kernel_rfl) (fun _ _ _ h => h) (Or.inl ⟨by rfl, ?_⟩) hS ?_
      rotate_left 1
      · intro w' hSw
        try dsimp only at hSw
        obtain ⟨q1, q2⟩ := hSw
        go_simp
        all_goals with_reducible rfl
      try simp only [Act.put, List.setIfInBounds_toArray, List.set_cons_zero, List.set_cons_succ]
      refine held_take (i := 1) (v := ?_) 58 rfl rfl (by kernel_rfl) (by kernel_rfl) (by kernel_rfl) (fun _ _ _ h => h) (Or.inl ⟨by rfl, ?_⟩) hS ?_
      rotate_left 1
      · intro w' hSw
        try dsimp only at hSw
        obtain ⟨q1, q2⟩ := hSw
        go_simp
        all_goals with_reducible rfl
      try simp only [Act.put, List.setIfInBounds_toArray, List.set_cons_zero, List.set_cons_succ]
      refine held_take (i := 2) (v := ?_) 59 rfl rfl (by kernel_rfl) (by kernel_rfl) (by kernel_rfl) (fun _ _ _ h => h) (Or.inl ⟨by rfl, ?_⟩) hS ?_
      rotate_left 1
      · intro w' hSw
        try dsimp only at hSw
        obtain ⟨q1, q2⟩ := hSw
        go_simp
        all_goals with_reducible rfl
      try simp only [Act.put, List.setIfInBounds_toArray, List.set_cons_zero, List.set_cons_succ]
      refine held_take (i := 3) (v := ?_) 60 rfl rfl (by kernel_rfl) (by kernel_rfl) (by kernel_rfl) (fun _ _ _ h => h) (Or.inl ⟨by rfl, ?_⟩) hS ?_
      rotate_left 1
      · intro w' hSw
        try dsimp only at hSw
        obtain ⟨q1, q2⟩ := hSw
        go_simp
        all_goals with_reducible rfl
      try simp only [Act.put, List.setIfInBounds_toArray, List.set_cons_zero, List.set_cons_succ]
      refine held_take (i := 4) (v := ?_) 61 rfl rfl (by kernel_rfl) (by kernel_rfl) (by kernel_rfl) (fun _ _ _ h => h) (Or.inl ⟨by rfl, ?_⟩) hS ?_
      rotate_left 1
      · intro w' hSw
        try dsimp only at hSw
        obtain ⟨q1, q2⟩ := hSw
        go_simp
        all_goals with_reducible rfl
      try simp only [Act.put, List.setIfInBounds_toArray, List.set_cons_zero, List.set_cons_succ]
      refine held_take (i := 5) (v := ?_) 62 rfl rfl (by kernel_rfl) (by kernel_rfl) (by kernel_rfl) (fun _ _ _ h => h) (Or.inl ⟨by rfl, ?_⟩) hS ?_
      rotate_left 1
      · intro w' hSw
        try dsimp only at hSw
        obtain ⟨q1, q2⟩ := hSw
        go_simp
        all_goals with_reducible rfl
      try simp only [Act.put, List.setIfInBounds_toArray, List.set_cons_zero, List.set_cons_succ]
      refine held_take (i := 6) (v := ?_) 63 rfl rfl (by kernel_rfl) (by kernel_rfl) (by kernel_rfl) (fun _ _ _ h => h) (Or.inl ⟨by rfl, ?_⟩) hS ?_
      rotate_left 1
      · intro w' hSw
        try dsimp only at hSw
        obtain ⟨q1, q2⟩ := hSw
        go_simp
        all_goals with_reducible rfl
      try simp only [Act.put, List.setIfInBounds_toArray, List.set_cons_zero, List.set_cons_succ]
      refine held_take (i := 7) (v := ?_) 64 rfl rfl (by kernel_rfl) (by kernel_rfl) (by kernel_rfl) (fun _ _ _ h => h) (Or.inl ⟨by rfl, ?_⟩) hS ?_
      rotate_left 1
      · intro w' hSw
        try dsimp only at hSw
        obtain ⟨q1, q2⟩ := hSw
        go_simp
        all_goals with_reducible rfl
      try simp only [Act.put, List.setIfInBounds_toArray, List.set_cons_zero, List.set_cons_succ]
      refine held_take (i := 8) (v := ?_) 65 rfl rfl (by kernel_rfl) (by kernel_rfl) (by kernel_rfl) (fun _ _ _ h => h) (Or.inl ⟨by rfl, ?_⟩) hS ?_
      rotate_left 1
      · intro w' hSw
        try dsimp only at hSw
        obtain ⟨q1, q2⟩ := hSw
        go_simp
        all_goals with_reducible rfl
      try simp only [Act.put, List.setIfInBounds_toArray, List.set_cons_zero, List.set_cons_succ]
      refine held_take (i := 9) (v := ?_) 66 rfl rfl (by kernel_rfl) (by kernel_rfl) (by kernel_rfl) (fun _ _ _ h => h) (Or.inl ⟨by rfl, ?_⟩) hS ?_
      rotate_left 1
      · intro w' hSw
        try dsimp only at hSw
        obtain ⟨q1, q2⟩ := hSw
        go_simp
        all_goals with_reducible rfl
      try simp only [Act.put, List.setIfInBounds_toArray, List.set_cons_zero, List.set_cons_succ]
      have hvne : u5.ownBlock ≠ some w3.heap.size := fun e => by
        have := howna0.lt _ e
        omega
      have k10a := (k10.set_ 0 (.int .i64 (-(fa + ln)))).set_ 1 (.int .i64 (-(ne + sh)))
      have hbb := (hba.setCell (p := ⟨w3.heap.size, 0, none⟩) lw3 (.int .i64 (-(fa + ln)))).setCell (p := ⟨w3.heap.size, 1, none⟩) lw3 (.int .i64 (-(ne + sh)))
      have hownb := ownsRow_setCell (ownsRow_setCell howna (p := ⟨w3.heap.size, 0, none⟩) hvne (.int .i64 (-(fa + ln)))) (p := ⟨w3.heap.size, 1, none⟩) hvne (.int .i64 (-(ne + sh)))
      obtain ⟨c10, f10, l10⟩ := k10.rules
      refine held_one (i := 10) (by kernel_rfl) rfl rfl (fun K hK => ?_)
      go_simp
      refine hK _ _ ⟨(hbb.cell (p := ⟨bz, oz + k * 2, none⟩) lbz).trans z0, (hbb.cell (p := ⟨bz, oz + k * 2 + 1, none⟩) lbz).trans z1⟩ ?_
      clear hK K c10 f10 l10 hS k10 hba howna
      simp only [List.setIfInBounds_toArray, List.set_cons_zero, List.set_cons_succ] at k10a
      generalize (V.setCell ⟨w3.heap.size, 0, none⟩ (.int .i64 (-(fa + ln)))).setCell ⟨w3.heap.size, 1, none⟩ (.int .i64 (-(ne + sh))) = V1 at *
      have hS : (fun w' : World => w'.cell? ⟨bz, oz + k * 2, none⟩ = some (.int .i64 z.lo) ∧ w'.cell? ⟨bz, oz + k * 2 + 1, none⟩ = some (.int .i64 z.hi)) V1 := ⟨(hbb.cell (p := ⟨bz, oz + k * 2, none⟩) lbz).trans z0, (hbb.cell (p := ⟨bz, oz + k * 2 + 1, none⟩) lbz).trans z1⟩
      try simp only [Act.put, List.setIfInBounds_toArray, List.set_cons_zero, List.set_cons_succ]
      refine held_take (i := 11) (v := ?_) 67 rfl rfl (by kernel_rfl) (by kernel_rfl) (by kernel_rfl) (fun _ _ _ h => h) (Or.inl ⟨by rfl, ?_⟩) hS ?_
      rotate_left 1
      · intro w' hSw
        try dsimp only at hSw
        obtain ⟨q1, q2⟩ := hSw
        go_simp
        all_goals with_reducible rfl
      try simp only [Act.put, List.setIfInBounds_toArray, List.set_cons_zero, List.set_cons_succ]
      have k10b := (k10a.set_ 2 (.int .i64 z.lo)).set_ 3 (.int .i64 z.hi)
      have hbc := (hbb.setCell (p := ⟨w3.heap.size, 2, none⟩) lw3 (.int .i64 z.lo)).setCell (p := ⟨w3.heap.size, 3, none⟩) lw3 (.int .i64 z.hi)
      have hownc := ownsRow_setCell (ownsRow_setCell hownb (p := ⟨w3.heap.size, 2, none⟩) hvne (.int .i64 z.lo)) (p := ⟨w3.heap.size, 3, none⟩) hvne (.int .i64 z.hi)
      obtain ⟨c10, f10, l10⟩ := k10a.rules
      refine held_one (i := 12) (by kernel_rfl) rfl rfl (fun K hK => ?_)
      go_simp
      refine hK _ _ ⟨(hbc.cell (p := ⟨bz, oz + k * 2, none⟩) lbz).trans z0, (hbc.cell (p := ⟨bz, oz + k * 2 + 1, none⟩) lbz).trans z1⟩ ?_
      clear hK K c10 f10 l10 hS k10a hbb hownb
      simp only [List.setIfInBounds_toArray, List.set_cons_zero, List.set_cons_succ] at k10b
      generalize (V1.setCell ⟨w3.heap.size, 2, none⟩ (.int .i64 z.lo)).setCell ⟨w3.heap.size, 3, none⟩ (.int .i64 z.hi) = V2 at *
      refine wpAnyH_done (by kernel_rfl) (noPanic_normal ?_) _
      have hti := fun W => RTight_any { allReg with x := ⟨-(fa + ln), -(ne + sh)⟩, y := z } W
      simp only [← hnode.out] at hti
      simp only [regA, allReg] at hti
      obtain ⟨R, hR⟩ : ∃ R, nodeR s bs k = R := ⟨_, rfl⟩
      simp only [hR] at hti
      replace hR := Lib.hid hR
      obtain ⟨c10, f10, l10⟩ := k10b.rules
      go_wp2_with fail
      refine (hti _).mono ?_
      rintro e w6 ⟨rfl, hb6⟩
      clear hti c10 f10 l10
      have hownd := ownsRow_below hownc hb6
      have hbd := hbc.trans (hb6.mono hbc.size)
      clear k10b hownc hbc hb6
      have hnx := Lib.hid (nodesTo_succ s bs k)
      have hownf := (hownd.alloc (.cells #[.int .i64 R.x.lo, .int .i64 R.x.hi, .int .i64 R.y.lo, .int .i64 R.y.hi, .int .i64 R.s.lo, .int .i64 R.s.hi, .int .i64 R.d.lo, .int .i64 R.d.hi] 45)).alloc (.cells #[.int .i64 R.x.lo, .int .i64 R.x.hi, .int .i64 R.y.lo, .int .i64 R.y.hi, .int .i64 R.s.lo, .int .i64 R.s.hi, .int .i64 R.d.lo, .int .i64 R.d.hi] 45)
      have hbf := Below.alloc (hbd.alloc hbd.size (.cells #[.int .i64 R.x.lo, .int .i64 R.x.hi, .int .i64 R.y.lo, .int .i64 R.y.hi, .int .i64 R.s.lo, .int .i64 R.s.hi, .int .i64 R.d.lo, .int .i64 R.d.hi] 45)) (by rw [World.size_alloc]; have := hbd.size; omega) (.cells #[.int .i64 R.x.lo, .int .i64 R.x.hi, .int .i64 R.y.lo, .int .i64 R.y.hi, .int .i64 R.s.lo, .int .i64 R.s.hi, .int .i64 R.d.lo, .int .i64 R.d.hi] 45)
      have hnews : ∀ (j : Nat) (u : Value), (Reg.cells R)[j]? = some u → ((w6.alloc (.cells #[.int .i64 R.x.lo, .int .i64 R.x.hi, .int .i64 R.y.lo, .int .i64 R.y.hi, .int .i64 R.s.lo, .int .i64 R.s.hi, .int .i64 R.d.lo, .int .i64 R.d.hi] 45)).alloc (.cells #[.int .i64 R.x.lo, .int .i64 R.x.hi, .int .i64 R.y.lo, .int .i64 R.y.hi, .int .i64 R.s.lo, .int .i64 R.s.hi, .int .i64 R.d.lo, .int .i64 R.d.hi] 45)).cell? ((⟨w6.heap.size + 1, 0, none⟩ : Addr).add j) = some u :=
        World.news_of_block (cs := #[.int .i64 R.x.lo, .int .i64 R.x.hi, .int .i64 R.y.lo, .int .i64 R.y.hi, .int .i64 R.s.lo, .int .i64 R.s.hi, .int .i64 R.d.lo, .int .i64 R.d.hi]) (t := 45) (fr := (0, 0)) (by have := World.alloc_heap_new (w6.alloc (.cells #[.int .i64 R.x.lo, .int .i64 R.x.hi, .int .i64 R.y.lo, .int .i64 R.y.hi, .int .i64 R.s.lo, .int .i64 R.s.hi, .int .i64 R.d.lo, .int .i64 R.d.hi] 45)) (.cells #[.int .i64 R.x.lo, .int .i64 R.x.hi, .int .i64 R.y.lo, .int .i64 R.y.hi, .int .i64 R.s.lo, .int .i64 R.s.hi, .int .i64 R.d.lo, .int .i64 R.d.hi] 45); rw [World.size_alloc] at this; exact this)
      have hgne : ∀ b, u5.ownBlock = some b → w1.heap.size ≤ b := fun b e => (howna0.lt _ e).1
      obtain ⟨i0, hi0, hz0, hz1, hz2⟩ := info_parts Tryz.infoReg
      have hbig1 : Hid (k + 1 ≤ maxLen) := by show k + 1 ≤ maxLen; unfold maxLen; omega
      have hbig2 : Hid ((k + 1) * 64 ≤ 140737488355328) := by show (k + 1) * 64 ≤ 140737488355328; omega
      have hone := Lib.hid (regcells_one R)
      go_wp2_with (at_builtin; refine wpList_append_lies _ rfl (.tmp 73) (.tmp 75) 62 rfl w1.heap.size 45 i0 (.agg #[.int .i64 0, .int .i64 0, .int .i64 0, .int .i64 0, .int .i64 0, .int .i64 0, .int .i64 0, .int .i64 0]) 8 64 Tryz.underlying62 hi0 hz0 hz1 hz2 rfl (by decide) u5 k ((nodesTo s bs k).flatMap Reg.cells) rfl hownf ⟨w6.heap.size + 1, 0, none⟩ 1 1 (Reg.cells R) rfl rfl hnews hone.out (by decide) hbig1.out hbig2.out hbf.size (w6.heap.size + 1 + 1) (by simp) ?_; intro g cap w7 hown7 hgrow hlies hlt7)
      have hbg : Below w1.heap.size _ w7 := ⟨hgrow.os, hgrow.tape, hgrow.output, hgrow.size, fun b hb => hgrow.block b (Nat.lt_of_lt_of_le hb hbf.size) (fun e => by have := hgne _ e.symm; omega)⟩
      have hbh := hbf.trans hbg
      go_roundw
      case rel =>
        refine ⟨k + 1, by go_num, by omega, by rw [hfs.out], by rw [hns.out], ?_, hbh⟩
        rw [hnx.out, hR.out, List.flatMap_append]
        simpa using hown7
      case measure => simp [intOf]; omega
    · obtain rfl : k = n := by omega
      go_wp2
      go_ret
      obtain ⟨O2, c2, e2, h2⟩ := SlAt.of_own (enc := Reg.cells) hown (by omega) (nodesTo s bs k) rfl (fun _ => rfl) (by simp [nodesTo])
      have hnl : nodesTo s bs k = nodesL s bs := by unfold nodesTo nodesL; rw [hbl.out]
      rw [hnl] at h2
      exact ⟨O2, c2, by rw [e2]; rfl, h2.mono b1.size, b1.trans (hb.mono b1.size)⟩
end Go.Proofs.YtjiaepphnddpoaaGreat
namespace Go.Proofs.YtjiaepphnddpoaaGreat
open Go.RowKit Go.Shelf
set_option linter.unusedSimpArgs false
set_option linter.unusedVariables false

/-- The nodes of a streamer, turned, lie in the plane. -/
theorem node_plane {s : Strm} {bs : List Bnd} {h : Hdg} (hs : okStrm s = true) (hb : okOffs s bs = true) (hh : okHdg h = true) {i : Nat} (hi : i < bs.length) : inPlane (turnedS (nodeR s bs i) h) = true := by
  obtain ⟨h1, -, h3⟩ := node_tight hs hb hi
  obtain ⟨v0, hv0, -⟩ := h1.xlo
  obtain ⟨c1, c2, p1, p2, q1, q2, hn⟩ := okHdg_iff.1 hh
  obtain ⟨u, hu, -⟩ := turned_near hh hv0
  obtain ⟨⟨v3, i3, e3⟩, ⟨v4, i4, e4⟩⟩ := turnB_met (r := nodeR s bs i) (p := h.p) (q := -h.q) c1 ⟨v0, hv0⟩
  obtain ⟨⟨v5, i5, e5⟩, ⟨v6, i6, e6⟩⟩ := turnB_met (r := nodeR s bs i) (p := h.q) (q := h.p) c1 ⟨v0, hv0⟩
  generalize nodeR s bs i = r at *
  have bd : ∀ (a : Int) (v : Pnt), -h.c ≤ a → a ≤ h.c → inR v r → -(h.c * 8000) ≤ a * v.x ∧ a * v.x ≤ h.c * 8000 ∧ -(h.c * 16384) ≤ a * v.y ∧ a * v.y ≤ h.c * 16384 := by
    intro a v a1 a2 hv
    unfold inR inB at hv
    have k1 := smul_bd a1 a2 (show -8000 ≤ v.x by omega) (show v.x ≤ 8000 by omega)
    have k2 := smul_bd a1 a2 (show -16384 ≤ v.y by omega) (show v.y ≤ 16384 by omega)
    exact ⟨k1.1, k1.2, k2.1, k2.2⟩
  have a3 := bd h.p v3 p1 p2 i3
  have b3 := bd (-h.q) v3 (by omega) (by omega) i3
  have a4 := bd h.p v4 p1 p2 i4
  have b4 := bd (-h.q) v4 (by omega) (by omega) i4
  have a5 := bd h.p v5 p1 p2 i5
  have b5 := bd h.q v5 q1 q2 i5
  have a6 := bd h.p v6 p1 p2 i6
  have b6 := bd h.q v6 q1 q2 i6
  unfold inR inB at hu
  unfold inPlane turnedS at *
  dsimp only at *
  generalize turnB r h.c h.p (-h.q) = X at *
  generalize turnB r h.c h.q h.p = Y at *
  generalize h.c = c at *
  have l1 : -24384 < X.lo + 1 := mul_lt_of c1 (by omega)
  have l2 : X.hi - 1 < 24384 := mul_lt_of c1 (by omega)
  have l3 : -24384 < Y.lo + 1 := mul_lt_of c1 (by omega)
  have l4 : Y.hi - 1 < 24384 := mul_lt_of c1 (by omega)
  unfold okBnd
  simp only [Bool.and_eq_true, decide_eq_true_eq]
  omega
set_option maxRecDepth 100000 in
set_option maxHeartbeats 1000000 in
theorem RNodes_any (s : Strm) (A O : Option Addr) (n c no co B1 B : Nat) (bs : List Bnd) (w : World) (hss : SlAt w B1 5 Sec.cells A n c s.secs) (hs : SlAt w B 2 Bnd.cells O no co bs) :
    Calls Tryz.prog 28 #[.agg #[.int .i64 s.head, .slice A n c, .int .i64 s.lane.lo, .int .i64 s.lane.hi, .int .i64 s.bend], .slice O no co] w (RetSl 8 Reg.cells (nodesR s bs) w) := by
  have hbg := fun W h1 h2 => Rbegun_any s A O n c no co B1 B bs W h1 h2
  obtain ⟨w1, hw1⟩ : ∃ w1, w1 = w.alloc (.cells #[.int .i64 s.head, .slice A n c, .int .i64 s.lane.lo, .int .i64 s.lane.hi, .int .i64 s.bend] 26) := ⟨_, rfl⟩
  have k3 : Blk w1 w.heap.size 26 #[.int .i64 s.head, .slice A n c, .int .i64 s.lane.lo, .int .i64 s.lane.hi, .int .i64 s.bend] := by rw [hw1]; exact Blk.new _ _ _
  have b : Below w.heap.size w w1 := by rw [hw1]; exact (Below.refl _ _).alloc (Nat.le_refl _) _
  replace hss : SlAt w1 B1 5 Sec.cells A n c s.secs := by rw [hw1]; exact hss.alloc _
  replace hs : SlAt w1 B 2 Bnd.cells O no co bs := by rw [hw1]; exact hs.alloc _
  by_cases h1 : errB s bs = 0
  · obtain ⟨e1, e2⟩ := errB_zero h1
    have hno : no = n := by have := okOffs_len e2; have := hs.len; have := hss.len; omega
    subst hno
    have hv : nodesR s bs = (nodesL s bs, 0) := by simp [nodesR, h1]
    rw [hv]
    have hnd := fun W h1 h2 => Rnodes_any s A O no c co B1 B bs W e1 e2 h1 h2
    generalize nodesL s bs = L at *
    simp only [h1] at hbg
    clear hv h1 e1 e2
    go_enter Tryz.func28, Tryz.ntmps28
    go_wp2_with fail
    rw [← hw1]
    clear hw1
    refine (hbg _ hss hs).mono ?_
    rintro e W ⟨rfl, hbel⟩
    clear hbg
    replace k3 := k3.below hbel
    replace b := b.trans (hbel.mono b.size)
    replace hss := hss.below hbel
    replace hs := hs.below hbel
    clear hbel
    obtain ⟨c3, f3, l3⟩ := k3.rules
    go_wp2_with fail
    clear c3 f3 l3
    refine (hnd _ hss hs).mono ?_
    rintro e w2 ⟨O', co', rfl, hr, hb2⟩
    go_wp2
    go_ret2
    exact ⟨O', no, co', rfl, hr.mono b.size, b.trans (hb2.mono b.size)⟩
  · have hv : nodesR s bs = ([], errB s bs) := by simp [nodesR, h1]
    rw [hv]
    have h1' : (errB s bs != 0) = true := by rw [bne_iff_ne]; exact h1
    generalize errB s bs = er at *
    clear hv
    go_enter Tryz.func28, Tryz.ntmps28
    go_wp2_with fail
    rw [← hw1]
    clear hw1
    refine (hbg _ hss hs).mono ?_
    rintro e W ⟨rfl, hbel⟩
    go_wp2
    go_ret2
    exact RetSl.none_ (b.trans (hbel.mono b.size))
set_option maxRecDepth 100000 in
set_option maxHeartbeats 8000000 in
theorem RWhere_any (s : Strm) (A O : Option Addr) (n c no co : Nat) (bs : List Bnd) (p : Pnt) (h : Hdg) (w : World) (hs : SlAt w 0 5 Sec.cells A n c s.secs) (hl : SlAt w 0 2 Bnd.cells O no co bs) :
    Calls Tryz.prog 31 #[.agg #[.int .i64 s.head, .slice A n c, .int .i64 s.lane.lo, .int .i64 s.lane.hi, .int .i64 s.bend], .slice O no co, .agg #[.int .i64 p.x, .int .i64 p.y], .agg #[.int .i64 h.p, .int .i64 h.q, .int .i64 h.c]] w (RetSl 8 Reg.cells (whereR s bs p h) w) := by
  obtain ⟨w1, hw1⟩ : ∃ w1, w1 = ((w.alloc (.cells #[.int .i64 s.head, .slice A n c, .int .i64 s.lane.lo, .int .i64 s.lane.hi, .int .i64 s.bend] 26)).alloc (.cells #[.int .i64 p.x, .int .i64 p.y] 59)).alloc (.cells #[.int .i64 h.p, .int .i64 h.q, .int .i64 h.c] 47) := ⟨_, rfl⟩
  have k4 : Blk w1 w.heap.size 26 #[.int .i64 s.head, .slice A n c, .int .i64 s.lane.lo, .int .i64 s.lane.hi, .int .i64 s.bend] := by rw [hw1]; exact ((Blk.new _ _ _).alloc _).alloc _
  have k6 : Blk w1 (w.heap.size + 1) 59 #[.int .i64 p.x, .int .i64 p.y] := by rw [hw1]; exact (Blk.newAt (by simp)).alloc _
  have k7 : Blk w1 (w.heap.size + 1 + 1) 47 #[.int .i64 h.p, .int .i64 h.q, .int .i64 h.c] := by rw [hw1]; exact Blk.newAt (by simp)
  have b : Below w.heap.size w w1 := by rw [hw1]; exact (((Below.refl _ _).alloc (Nat.le_refl _) _).alloc (by simp) _).alloc (by simp; omega) _
  replace hs : SlAt w1 0 5 Sec.cells A n c s.secs := by rw [hw1]; exact ((hs.alloc _).alloc _).alloc _
  replace hl : SlAt w1 0 2 Bnd.cells O no co bs := by rw [hw1]; exact ((hl.alloc _).alloc _).alloc _
  have hbg := fun W h1 h2 => Rbegun_any s A O n c no co 0 0 bs W h1 h2
  have hcp := fun W => RCheckPnt_any p W
  have hch := fun W => RCheckHeading_any h W
  by_cases h1 : errB s bs = 0
  · obtain ⟨e1, e2⟩ := errB_zero h1
    have hno : n = no := by have := okOffs_len e2; have := hs.len; have := hl.len; omega
    subst hno
    have hn8 : n ≤ 8 := by have := ok_head e1; unfold headOk at this; have := hs.len; omega
    have hbl := Lib.hid hl.len
    simp only [h1] at hbg
    cases h2 : okPnt p
    · have hv : whereR s bs p h = ([], 10) := by simp [whereR, h1, h2]
      have hk : chkPnt p = 10 := by simp [chkPnt, h2]
      rw [hv]
      simp only [hk] at hcp
      clear hv hk h1 h2 hch e1 e2
      go_enter Tryz.func31, Tryz.ntmps31
      go_wp2_with fail
      rw [← hw1]
      clear hw1
      refine (hbg _ hs hl).mono ?_
      rintro e W ⟨rfl, hbel⟩
      clear hbg
      replace k4 := k4.below hbel
      replace k6 := k6.below hbel
      replace k7 := k7.below hbel
      replace b := b.trans (hbel.mono b.size)
      replace hs := hs.below hbel
      replace hl := hl.below hbel
      clear hbel
      obtain ⟨c6, f6, l6⟩ := k6.rules
      go_wp2_with fail
      clear c6 f6 l6
      refine (hcp _).mono ?_
      rintro e W ⟨rfl, hbel⟩
      clear hcp
      replace k4 := k4.below hbel
      replace k6 := k6.below hbel
      replace k7 := k7.below hbel
      replace b := b.trans (hbel.mono b.size)
      replace hs := hs.below hbel
      replace hl := hl.below hbel
      clear hbel
      go_wp2
      go_ret2
      exact RetSl.none_ b
    · have hk : chkPnt p = 0 := by simp [chkPnt, h2]
      simp only [hk] at hcp
      cases h3 : okHdg h
      · have hv : whereR s bs p h = ([], 35) := by simp [whereR, h1, h2, h3]
        have hk3 : chkHdg h = 35 := by simp [chkHdg, h3]
        rw [hv]
        simp only [hk3] at hch
        clear hv hk hk3 h1 h2 h3 e1 e2
        go_enter Tryz.func31, Tryz.ntmps31
        go_wp2_with fail
        rw [← hw1]
        clear hw1
        refine (hbg _ hs hl).mono ?_
        rintro e W ⟨rfl, hbel⟩
        clear hbg
        replace k4 := k4.below hbel
        replace k6 := k6.below hbel
        replace k7 := k7.below hbel
        replace b := b.trans (hbel.mono b.size)
        replace hs := hs.below hbel
        replace hl := hl.below hbel
        clear hbel
        obtain ⟨c6, f6, l6⟩ := k6.rules
        go_wp2_with fail
        clear c6 f6 l6
        refine (hcp _).mono ?_
        rintro e W ⟨rfl, hbel⟩
        clear hcp
        replace k4 := k4.below hbel
        replace k6 := k6.below hbel
        replace k7 := k7.below hbel
        replace b := b.trans (hbel.mono b.size)
        replace hs := hs.below hbel
        replace hl := hl.below hbel
        clear hbel
        obtain ⟨c7, f7, l7⟩ := k7.rules
        go_wp2_with fail
        clear c7 f7 l7
        refine (hch _).mono ?_
        rintro e W ⟨rfl, hbel⟩
        clear hch
        replace k4 := k4.below hbel
        replace k6 := k6.below hbel
        replace k7 := k7.below hbel
        replace b := b.trans (hbel.mono b.size)
        replace hs := hs.below hbel
        replace hl := hl.below hbel
        clear hbel
        go_wp2
        go_ret2
        exact RetSl.none_ b
      · have hv : whereR s bs p h = whereN p h (nodesL s bs) := by simp [whereR, h1, h2, h3]
        have hk3 : chkHdg h = 0 := by simp [chkHdg, h3]
        rw [hv]
        simp only [hk3] at hch
        have hnt := fun i (hi : i < bs.length) => node_tight e1 e2 hi
        have hLl : (nodesL s bs).length = n := by rw [nodesL, List.length_map, List.length_range, hbl.out]
        have hLat := fun i (hi : i < bs.length) => nodesL_at s bs hi
        have hnd := fun W hs hl => Rnodes_any s A O n c co 0 0 bs W e1 e2 hs hl
        have hpl := fun i (hi : i < bs.length) => place_eq h3 h2 (let ⟨v, hv, _⟩ := (hnt i hi).1.xlo; ⟨v, hv⟩) (node_plane e1 e2 h3 hi)
        replace h1 := Lib.hid h1
        generalize nodesL s bs = L at *
        replace hnt := Lib.hid hnt
        replace hLat := Lib.hid hLat
        replace hLl := Lib.hid hLl
        replace hpl := Lib.hid hpl
        replace h2 := Lib.hid h2
        replace h3 := Lib.hid h3
        clear hv hk hk3 e1 e2
        go_enter Tryz.func31, Tryz.ntmps31
        go_wp2_with fail
        rw [← hw1]
        clear hw1
        refine (hbg _ hs hl).mono ?_
        rintro e W ⟨rfl, hbel⟩
        clear hbg
        replace k4 := k4.below hbel
        replace k6 := k6.below hbel
        replace k7 := k7.below hbel
        replace b := b.trans (hbel.mono b.size)
        replace hs := hs.below hbel
        replace hl := hl.below hbel
        clear hbel
        obtain ⟨c6, f6, l6⟩ := k6.rules
        go_wp2_with fail
        clear c6 f6 l6
        refine (hcp _).mono ?_
        rintro e W ⟨rfl, hbel⟩
        clear hcp
        replace k4 := k4.below hbel
        replace k6 := k6.below hbel
        replace k7 := k7.below hbel
        replace b := b.trans (hbel.mono b.size)
        replace hs := hs.below hbel
        replace hl := hl.below hbel
        clear hbel
        obtain ⟨c7, f7, l7⟩ := k7.rules
        go_wp2_with fail
        clear c7 f7 l7
        refine (hch _).mono ?_
        rintro e W ⟨rfl, hbel⟩
        clear hch
        replace k4 := k4.below hbel
        replace k6 := k6.below hbel
        replace k7 := k7.below hbel
        replace b := b.trans (hbel.mono b.size)
        replace hs := hs.below hbel
        replace hl := hl.below hbel
        clear hbel
        obtain ⟨c4, f4, l4⟩ := k4.rules
        go_wp2_with fail
        clear c4 f4 l4
        refine (hnd _ hs hl).mono ?_
        rintro e W ⟨PN, cn, rfl, hr, hbel⟩
        clear hnd
        replace k4 := k4.below hbel
        replace k6 := k6.below hbel
        replace k7 := k7.below hbel
        replace b := b.trans (hbel.mono b.size)
        replace hs := hs.below hbel
        replace hl := hl.below hbel
        clear hbel
        clear k4 hs hl
        replace hr := hr.mono (Nat.zero_le _)
        go_wp2_with fail
        go_loopw [13, 15] (fun v j wr => ∃ k : Nat, j = .int .i64 k ∧ k ≤ n ∧ whereE p h L k = 0 ∧ wr.ownsRow W.heap.size 45 8 v k ((whereTo p h L k).flatMap Reg.cells) ∧ Below W.heap.size W wr) (fun v j wr => n - (intOf j).toNat)
        case atStart => exact ⟨0, rfl, Nat.zero_le _, rfl, ⟨rfl, .inl ⟨rfl, rfl⟩⟩, Below.refl _ _⟩
        case round =>
          obtain ⟨k, rfl, hk, hE, hown, hb⟩ := hrel
          have hE9 := Lib.hid hE
          clear hE
          by_cases hlt : k < n
          · have hLk := hLat.out k (by rw [hbl.out]; exact hlt)
            obtain ⟨-, hok, -⟩ := hnt.out k (by rw [hbl.out]; exact hlt)
            have hplk := hpl.out k (by rw [hbl.out]; exact hlt)
            have hLg : L.getD k noReg = nodeR s bs k := getD_of _ hLk
            have hstop : (placeR p h (nodeR s bs k)).2 ≠ 0 → whereN p h L = ([], (placeR p h (nodeR s bs k)).2) := fun hne => by
              have e := whereE_stop hE9.out (by rw [hLg]; exact hne) L.length (by rw [hLl.out]; exact hlt)
              rw [hLg] at e
              rw [whereN, e, if_neg hne]
            have hstep : (placeR p h (nodeR s bs k)).2 = 0 → whereE p h L (k + 1) = 0 ∧ (whereTo p h L (k + 1)).flatMap Reg.cells = (whereTo p h L k).flatMap Reg.cells ++ Reg.cells (placeR p h (nodeR s bs k)).1 := fun he => by
              refine ⟨by rw [whereE, if_pos hE9.out, hLg, he], ?_⟩
              rw [whereTo_succ, List.flatMap_append, hLg]; simp
            have k6w := k6.below hb
            have k7w := k7.below hb
            obtain ⟨bN, oN, hA, -, hbN, z0, z1, z2, z3, z4, z5, z6, z7⟩ := (hr.below hb).reg hLk
            subst hA
            generalize nodeR s bs k = r at *
            have htu := fun W => Rturned_any r h W hok h3.out
            simp only [regA] at htu
            obtain ⟨ho2, t, ht, hpe⟩ := hplk
            have hmv := fun W => RMove_any (turnedS r h) t p W ho2 h2.out ht
            simp only [← hpe] at hmv
            obtain ⟨⟨R, er⟩, hR⟩ : ∃ R, placeR p h r = R := ⟨_, rfl⟩
            simp only [hR] at hmv
            replace hR := Lib.hid hR
            replace hpe := Lib.hid hpe
            replace ht := Lib.hid ht
            replace ho2 := Lib.hid ho2
            simp only [regA] at hmv
            obtain ⟨T, hT⟩ : ∃ T, turnedS r h = T := ⟨_, rfl⟩
            simp only [hT] at hmv htu
            replace hT := Lib.hid hT
            have hk0 : (0 : Int) ≤ (k : Int) := by omega
            have hk1 : (k : Int) < (n : Int) := by omega
            replace hLk := Lib.hid hLk
            replace hLg := Lib.hid hLg
            replace hok := Lib.hid hok
            replace hstop := Lib.hid hstop
            replace hstep := Lib.hid hstep
            go_wp2_with fail
            refine wp_held_np (fun w' : World => w'.cell? ⟨bN, oN + k * 8, none⟩ = some (.int .i64 r.x.lo) ∧ w'.cell? ⟨bN, oN + k * 8 + 1, none⟩ = some (.int .i64 r.x.hi) ∧ w'.cell? ⟨bN, oN + k * 8 + 2, none⟩ = some (.int .i64 r.y.lo) ∧ w'.cell? ⟨bN, oN + k * 8 + 3, none⟩ = some (.int .i64 r.y.hi) ∧ w'.cell? ⟨bN, oN + k * 8 + 4, none⟩ = some (.int .i64 r.s.lo) ∧ w'.cell? ⟨bN, oN + k * 8 + 5, none⟩ = some (.int .i64 r.s.hi) ∧ w'.cell? ⟨bN, oN + k * 8 + 6, none⟩ = some (.int .i64 r.d.lo) ∧ w'.cell? ⟨bN, oN + k * 8 + 7, none⟩ = some (.int .i64 r.d.hi) ∧ (∀ j, w'.cell? ⟨w.heap.size + 1, j, none⟩ = #[Value.int .i64 p.x, .int .i64 p.y][j]?) ∧ (∀ j, w'.cell? ⟨w.heap.size + 1 + 1, j, none⟩ = #[Value.int .i64 h.p, .int .i64 h.q, .int .i64 h.c][j]?)) (by kernel_rfl) ?_
            have hSb : Hid (∀ W', Below wr.heap.size wr W' → (fun w' : World => w'.cell? ⟨bN, oN + k * 8, none⟩ = some (.int .i64 r.x.lo) ∧ w'.cell? ⟨bN, oN + k * 8 + 1, none⟩ = some (.int .i64 r.x.hi) ∧ w'.cell? ⟨bN, oN + k * 8 + 2, none⟩ = some (.int .i64 r.y.lo) ∧ w'.cell? ⟨bN, oN + k * 8 + 3, none⟩ = some (.int .i64 r.y.hi) ∧ w'.cell? ⟨bN, oN + k * 8 + 4, none⟩ = some (.int .i64 r.s.lo) ∧ w'.cell? ⟨bN, oN + k * 8 + 5, none⟩ = some (.int .i64 r.s.hi) ∧ w'.cell? ⟨bN, oN + k * 8 + 6, none⟩ = some (.int .i64 r.d.lo) ∧ w'.cell? ⟨bN, oN + k * 8 + 7, none⟩ = some (.int .i64 r.d.hi) ∧ (∀ j, w'.cell? ⟨w.heap.size + 1, j, none⟩ = #[Value.int .i64 p.x, .int .i64 p.y][j]?) ∧ (∀ j, w'.cell? ⟨w.heap.size + 1 + 1, j, none⟩ = #[Value.int .i64 h.p, .int .i64 h.q, .int .i64 h.c][j]?)) W') := by
              show ∀ _, _
              intro W' hb9
              exact ⟨(hb9.cell (p := ⟨bN, oN + k * 8, none⟩) hbN).trans z0, (hb9.cell (p := ⟨bN, oN + k * 8 + 1, none⟩) hbN).trans z1, (hb9.cell (p := ⟨bN, oN + k * 8 + 2, none⟩) hbN).trans z2, (hb9.cell (p := ⟨bN, oN + k * 8 + 3, none⟩) hbN).trans z3, (hb9.cell (p := ⟨bN, oN + k * 8 + 4, none⟩) hbN).trans z4, (hb9.cell (p := ⟨bN, oN + k * 8 + 5, none⟩) hbN).trans z5, (hb9.cell (p := ⟨bN, oN + k * 8 + 6, none⟩) hbN).trans z6, (hb9.cell (p := ⟨bN, oN + k * 8 + 7, none⟩) hbN).trans z7, fun j => (hb9.cell (p := ⟨w.heap.size + 1, j, none⟩) k6w.lt).trans (k6w.cell j), fun j => (hb9.cell (p := ⟨w.heap.size + 1 + 1, j, none⟩) k7w.lt).trans (k7w.cell j)⟩
            have hb9 : Below wr.heap.size wr wr.drew := (Below.refl _ _).drew
            clear z0 z1 z2 z3 z4 z5 z6 z7
            have hS := hSb.out _ hb9
            generalize wr.drew = wd at *
            refine held_take (i := 0) (v := ?_) 44 rfl rfl (by kernel_rfl) (by kernel_rfl) (by kernel_rfl) (fun _ _ _ h => h) (Or.inl ⟨by rfl, ?_⟩) hS ?_
            rotate_left 1
            · intro w' hSw
              try dsimp only at hSw
              obtain ⟨q0, q1, q2, q3, q4, q5, q6, q7, q8, q9⟩ := hSw
              go_simp
              all_goals with_reducible rfl
            try simp only [Act.put, List.setIfInBounds_toArray, List.set_cons_zero, List.set_cons_succ]
            refine held_take (i := 1) (v := ?_) 45 rfl rfl (by kernel_rfl) (by kernel_rfl) (by kernel_rfl) (fun _ _ _ h => h) (Or.inl ⟨by rfl, ?_⟩) hS ?_
            rotate_left 1
            · intro w' hSw
              try dsimp only at hSw
              obtain ⟨q0, q1, q2, q3, q4, q5, q6, q7, q8, q9⟩ := hSw
              go_simp
              all_goals with_reducible rfl
            try simp only [Act.put, List.setIfInBounds_toArray, List.set_cons_zero, List.set_cons_succ]
            refine held_take (i := 2) (v := ?_) 46 rfl rfl (by kernel_rfl) (by kernel_rfl) (by kernel_rfl) (fun _ _ _ h => h) (Or.inl ⟨by rfl, ?_⟩) hS ?_
            rotate_left 1
            · intro w' hSw
              try dsimp only at hSw
              obtain ⟨q0, q1, q2, q3, q4, q5, q6, q7, q8, q9⟩ := hSw
              go_simp
              all_goals with_reducible rfl
            try simp only [Act.put, List.setIfInBounds_toArray, List.set_cons_zero, List.set_cons_succ]
            refine held_take (i := 3) (v := ?_) 47 rfl rfl (by kernel_rfl) (by kernel_rfl) (by kernel_rfl) (fun _ _ _ h => h) (Or.inl ⟨by rfl, ?_⟩) hS ?_
            rotate_left 1
            · intro w' hSw
              try dsimp only at hSw
              obtain ⟨q0, q1, q2, q3, q4, q5, q6, q7, q8, q9⟩ := hSw
              go_simp
              all_goals with_reducible rfl
            try simp only [Act.put, List.setIfInBounds_toArray, List.set_cons_zero, List.set_cons_succ]
            refine held_take (i := 4) (v := ?_) 48 rfl rfl (by kernel_rfl) (by kernel_rfl) (by kernel_rfl) (fun _ _ _ h => h) (Or.inl ⟨by rfl, ?_⟩) hS ?_
            rotate_left 1
            · intro w' hSw
              try dsimp only at hSw
              obtain ⟨q0, q1, q2, q3, q4, q5, q6, q7, q8, q9⟩ := hSw
              go_simp
              all_goals with_reducible rfl
            try simp only [Act.put, List.setIfInBounds_toArray, List.set_cons_zero, List.set_cons_succ]
            refine held_take (i := 6) (v := ?_) 50 rfl rfl (by kernel_rfl) (by kernel_rfl) (by kernel_rfl) (fun _ _ _ h => h) (Or.inl ⟨by rfl, ?_⟩) hS ?_
            rotate_left 1
            · intro w' hSw
              try dsimp only at hSw
              obtain ⟨q0, q1, q2, q3, q4, q5, q6, q7, q8, q9⟩ := hSw
              go_simp
              all_goals with_reducible rfl
            try simp only [Act.put, List.setIfInBounds_toArray, List.set_cons_zero, List.set_cons_succ]
            refine wpAnyH_fin (f := fun a g => ((((((a.put (some 49) (.agg #[.int .i64 T.x.lo, .int .i64 T.x.hi, .int .i64 T.y.lo, .int .i64 T.y.hi, .int .i64 T.s.lo, .int .i64 T.s.hi, .int .i64 T.d.lo, .int .i64 T.d.hi])).put (some 51) (.tuple #[.agg #[.int .i64 R.x.lo, .int .i64 R.x.hi, .int .i64 R.y.lo, .int .i64 R.y.hi, .int .i64 R.s.lo, .int .i64 R.s.hi, .int .i64 R.d.lo, .int .i64 R.d.hi], .int .i64 er])).put (some 43) (.tuple #[.agg #[.int .i64 R.x.lo, .int .i64 R.x.hi, .int .i64 R.y.lo, .int .i64 R.y.hi, .int .i64 R.s.lo, .int .i64 R.s.hi, .int .i64 R.d.lo, .int .i64 R.d.hi], .int .i64 er])).put (some 52) (.agg #[.int .i64 R.x.lo, .int .i64 R.x.hi, .int .i64 R.y.lo, .int .i64 R.y.hi, .int .i64 R.s.lo, .int .i64 R.s.hi, .int .i64 R.d.lo, .int .i64 R.d.hi])).put (some 53) (.int .i64 er)).put (some 16) (.pointer (some ⟨g, 0, none⟩))).put (some 17) (.int .i64 er)) (B := fun g W' => Blk W' g 45 #[.int .i64 R.x.lo, .int .i64 R.x.hi, .int .i64 R.y.lo, .int .i64 R.y.hi, .int .i64 R.s.lo, .int .i64 R.s.hi, .int .i64 R.d.lo, .int .i64 R.d.hi] ∧ Below wr.heap.size wr W') ?_ (fun hrest => ?_)
            · rintro g10 W3 ⟨k10, hb10⟩
              try simp only [Act.put, List.setIfInBounds_toArray, List.set_cons_zero, List.set_cons_succ]
              refine noPanic_normal ?_
              clear hS hSb htu hmv
              replace hown := ownsRow_below hown hb10
              replace hb := hb.trans (hb10.mono hb.size)
              clear hb9 hb10
              by_cases her : er = 0
              · subst her
                obtain ⟨hE2, hnx⟩ := hstep.out (by rw [hR.out])
                rw [hR.out] at hnx
                replace hE2 := Lib.hid hE2
                replace hnx := Lib.hid hnx
                have hown0 := hown
                have hownf := hown.alloc (.cells #[.int .i64 R.x.lo, .int .i64 R.x.hi, .int .i64 R.y.lo, .int .i64 R.y.hi, .int .i64 R.s.lo, .int .i64 R.s.hi, .int .i64 R.d.lo, .int .i64 R.d.hi] 45)
                have hbf := hb.alloc hb.size (.cells #[.int .i64 R.x.lo, .int .i64 R.x.hi, .int .i64 R.y.lo, .int .i64 R.y.hi, .int .i64 R.s.lo, .int .i64 R.s.hi, .int .i64 R.d.lo, .int .i64 R.d.hi] 45)
                have hnews : ∀ (j : Nat) (u : Value), (Reg.cells R)[j]? = some u → (W3.alloc (.cells #[.int .i64 R.x.lo, .int .i64 R.x.hi, .int .i64 R.y.lo, .int .i64 R.y.hi, .int .i64 R.s.lo, .int .i64 R.s.hi, .int .i64 R.d.lo, .int .i64 R.d.hi] 45)).cell? ((⟨W3.heap.size, 0, none⟩ : Addr).add j) = some u :=
                  World.news_of_block (cs := #[.int .i64 R.x.lo, .int .i64 R.x.hi, .int .i64 R.y.lo, .int .i64 R.y.hi, .int .i64 R.s.lo, .int .i64 R.s.hi, .int .i64 R.d.lo, .int .i64 R.d.hi]) (t := 45) (fr := (0, 0)) (World.alloc_heap_new _ _)
                obtain ⟨i0, hi0, hz0, hz1, hz2⟩ := info_parts Tryz.infoReg
                have hbig1 : Hid (k + 1 ≤ maxLen) := by show k + 1 ≤ maxLen; unfold maxLen; omega
                have hbig2 : Hid ((k + 1) * 64 ≤ 140737488355328) := by show (k + 1) * 64 ≤ 140737488355328; omega
                have hone := Lib.hid (regcells_one R)
                obtain ⟨c10, f10, l10⟩ := k10.rules
                go_wp2_with (at_builtin; refine wpList_append_lies _ rfl (.tmp 57) (.tmp 59) 62 rfl W.heap.size 45 i0 (.agg #[.int .i64 0, .int .i64 0, .int .i64 0, .int .i64 0, .int .i64 0, .int .i64 0, .int .i64 0, .int .i64 0]) 8 64 Tryz.underlying62 hi0 hz0 hz1 hz2 rfl (by decide) u13 k ((whereTo p h L k).flatMap Reg.cells) rfl hownf ⟨W3.heap.size, 0, none⟩ 1 1 (Reg.cells R) rfl rfl hnews hone.out (by decide) hbig1.out hbig2.out hbf.size (W3.heap.size + 1) (by simp) ?_; intro g cap w7 hown7 hgrow hlies hlt7)
                have hbg : Below W.heap.size _ w7 := ⟨hgrow.os, hgrow.tape, hgrow.output, hgrow.size, fun b hb => hgrow.block b (Nat.lt_of_lt_of_le hb hbf.size) (fun e => by have := (hown0.lt _ e.symm).1; omega)⟩
                have hbh := hbf.trans hbg
                go_roundw
                case rel =>
                  refine ⟨k + 1, by go_num, by omega, hE2.out, ?_, hbh⟩
                  rw [hnx.out]
                  exact hown7
                case measure => simp [intOf]; omega
              · have her2 : (er != 0) = true := by rw [bne_iff_ne]; exact her
                have hv2 := hstop.out (by rw [hR.out]; exact her)
                rw [hR.out] at hv2
                replace her := Lib.hid her
                have hbz := b.trans (hb.mono b.size)
                replace hv2 := Lib.hid hv2
                go_wp2
                go_ret2
                exact ⟨none, 0, 0, by rw [hv2.out]; rfl, by rw [hv2.out]; exact SlAt.nil _ _ _ _, hbz⟩
            · try simp only [Act.put, List.setIfInBounds_toArray, List.set_cons_zero, List.set_cons_succ] at hrest
              refine held_two (i := 5) (j := 11) (by kernel_rfl) rfl rfl rfl rfl (fun K hK => ?_) (fun K hK => ?_)
              · skip
                go_simp
                refine (htu _).mono ?_
                rintro e W5 ⟨rfl, hbel⟩
                replace hb9 := hb9.trans (hbel.mono hb9.size)
                skip
                clear hS hbel
                have hS := hSb.out _ hb9
                refine hK _ _ hS ?_
                clear hK K
                try simp only [Act.put, List.setIfInBounds_toArray, List.set_cons_zero, List.set_cons_succ]
                refine held_two (i := 7) (j := 11) (by kernel_rfl) rfl rfl rfl rfl (fun K hK => ?_) (fun K hK => ?_)
                · skip
                  go_simp
                  refine (hmv _).mono ?_
                  rintro e W6 ⟨rfl, hbel⟩
                  replace hb9 := hb9.trans (hbel.mono hb9.size)
                  skip
                  clear hS hbel
                  have hS := hSb.out _ hb9
                  refine hK _ _ hS ?_
                  clear hK K
                  try simp only [Act.put, List.setIfInBounds_toArray, List.set_cons_zero, List.set_cons_succ]
                  refine held_take (i := 8) (v := ?_) 43 rfl rfl (by kernel_rfl) (by kernel_rfl) (by kernel_rfl) (fun _ _ _ h => h) (Or.inl ⟨by rfl, ?_⟩) hS ?_
                  rotate_left 1
                  · intro w' hSw
                    try dsimp only at hSw
                    obtain ⟨q0, q1, q2, q3, q4, q5, q6, q7, q8, q9⟩ := hSw
                    go_simp
                    all_goals with_reducible rfl
                  try simp only [Act.put, List.setIfInBounds_toArray, List.set_cons_zero, List.set_cons_succ]
                  refine held_take (i := 9) (v := ?_) 52 rfl rfl (by kernel_rfl) (by kernel_rfl) (by kernel_rfl) (fun _ _ _ h => h) (Or.inl ⟨by rfl, ?_⟩) hS ?_
                  rotate_left 1
                  · intro w' hSw
                    try dsimp only at hSw
                    obtain ⟨q0, q1, q2, q3, q4, q5, q6, q7, q8, q9⟩ := hSw
                    go_simp
                    all_goals with_reducible rfl
                  try simp only [Act.put, List.setIfInBounds_toArray, List.set_cons_zero, List.set_cons_succ]
                  refine held_take (i := 10) (v := ?_) 53 rfl rfl (by kernel_rfl) (by kernel_rfl) (by kernel_rfl) (fun _ _ _ h => h) (Or.inl ⟨by rfl, ?_⟩) hS ?_
                  rotate_left 1
                  · intro w' hSw
                    try dsimp only at hSw
                    obtain ⟨q0, q1, q2, q3, q4, q5, q6, q7, q8, q9⟩ := hSw
                    go_simp
                    all_goals with_reducible rfl
                  try simp only [Act.put, List.setIfInBounds_toArray, List.set_cons_zero, List.set_cons_succ]
                  refine held_one (i := 11) (by kernel_rfl) rfl rfl (fun K hK => ?_)
                  go_simp
                  have hgg := hb9.size
                  have k10 := Blk.new W6 45 #[.int .i64 0, .int .i64 0, .int .i64 0, .int .i64 0, .int .i64 0, .int .i64 0, .int .i64 0, .int .i64 0]
                  replace hb9 := hb9.alloc hb9.size (.cells #[.int .i64 0, .int .i64 0, .int .i64 0, .int .i64 0, .int .i64 0, .int .i64 0, .int .i64 0, .int .i64 0] 45)
                  clear hS
                  have hS := hSb.out _ hb9
                  refine hK _ _ hS ?_
                  clear hK K
                  try simp only [Act.put, List.setIfInBounds_toArray, List.set_cons_zero, List.set_cons_succ]
                  generalize W6.heap.size = g10 at *
                  generalize W6.alloc (.cells #[.int .i64 0, .int .i64 0, .int .i64 0, .int .i64 0, .int .i64 0, .int .i64 0, .int .i64 0, .int .i64 0] 45) = W7 at *
                  have kz := k10.set8 (.int .i64 R.x.lo) (.int .i64 R.x.hi) (.int .i64 R.y.lo) (.int .i64 R.y.hi) (.int .i64 R.s.lo) (.int .i64 R.s.hi) (.int .i64 R.d.lo) (.int .i64 R.d.hi)
                  have bz := below_set8 (g := g10) hb9 (by have := hgg; omega) (.int .i64 R.x.lo) (.int .i64 R.x.hi) (.int .i64 R.y.lo) (.int .i64 R.y.hi) (.int .i64 R.s.lo) (.int .i64 R.s.hi) (.int .i64 R.d.lo) (.int .i64 R.d.hi)
                  obtain ⟨wz, hwz⟩ : ∃ x, x = set8 W7 (g10) (.int .i64 R.x.lo) (.int .i64 R.x.hi) (.int .i64 R.y.lo) (.int .i64 R.y.hi) (.int .i64 R.s.lo) (.int .i64 R.s.hi) (.int .i64 R.d.lo) (.int .i64 R.d.hi) := ⟨_, rfl⟩
                  rw [← hwz] at kz bz
                  simp only [set8] at hwz
                  obtain ⟨c10, f10, l10⟩ := k10.rules
                  refine held_one (i := 12) (by kernel_rfl) rfl rfl (fun K hK => ?_)
                  go_simp
                  rw [← hwz]
                  clear hwz c10 f10 l10 hS
                  have hS := hSb.out _ bz
                  refine hK _ _ hS ?_
                  clear hK K
                  try simp only [Act.put, List.setIfInBounds_toArray, List.set_cons_zero, List.set_cons_succ]
                  refine held_take (i := 13) (v := ?_) 17 rfl rfl (by kernel_rfl) (by kernel_rfl) (by kernel_rfl) (fun _ _ _ h => h) (Or.inl ⟨by rfl, ?_⟩) hS ?_
                  rotate_left 1
                  · intro w' hSw
                    try dsimp only at hSw
                    obtain ⟨q0, q1, q2, q3, q4, q5, q6, q7, q8, q9⟩ := hSw
                    go_simp
                    all_goals with_reducible rfl
                  try simp only [Act.put, List.setIfInBounds_toArray, List.set_cons_zero, List.set_cons_succ]
                  refine wpAnyH_done (by kernel_rfl) (hrest (g10) _ ⟨kz, bz⟩) _
                · skip
                  go_simp
                  have hgg := hb9.size
                  have k10 := Blk.new W5 45 #[.int .i64 0, .int .i64 0, .int .i64 0, .int .i64 0, .int .i64 0, .int .i64 0, .int .i64 0, .int .i64 0]
                  replace hb9 := hb9.alloc hb9.size (.cells #[.int .i64 0, .int .i64 0, .int .i64 0, .int .i64 0, .int .i64 0, .int .i64 0, .int .i64 0, .int .i64 0] 45)
                  clear hS
                  have hS := hSb.out _ hb9
                  refine hK _ _ hS ?_
                  clear hK K
                  try simp only [Act.put, List.setIfInBounds_toArray, List.set_cons_zero, List.set_cons_succ]
                  generalize W5.heap.size = g10 at *
                  generalize W5.alloc (.cells #[.int .i64 0, .int .i64 0, .int .i64 0, .int .i64 0, .int .i64 0, .int .i64 0, .int .i64 0, .int .i64 0] 45) = W6 at *
                  refine held_one (i := 7) (by kernel_rfl) rfl rfl (fun K hK => ?_)
                  go_simp
                  refine (hmv _).mono ?_
                  rintro e W7 ⟨rfl, hbel⟩
                  replace hb9 := hb9.trans (hbel.mono hb9.size)
                  replace k10 := k10.below hbel
                  clear hS hbel
                  have hS := hSb.out _ hb9
                  refine hK _ _ hS ?_
                  clear hK K
                  try simp only [Act.put, List.setIfInBounds_toArray, List.set_cons_zero, List.set_cons_succ]
                  refine held_take (i := 8) (v := ?_) 43 rfl rfl (by kernel_rfl) (by kernel_rfl) (by kernel_rfl) (fun _ _ _ h => h) (Or.inl ⟨by rfl, ?_⟩) hS ?_
                  rotate_left 1
                  · intro w' hSw
                    try dsimp only at hSw
                    obtain ⟨q0, q1, q2, q3, q4, q5, q6, q7, q8, q9⟩ := hSw
                    go_simp
                    all_goals with_reducible rfl
                  try simp only [Act.put, List.setIfInBounds_toArray, List.set_cons_zero, List.set_cons_succ]
                  refine held_take (i := 9) (v := ?_) 52 rfl rfl (by kernel_rfl) (by kernel_rfl) (by kernel_rfl) (fun _ _ _ h => h) (Or.inl ⟨by rfl, ?_⟩) hS ?_
                  rotate_left 1
                  · intro w' hSw
                    try dsimp only at hSw
                    obtain ⟨q0, q1, q2, q3, q4, q5, q6, q7, q8, q9⟩ := hSw
                    go_simp
                    all_goals with_reducible rfl
                  try simp only [Act.put, List.setIfInBounds_toArray, List.set_cons_zero, List.set_cons_succ]
                  refine held_take (i := 10) (v := ?_) 53 rfl rfl (by kernel_rfl) (by kernel_rfl) (by kernel_rfl) (fun _ _ _ h => h) (Or.inl ⟨by rfl, ?_⟩) hS ?_
                  rotate_left 1
                  · intro w' hSw
                    try dsimp only at hSw
                    obtain ⟨q0, q1, q2, q3, q4, q5, q6, q7, q8, q9⟩ := hSw
                    go_simp
                    all_goals with_reducible rfl
                  try simp only [Act.put, List.setIfInBounds_toArray, List.set_cons_zero, List.set_cons_succ]
                  have kz := k10.set8 (.int .i64 R.x.lo) (.int .i64 R.x.hi) (.int .i64 R.y.lo) (.int .i64 R.y.hi) (.int .i64 R.s.lo) (.int .i64 R.s.hi) (.int .i64 R.d.lo) (.int .i64 R.d.hi)
                  have bz := below_set8 (g := g10) hb9 (by have := hgg; omega) (.int .i64 R.x.lo) (.int .i64 R.x.hi) (.int .i64 R.y.lo) (.int .i64 R.y.hi) (.int .i64 R.s.lo) (.int .i64 R.s.hi) (.int .i64 R.d.lo) (.int .i64 R.d.hi)
                  obtain ⟨wz, hwz⟩ : ∃ x, x = set8 W7 (g10) (.int .i64 R.x.lo) (.int .i64 R.x.hi) (.int .i64 R.y.lo) (.int .i64 R.y.hi) (.int .i64 R.s.lo) (.int .i64 R.s.hi) (.int .i64 R.d.lo) (.int .i64 R.d.hi) := ⟨_, rfl⟩
                  rw [← hwz] at kz bz
                  simp only [set8] at hwz
                  obtain ⟨c10, f10, l10⟩ := k10.rules
                  refine held_one (i := 12) (by kernel_rfl) rfl rfl (fun K hK => ?_)
                  go_simp
                  rw [← hwz]
                  clear hwz c10 f10 l10 hS
                  have hS := hSb.out _ bz
                  refine hK _ _ hS ?_
                  clear hK K
                  try simp only [Act.put, List.setIfInBounds_toArray, List.set_cons_zero, List.set_cons_succ]
                  refine held_take (i := 13) (v := ?_) 17 rfl rfl (by kernel_rfl) (by kernel_rfl) (by kernel_rfl) (fun _ _ _ h => h) (Or.inl ⟨by rfl, ?_⟩) hS ?_
                  rotate_left 1
                  · intro w' hSw
                    try dsimp only at hSw
                    obtain ⟨q0, q1, q2, q3, q4, q5, q6, q7, q8, q9⟩ := hSw
                    go_simp
                    all_goals with_reducible rfl
                  try simp only [Act.put, List.setIfInBounds_toArray, List.set_cons_zero, List.set_cons_succ]
                  refine wpAnyH_done (by kernel_rfl) (hrest (g10) _ ⟨kz, bz⟩) _
              · skip
                go_simp
                have hgg := hb9.size
                have k10 := Blk.new wd 45 #[.int .i64 0, .int .i64 0, .int .i64 0, .int .i64 0, .int .i64 0, .int .i64 0, .int .i64 0, .int .i64 0]
                replace hb9 := hb9.alloc hb9.size (.cells #[.int .i64 0, .int .i64 0, .int .i64 0, .int .i64 0, .int .i64 0, .int .i64 0, .int .i64 0, .int .i64 0] 45)
                clear hS
                have hS := hSb.out _ hb9
                refine hK _ _ hS ?_
                clear hK K
                try simp only [Act.put, List.setIfInBounds_toArray, List.set_cons_zero, List.set_cons_succ]
                generalize wd.heap.size = g10 at *
                generalize wd.alloc (.cells #[.int .i64 0, .int .i64 0, .int .i64 0, .int .i64 0, .int .i64 0, .int .i64 0, .int .i64 0, .int .i64 0] 45) = W5 at *
                refine held_one (i := 5) (by kernel_rfl) rfl rfl (fun K hK => ?_)
                go_simp
                refine (htu _).mono ?_
                rintro e W6 ⟨rfl, hbel⟩
                replace hb9 := hb9.trans (hbel.mono hb9.size)
                replace k10 := k10.below hbel
                clear hS hbel
                have hS := hSb.out _ hb9
                refine hK _ _ hS ?_
                clear hK K
                try simp only [Act.put, List.setIfInBounds_toArray, List.set_cons_zero, List.set_cons_succ]
                refine held_one (i := 7) (by kernel_rfl) rfl rfl (fun K hK => ?_)
                go_simp
                refine (hmv _).mono ?_
                rintro e W7 ⟨rfl, hbel⟩
                replace hb9 := hb9.trans (hbel.mono hb9.size)
                replace k10 := k10.below hbel
                clear hS hbel
                have hS := hSb.out _ hb9
                refine hK _ _ hS ?_
                clear hK K
                try simp only [Act.put, List.setIfInBounds_toArray, List.set_cons_zero, List.set_cons_succ]
                refine held_take (i := 8) (v := ?_) 43 rfl rfl (by kernel_rfl) (by kernel_rfl) (by kernel_rfl) (fun _ _ _ h => h) (Or.inl ⟨by rfl, ?_⟩) hS ?_
                rotate_left 1
                · intro w' hSw
                  try dsimp only at hSw
                  obtain ⟨q0, q1, q2, q3, q4, q5, q6, q7, q8, q9⟩ := hSw
                  go_simp
                  all_goals with_reducible rfl
                try simp only [Act.put, List.setIfInBounds_toArray, List.set_cons_zero, List.set_cons_succ]
                refine held_take (i := 9) (v := ?_) 52 rfl rfl (by kernel_rfl) (by kernel_rfl) (by kernel_rfl) (fun _ _ _ h => h) (Or.inl ⟨by rfl, ?_⟩) hS ?_
                rotate_left 1
                · intro w' hSw
                  try dsimp only at hSw
                  obtain ⟨q0, q1, q2, q3, q4, q5, q6, q7, q8, q9⟩ := hSw
                  go_simp
                  all_goals with_reducible rfl
                try simp only [Act.put, List.setIfInBounds_toArray, List.set_cons_zero, List.set_cons_succ]
                refine held_take (i := 10) (v := ?_) 53 rfl rfl (by kernel_rfl) (by kernel_rfl) (by kernel_rfl) (fun _ _ _ h => h) (Or.inl ⟨by rfl, ?_⟩) hS ?_
                rotate_left 1
                · intro w' hSw
                  try dsimp only at hSw
                  obtain ⟨q0, q1, q2, q3, q4, q5, q6, q7, q8, q9⟩ := hSw
                  go_simp
                  all_goals with_reducible rfl
                try simp only [Act.put, List.setIfInBounds_toArray, List.set_cons_zero, List.set_cons_succ]
                have kz := k10.set8 (.int .i64 R.x.lo) (.int .i64 R.x.hi) (.int .i64 R.y.lo) (.int .i64 R.y.hi) (.int .i64 R.s.lo) (.int .i64 R.s.hi) (.int .i64 R.d.lo) (.int .i64 R.d.hi)
                have bz := below_set8 (g := g10) hb9 (by have := hgg; omega) (.int .i64 R.x.lo) (.int .i64 R.x.hi) (.int .i64 R.y.lo) (.int .i64 R.y.hi) (.int .i64 R.s.lo) (.int .i64 R.s.hi) (.int .i64 R.d.lo) (.int .i64 R.d.hi)
                obtain ⟨wz, hwz⟩ : ∃ x, x = set8 W7 (g10) (.int .i64 R.x.lo) (.int .i64 R.x.hi) (.int .i64 R.y.lo) (.int .i64 R.y.hi) (.int .i64 R.s.lo) (.int .i64 R.s.hi) (.int .i64 R.d.lo) (.int .i64 R.d.hi) := ⟨_, rfl⟩
                rw [← hwz] at kz bz
                simp only [set8] at hwz
                obtain ⟨c10, f10, l10⟩ := k10.rules
                refine held_one (i := 12) (by kernel_rfl) rfl rfl (fun K hK => ?_)
                go_simp
                rw [← hwz]
                clear hwz c10 f10 l10 hS
                have hS := hSb.out _ bz
                refine hK _ _ hS ?_
                clear hK K
                try simp only [Act.put, List.setIfInBounds_toArray, List.set_cons_zero, List.set_cons_succ]
                refine held_take (i := 13) (v := ?_) 17 rfl rfl (by kernel_rfl) (by kernel_rfl) (by kernel_rfl) (fun _ _ _ h => h) (Or.inl ⟨by rfl, ?_⟩) hS ?_
                rotate_left 1
                · intro w' hSw
                  try dsimp only at hSw
                  obtain ⟨q0, q1, q2, q3, q4, q5, q6, q7, q8, q9⟩ := hSw
                  go_simp
                  all_goals with_reducible rfl
                try simp only [Act.put, List.setIfInBounds_toArray, List.set_cons_zero, List.set_cons_succ]
                refine wpAnyH_done (by kernel_rfl) (hrest (g10) _ ⟨kz, bz⟩) _
          · obtain rfl : k = n := by omega
            have hv2 : whereN p h L = (whereTo p h L k, 0) := by rw [whereN, hLl.out, if_pos hE9.out]
            obtain ⟨P, pc, e5, h5⟩ := SlAt.of_own (enc := Reg.cells) hown (by omega) (whereTo p h L k) rfl (fun _ => rfl) (whereTo_len _ _ _ _)
            subst e5
            replace hv2 := Lib.hid hv2
            clear hown
            go_wp2
            go_ret2
            exact ⟨P, k, pc, by rw [hv2.out]; rfl, by rw [hv2.out]; exact h5.mono b.size, b.trans (hb.mono b.size)⟩
  · have hv : whereR s bs p h = ([], errB s bs) := by simp [whereR, h1]
    rw [hv]
    have h1' : (errB s bs != 0) = true := by rw [bne_iff_ne]; exact h1
    generalize errB s bs = er at *
    clear hv hcp hch
    go_enter Tryz.func31, Tryz.ntmps31
    go_wp2_with fail
    rw [← hw1]
    clear hw1
    refine (hbg _ hs hl).mono ?_
    rintro e W ⟨rfl, hbel⟩
    clear hbg
    replace k4 := k4.below hbel
    replace k6 := k6.below hbel
    replace k7 := k7.below hbel
    replace b := b.trans (hbel.mono b.size)
    replace hs := hs.below hbel
    replace hl := hl.below hbel
    clear hbel
    go_wp2
    go_ret2
    exact RetSl.none_ b
end Go.Proofs.YtjiaepphnddpoaaGreat
