/-
  Walks: the regions of all nodes.
-/
import Derived.Test.YthjdjpcomocffaaGreatN1
import Derived.Test.YthjdjpcomocffaaGreatW5
import Derived.Deep.AppendLies
namespace Go.Proofs.YthjdjpcomocffaaGreat
open Go.RowKit Go.Shelf

theorem rootS_bd {n : Int} (h : 0 ≤ n) : 0 ≤ rootS n ∧ rootS n * rootS n ≤ n := by
  obtain ⟨m, rfl⟩ : ∃ m : Nat, n = m := ⟨n.toNat, by omega⟩
  unfold rootS
  rw [Int.toNat_natCast]
  obtain ⟨h1, _⟩ := isq_spec m
  exact ⟨by omega, by exact_mod_cast h1⟩
theorem shortS_bd {len m : Int} (h1 : 0 ≤ len) (h2 : len ≤ 1000) (h3 : 0 ≤ m) : 0 ≤ shortS len m ∧ shortS len m ≤ 1000 := by
  have m1 : min m len * min m len ≤ len * len := sq_le (by omega) (by omega)
  have m2 : len * len ≤ 1000 * 1000 := sq_le h1 h2
  have m3 : 0 ≤ min m len * min m len := Int.mul_nonneg (by omega) (by omega)
  obtain ⟨r1, r2⟩ := rootS_bd (show 0 ≤ len * len - min m len * min m len by omega)
  refine ⟨r1, ?_⟩
  show rootS _ ≤ _
  rcases Int.lt_or_le 1000 (rootS (len * len - min m len * min m len)) with h | h
  · have := sq_le (show (0 : Int) ≤ 1001 by omega) (show 1001 ≤ rootS (len * len - min m len * min m len) by omega)
    omega
  · exact h
theorem sec_len {s : Strm} (ho : okStrm s = true) (k : Nat) : 0 ≤ (s.sec k).len ∧ (s.sec k).len ≤ 1000 := by
  by_cases hk : k < s.secs.length
  · have := ok_sec ho hk
    obtain ⟨k0, k1, _⟩ := of_decide_eq_true this
    omega
  · have : s.sec k = sec0 := by unfold Strm.sec; rw [List.getD_eq_getElem?_getD, List.getElem?_eq_none (by omega)]; rfl
    rw [this]; decide
theorem farS_bd {s : Strm} (ho : okStrm s = true) : ∀ k : Nat, 0 ≤ farS s k ∧ farS s k ≤ 1000 * k
  | 0 => by simp [farS]
  | k + 1 => by
    have := farS_bd ho k
    have := sec_len ho k
    simp only [farS]
    push_cast
    omega
theorem bend_hi {s : Strm} {bs : List Bnd} (hh : headOk s) (hl : bs.all (okBnd 16384) = true) (k : Nat) : 0 ≤ ((bendL s bs).getD k ⟨0, 0⟩).hi ∧ ((bendL s bs).getD k ⟨0, 0⟩).hi ≤ 32768 := by
  rw [List.getD_eq_getElem?_getD]
  cases h : (bendL s bs)[k]? with
  | none => decide
  | some b => have := bendL_bd hh hl h; simp; omega
theorem nearS_bd {s : Strm} {bs : List Bnd} (ho : okStrm s = true) (hl : bs.all (okBnd 16384) = true) : ∀ k : Nat, 0 ≤ nearS s bs k ∧ nearS s bs k ≤ 1000 * k
  | 0 => by simp [nearS]
  | k + 1 => by
    have := nearS_bd ho hl k
    have h1 := sec_len ho k
    have := shortS_bd h1.1 h1.2 (bend_hi (ok_head ho) hl k).1
    simp only [nearS]
    push_cast
    omega
def nodesTo (s : Strm) (bs : List Bnd) (k : Nat) : List Reg := (List.range k).map (nodeR s bs)
theorem nodesTo_succ (s : Strm) (bs : List Bnd) (k : Nat) : nodesTo s bs (k + 1) = nodesTo s bs k ++ [nodeR s bs k] := by
  unfold nodesTo; rw [List.range_succ, List.map_append]; rfl
theorem Tryz.infoReg : (Tryz.prog.info? 58).map (fun i => (i.zero, i.size, i.bytes)) = some (some (.agg #[.int .i64 0, .int .i64 0, .int .i64 0, .int .i64 0, .int .i64 0, .int .i64 0, .int .i64 0, .int .i64 0]), 8, 64) := by kernel_rfl
theorem regA_list (r : Reg) : (regA r).toList = Reg.cells r := rfl
theorem ownsRow_set8 {w : World} {base : Nat} {e : TypeId} {size : Nat} {v : Value} {n : Nat} {xs : List Value} {g : Nat} (h : w.ownsRow base e size v n xs) (hg : v.ownBlock ≠ some g) (v0 v1 v2 v3 v4 v5 v6 v7 : Value) : (set8 w g v0 v1 v2 v3 v4 v5 v6 v7).ownsRow base e size v n xs :=
  ownsRow_setCell (ownsRow_setCell (ownsRow_setCell (ownsRow_setCell (ownsRow_setCell (ownsRow_setCell (ownsRow_setCell (ownsRow_setCell h (p := ⟨g, 0, none⟩) hg v0) (p := ⟨g, 1, none⟩) hg v1) (p := ⟨g, 2, none⟩) hg v2) (p := ⟨g, 3, none⟩) hg v3) (p := ⟨g, 4, none⟩) hg v4) (p := ⟨g, 5, none⟩) hg v5) (p := ⟨g, 6, none⟩) hg v6) (p := ⟨g, 7, none⟩) hg v7
/-- A row of regions of the call's own. -/
def OwnRegs (w0 : World) (n : Nat) (L : List Reg) (e : Ending) (w' : World) : Prop :=
  ∃ O co, e = .returned (.slice O n co) ∧ SlAt w' w0.heap.size 8 Reg.cells O n co L ∧ Below w0.heap.size w0 w'
set_option maxRecDepth 100000 in
set_option maxHeartbeats 4000000 in
theorem nodes_any (s : Strm) (A O : Option Addr) (n c co B1 B : Nat) (bs : List Bnd) (w : World) (ho : okStrm s = true) (hl : okOffs s bs = true) (hss : SlAt w B1 5 Sec.cells A n c s.secs) (hs : SlAt w B 2 Bnd.cells O n co bs) :
    Calls Tryz.prog 46 #[.agg #[.int .i64 s.head, .slice A n c, .int .i64 s.lane.lo, .int .i64 s.lane.hi, .int .i64 s.bend], .slice O n co] w (OwnRegs w n (nodesL s bs)) := by
  have hh := Lib.hid (ok_head ho)
  have hla := Lib.hid (okOffs_all hl)
  have hbl := Lib.hid hs.len
  have hsl := Lib.hid hss.len
  have hn8 : n ≤ 8 := by have := hh.out; unfold headOk at this; have := hsl.out; omega
  replace ho := Lib.hid ho
  replace hl := Lib.hid hl
  go_enter Tryz.func46, Tryz.ntmps46
  go_wp2_with fail
  refine (bends_any s A O n c n co B bs _ hh.out hla.out (hs.alloc _)).mono ?_
  rintro e w1 ⟨O', co', rfl, hown, hr, hb1⟩
  have k2 := (Blk.new w _ _).below hb1
  have b1 := ((Below.refl w.heap.size w).alloc (Nat.le_refl _) _).trans (hb1.mono (by simp))
  have hss1 := (hss.alloc _).below hb1
  have hs1 := (hs.alloc _).below hb1
  have hbdl := Lib.hid (show (bendL s bs).length = n by rw [bendL, eachL_length]; exact hbl.out)
  clear hown hb1 hss hs
  go_wp2_with fail
  go_loopw [5, 6, 7, 15] (fun v f q i wr => ∃ k : Nat, i = .int .i64 k ∧ k ≤ n ∧ f = .int .i64 (farS s k) ∧ q = .int .i64 (nearS s bs k) ∧ wr.ownsRow w1.heap.size 58 8 v k ((nodesTo s bs k).flatMap Reg.cells) ∧ Below w1.heap.size w1 wr) (fun v f q i wr => n - (intOf i).toNat)
  case atStart =>
    exact ⟨0, rfl, Nat.zero_le _, rfl, rfl, ⟨rfl, .inl ⟨rfl, rfl⟩⟩, Below.refl _ _⟩
  case round =>
    obtain ⟨k, rfl, hk, rfl, rfl, hown, hb⟩ := hrel
    by_cases hlt : k < n
    · have hk0 : (0 : Int) ≤ (k : Int) := by omega
      have hk1 : (k : Int) < (n : Int) := by omega
      obtain ⟨y, hy⟩ := some_of_lt hbdl.out hlt
      have hyd : (bendL s bs).getD k ⟨0, 0⟩ = y := by rw [List.getD_eq_getElem?_getD, hy]; rfl
      obtain ⟨z, hz⟩ := some_of_lt hbl.out hlt
      have hzd : bs.getD k ⟨0, 0⟩ = z := by rw [List.getD_eq_getElem?_getD, hz]; rfl
      have hks : k < s.secs.length := by have := hsl.out; omega
      obtain ⟨bb, ob, hO, -, hbbl, e0, e1⟩ := hr.bnd hy
      obtain ⟨bs_, os_, hA, -, hsbl, g0, -⟩ := hss1.sec (sec_at s hks)
      obtain ⟨bz, oz, hOz, -, hzbl, z0, z1⟩ := hs1.bnd hz
      replace e0 := (hb.cell (by dsimp only; omega)).trans e0
      replace e1 := (hb.cell (by dsimp only; omega)).trans e1
      have hyb := bend_hi hh.out hla.out k
      rw [hyd] at hyb
      have hsb := sec_len ho.out k
      have hfb := farS_bd ho.out k
      have hnb := nearS_bd ho.out hla.out k
      have hshb := shortS_bd hsb.1 hsb.2 hyb.1
      have hfs : Hid (farS s (k + 1) = farS s k + (s.sec k).len) := rfl
      have hns : Hid (nearS s bs (k + 1) = nearS s bs k + shortS (s.sec k).len y.hi) := by show nearS s bs k + shortS (s.sec k).len ((bendL s bs).getD k ⟨0, 0⟩).hi = _; rw [hyd]
      have hnode : Hid (nodeR s bs k = (tightR { allReg with x := ⟨-(farS s k + (s.sec k).len), -(nearS s bs k + shortS (s.sec k).len y.hi)⟩, y := z }).1) := by
        show nodeR s bs k = _
        unfold nodeR
        rw [hzd, hfs.out, hns.out]
      have hshort := fun W => shortest_any (s.sec k).len y.hi W hsb.1 hsb.2 hyb.1 (by omega)
      have t1 := IntWalk.i64_in (farS s k + (s.sec k).len) (by omega)
      have t2 := IntWalk.i64_in (nearS s bs k + shortS (s.sec k).len y.hi) (by omega)
      have t3 := IntWalk.i64_in (-(farS s k + (s.sec k).len)) (by omega)
      have t4 := IntWalk.i64_in (-(nearS s bs k + shortS (s.sec k).len y.hi)) (by omega)
      replace hy := Lib.hid hy
      replace hz := Lib.hid hz
      clear hyd hzd
      generalize shortS (s.sec k).len y.hi = sh at *
      generalize (s.sec k).len = ln at *
      generalize farS s k = fa at *
      generalize nearS s bs k = ne at *
      subst hO
      subst hA
      subst hOz
      have k2w := k2.belowB hb k2.lt
      have g0w := (hb.cell (p := ⟨bs_, os_ + k * 5, none⟩) hsbl).trans g0
      obtain ⟨c2, f2, l2⟩ := k2w.rules
      have lsb : bs_ < wr.heap.size := by have := hb.size; omega
      have lbz : bz < w1.heap.size := Nat.lt_of_lt_of_le hzbl (Nat.le_refl _)
      go_wp2_with fail
      clear c2 f2 l2
      have k9 := Blk.new wr 24 #[.int .i64 y.lo, .int .i64 y.hi]
      have k2a := k2w.alloc (.cells #[.int .i64 y.lo, .int .i64 y.hi] 24)
      have g0a := (World.cell?_alloc_lt wr (.cells #[.int .i64 y.lo, .int .i64 y.hi] 24) ⟨bs_, os_ + k * 5, none⟩ lsb).trans g0w
      have hba := hb.alloc hb.size (.cells #[.int .i64 y.lo, .int .i64 y.hi] 24)
      have howna := hown.alloc (.cells #[.int .i64 y.lo, .int .i64 y.hi] 24)
      have lwr : w1.heap.size ≤ wr.heap.size := hb.size
      clear hb hown k2w g0w e0 e1
      generalize hWA : wr.alloc (.cells #[.int .i64 y.lo, .int .i64 y.hi] 24) = WA at *
      clear hWA
      refine wp_held_np (fun w' : World => (∀ j, w'.cell? ⟨w.heap.size, j, none⟩ = #[Value.int .i64 s.head, .slice (some ⟨bs_, os_, none⟩) n c, .int .i64 s.lane.lo, .int .i64 s.lane.hi, .int .i64 s.bend][j]?) ∧ (∀ j, w'.cell? ⟨wr.heap.size, j, none⟩ = #[Value.int .i64 y.lo, .int .i64 y.hi][j]?) ∧ w'.cell? ⟨bs_, os_ + k * 5, none⟩ = some (.int .i64 ln)) (by kernel_rfl) ?_
      have hS : (fun w' : World => (∀ j, w'.cell? ⟨w.heap.size, j, none⟩ = #[Value.int .i64 s.head, .slice (some ⟨bs_, os_, none⟩) n c, .int .i64 s.lane.lo, .int .i64 s.lane.hi, .int .i64 s.bend][j]?) ∧ (∀ j, w'.cell? ⟨wr.heap.size, j, none⟩ = #[Value.int .i64 y.lo, .int .i64 y.hi][j]?) ∧ w'.cell? ⟨bs_, os_ + k * 5, none⟩ = some (.int .i64 ln)) WA.drew := ⟨k2a.cell, k9.cell, g0a⟩
      replace hba := hba.drew
      replace howna : WA.drew.ownsRow _ _ _ _ _ _ := howna
      clear k2a k9 g0a
      generalize WA.drew = W at *
      refine held_take (i := 0) (v := ?_) 29 rfl rfl (by kernel_rfl) (by kernel_rfl) (by kernel_rfl) (fun _ _ _ h => h) (Or.inl ⟨by rfl, ?_⟩) hS ?_
      rotate_left 1
      · intro w' hSw
        try dsimp only at hSw
        obtain ⟨q1, q2, q3⟩ := hSw
        go_simp
        all_goals with_reducible rfl
      try simp only [Act.put, List.setIfInBounds_toArray, List.set_cons_zero, List.set_cons_succ]
      refine held_take (i := 1) (v := ?_) 30 rfl rfl (by kernel_rfl) (by kernel_rfl) (by kernel_rfl) (fun _ _ _ h => h) (Or.inl ⟨by rfl, ?_⟩) hS ?_
      rotate_left 1
      · intro w' hSw
        try dsimp only at hSw
        obtain ⟨q1, q2, q3⟩ := hSw
        go_simp
        all_goals with_reducible rfl
      try simp only [Act.put, List.setIfInBounds_toArray, List.set_cons_zero, List.set_cons_succ]
      refine held_take (i := 2) (v := ?_) 31 rfl rfl (by kernel_rfl) (by kernel_rfl) (by kernel_rfl) (fun _ _ _ h => h) (Or.inl ⟨by rfl, ?_⟩) hS ?_
      rotate_left 1
      · intro w' hSw
        try dsimp only at hSw
        obtain ⟨q1, q2, q3⟩ := hSw
        go_simp
        all_goals with_reducible rfl
      try simp only [Act.put, List.setIfInBounds_toArray, List.set_cons_zero, List.set_cons_succ]
      refine held_take (i := 3) (v := ?_) 32 rfl rfl (by kernel_rfl) (by kernel_rfl) (by kernel_rfl) (fun _ _ _ h => h) (Or.inl ⟨by rfl, ?_⟩) hS ?_
      rotate_left 1
      · intro w' hSw
        try dsimp only at hSw
        obtain ⟨q1, q2, q3⟩ := hSw
        go_simp
        all_goals with_reducible rfl
      try simp only [Act.put, List.setIfInBounds_toArray, List.set_cons_zero, List.set_cons_succ]
      refine held_take (i := 4) (v := ?_) 33 rfl rfl (by kernel_rfl) (by kernel_rfl) (by kernel_rfl) (fun _ _ _ h => h) (Or.inl ⟨by rfl, ?_⟩) hS ?_
      rotate_left 1
      · intro w' hSw
        try dsimp only at hSw
        obtain ⟨q1, q2, q3⟩ := hSw
        go_simp
        all_goals with_reducible rfl
      try simp only [Act.put, List.setIfInBounds_toArray, List.set_cons_zero, List.set_cons_succ]
      refine held_take (i := 5) (v := ?_) 34 rfl rfl (by kernel_rfl) (by kernel_rfl) (by kernel_rfl) (fun _ _ _ h => h) (Or.inl ⟨by rfl, ?_⟩) hS ?_
      rotate_left 1
      · intro w' hSw
        try dsimp only at hSw
        obtain ⟨q1, q2, q3⟩ := hSw
        go_simp
        all_goals with_reducible rfl
      try simp only [Act.put, List.setIfInBounds_toArray, List.set_cons_zero, List.set_cons_succ]
      refine held_take (i := 6) (v := ?_) 35 rfl rfl (by kernel_rfl) (by kernel_rfl) (by kernel_rfl) (fun _ _ _ h => h) (Or.inl ⟨by rfl, ?_⟩) hS ?_
      rotate_left 1
      · intro w' hSw
        try dsimp only at hSw
        obtain ⟨q1, q2, q3⟩ := hSw
        go_simp
        all_goals with_reducible rfl
      try simp only [Act.put, List.setIfInBounds_toArray, List.set_cons_zero, List.set_cons_succ]
      refine held_take (i := 7) (v := ?_) 36 rfl rfl (by kernel_rfl) (by kernel_rfl) (by kernel_rfl) (fun _ _ _ h => h) (Or.inl ⟨by rfl, ?_⟩) hS ?_
      rotate_left 1
      · intro w' hSw
        try dsimp only at hSw
        obtain ⟨q1, q2, q3⟩ := hSw
        go_simp
        all_goals with_reducible rfl
      try simp only [Act.put, List.setIfInBounds_toArray, List.set_cons_zero, List.set_cons_succ]
      refine held_take (i := 8) (v := ?_) 37 rfl rfl (by kernel_rfl) (by kernel_rfl) (by kernel_rfl) (fun _ _ _ h => h) (Or.inl ⟨by rfl, ?_⟩) hS ?_
      rotate_left 1
      · intro w' hSw
        try dsimp only at hSw
        obtain ⟨q1, q2, q3⟩ := hSw
        go_simp
        all_goals with_reducible rfl
      try simp only [Act.put, List.setIfInBounds_toArray, List.set_cons_zero, List.set_cons_succ]
      refine held_take (i := 9) (v := ?_) 38 rfl rfl (by kernel_rfl) (by kernel_rfl) (by kernel_rfl) (fun _ _ _ h => h) (Or.inl ⟨by rfl, ?_⟩) hS ?_
      rotate_left 1
      · intro w' hSw
        try dsimp only at hSw
        obtain ⟨q1, q2, q3⟩ := hSw
        go_simp
        all_goals with_reducible rfl
      try simp only [Act.put, List.setIfInBounds_toArray, List.set_cons_zero, List.set_cons_succ]
      refine held_one (i := 10) (by kernel_rfl) rfl rfl (fun K hK => ?_)
      go_simp
      refine (hshort _).mono ?_
      rintro e w' ⟨rfl, rfl⟩
      refine hK _ _ hS ?_
      clear hK K
      try simp only [Act.put, List.setIfInBounds_toArray, List.set_cons_zero, List.set_cons_succ]
      refine held_take (i := 11) (v := ?_) 40 rfl rfl (by kernel_rfl) (by kernel_rfl) (by kernel_rfl) (fun _ _ _ h => h) (Or.inl ⟨by rfl, ?_⟩) hS ?_
      rotate_left 1
      · intro w' hSw
        try dsimp only at hSw
        obtain ⟨q1, q2, q3⟩ := hSw
        go_simp
        all_goals with_reducible rfl
      try simp only [Act.put, List.setIfInBounds_toArray, List.set_cons_zero, List.set_cons_succ]
      refine held_take (i := 12) (v := ?_) 7 rfl rfl (by kernel_rfl) (by kernel_rfl) (by kernel_rfl) (fun _ _ _ h => h) (Or.inl ⟨by rfl, ?_⟩) hS ?_
      rotate_left 1
      · intro w' hSw
        try dsimp only at hSw
        obtain ⟨q1, q2, q3⟩ := hSw
        go_simp
        all_goals with_reducible rfl
      try simp only [Act.put, List.setIfInBounds_toArray, List.set_cons_zero, List.set_cons_succ]
      refine wpAnyH_done (by kernel_rfl) (noPanic_normal ?_) _
      clear hS hshort
      have hall := fun W => All_any W
      simp only [regA, allReg] at hall
      go_wp2_with fail
      refine (hall _).mono ?_
      rintro e w3 ⟨rfl, hb3⟩
      clear hall
      replace howna := ownsRow_below howna hb3
      replace hba := hba.trans (hb3.mono hba.size)
      clear hb3
      have lw3 := hba.size
      have howna0 := howna
      go_wp2_with fail
      have k10 := Blk.new w3 58 #[.int .i64 (-32768), .int .i64 32768, .int .i64 (-32768), .int .i64 32768, .int .i64 (-65536), .int .i64 65536, .int .i64 (-65536), .int .i64 65536]
      replace howna := howna.alloc (.cells #[.int .i64 (-32768), .int .i64 32768, .int .i64 (-32768), .int .i64 32768, .int .i64 (-65536), .int .i64 65536, .int .i64 (-65536), .int .i64 65536] 58)
      replace hba := hba.alloc hba.size (.cells #[.int .i64 (-32768), .int .i64 32768, .int .i64 (-32768), .int .i64 32768, .int .i64 (-65536), .int .i64 65536, .int .i64 (-65536), .int .i64 65536] 58)
      generalize hV0 : w3.alloc (.cells #[.int .i64 (-32768), .int .i64 32768, .int .i64 (-32768), .int .i64 32768, .int .i64 (-65536), .int .i64 65536, .int .i64 (-65536), .int .i64 65536] 58) = V0 at *
      clear hV0
      refine wp_held_np (fun w' : World => w'.cell? ⟨bz, oz + k * 2, none⟩ = some (.int .i64 z.lo) ∧ w'.cell? ⟨bz, oz + k * 2 + 1, none⟩ = some (.int .i64 z.hi)) (by kernel_rfl) ?_
      replace hba := hba.drew
      replace howna : V0.drew.ownsRow _ _ _ _ _ _ := howna
      replace k10 := k10.drew
      generalize V0.drew = V at *
      have hS : (fun w' : World => w'.cell? ⟨bz, oz + k * 2, none⟩ = some (.int .i64 z.lo) ∧ w'.cell? ⟨bz, oz + k * 2 + 1, none⟩ = some (.int .i64 z.hi)) V := ⟨(hba.cell (p := ⟨bz, oz + k * 2, none⟩) lbz).trans z0, (hba.cell (p := ⟨bz, oz + k * 2 + 1, none⟩) lbz).trans z1⟩
      refine held_take (i := 0) (v := ?_) 42 rfl rfl (by kernel_rfl) (by kernel_rfl) (by kernel_rfl) (fun _ _ _ h => h) (Or.inl ⟨by rfl, ?_⟩) hS ?_
      rotate_left 1
      · intro w' hSw
        try dsimp only at hSw
        obtain ⟨q1, q2⟩ := hSw
        go_simp
        all_goals with_reducible rfl
      try simp only [Act.put, List.setIfInBounds_toArray, List.set_cons_zero, List.set_cons_succ]
      refine held_take (i := 1) (v := ?_) 43 rfl rfl (by kernel_rfl) (by kernel_rfl) (by kernel_rfl) (fun _ _ _ h => h) (Or.inl ⟨by rfl, ?_⟩) hS ?_
      rotate_left 1
      · intro w' hSw
        try dsimp only at hSw
        obtain ⟨q1, q2⟩ := hSw
        go_simp
        all_goals with_reducible rfl
      try simp only [Act.put, List.setIfInBounds_toArray, List.set_cons_zero, List.set_cons_succ]
      refine held_take (i := 2) (v := ?_) 44 rfl rfl (by kernel_rfl) (by kernel_rfl) (by kernel_rfl) (fun _ _ _ h => h) (Or.inl ⟨by rfl, ?_⟩) hS ?_
      rotate_left 1
      · intro w' hSw
        try dsimp only at hSw
        obtain ⟨q1, q2⟩ := hSw
        go_simp
        all_goals with_reducible rfl
      try simp only [Act.put, List.setIfInBounds_toArray, List.set_cons_zero, List.set_cons_succ]
      refine held_take (i := 3) (v := ?_) 45 rfl rfl (by kernel_rfl) (by kernel_rfl) (by kernel_rfl) (fun _ _ _ h => h) (Or.inl ⟨by rfl, ?_⟩) hS ?_
      rotate_left 1
      · intro w' hSw
        try dsimp only at hSw
        obtain ⟨q1, q2⟩ := hSw
        go_simp
        all_goals with_reducible rfl
      try simp only [Act.put, List.setIfInBounds_toArray, List.set_cons_zero, List.set_cons_succ]
      refine held_take (i := 4) (v := ?_) 46 rfl rfl (by kernel_rfl) (by kernel_rfl) (by kernel_rfl) (fun _ _ _ h => h) (Or.inl ⟨by rfl, ?_⟩) hS ?_
      rotate_left 1
      · intro w' hSw
        try dsimp only at hSw
        obtain ⟨q1, q2⟩ := hSw
        go_simp
        all_goals with_reducible rfl
      try simp only [Act.put, List.setIfInBounds_toArray, List.set_cons_zero, List.set_cons_succ]
      refine held_take (i := 5) (v := ?_) 47 rfl rfl (by kernel_rfl) (by kernel_rfl) (by kernel_rfl) (fun _ _ _ h => h) (Or.inl ⟨by rfl, ?_⟩) hS ?_
      rotate_left 1
      · intro w' hSw
        try dsimp only at hSw
        obtain ⟨q1, q2⟩ := hSw
        go_simp
        all_goals with_reducible rfl
      try simp only [Act.put, List.setIfInBounds_toArray, List.set_cons_zero, List.set_cons_succ]
      refine held_take (i := 6) (v := ?_) 48 rfl rfl (by kernel_rfl) (by kernel_rfl) (by kernel_rfl) (fun _ _ _ h => h) (Or.inl ⟨by rfl, ?_⟩) hS ?_
      rotate_left 1
      · intro w' hSw
        try dsimp only at hSw
        obtain ⟨q1, q2⟩ := hSw
        go_simp
        all_goals with_reducible rfl
      try simp only [Act.put, List.setIfInBounds_toArray, List.set_cons_zero, List.set_cons_succ]
      refine held_take (i := 7) (v := ?_) 49 rfl rfl (by kernel_rfl) (by kernel_rfl) (by kernel_rfl) (fun _ _ _ h => h) (Or.inl ⟨by rfl, ?_⟩) hS ?_
      rotate_left 1
      · intro w' hSw
        try dsimp only at hSw
        obtain ⟨q1, q2⟩ := hSw
        go_simp
        all_goals with_reducible rfl
      try simp only [Act.put, List.setIfInBounds_toArray, List.set_cons_zero, List.set_cons_succ]
      refine held_take (i := 8) (v := ?_) 50 rfl rfl (by kernel_rfl) (by kernel_rfl) (by kernel_rfl) (fun _ _ _ h => h) (Or.inl ⟨by rfl, ?_⟩) hS ?_
      rotate_left 1
      · intro w' hSw
        try dsimp only at hSw
        obtain ⟨q1, q2⟩ := hSw
        go_simp
        all_goals with_reducible rfl
      try simp only [Act.put, List.setIfInBounds_toArray, List.set_cons_zero, List.set_cons_succ]
      refine held_take (i := 9) (v := ?_) 51 rfl rfl (by kernel_rfl) (by kernel_rfl) (by kernel_rfl) (fun _ _ _ h => h) (Or.inl ⟨by rfl, ?_⟩) hS ?_
      rotate_left 1
      · intro w' hSw
        try dsimp only at hSw
        obtain ⟨q1, q2⟩ := hSw
        go_simp
        all_goals with_reducible rfl
      try simp only [Act.put, List.setIfInBounds_toArray, List.set_cons_zero, List.set_cons_succ]
      have hvne : u5.ownBlock ≠ some w3.heap.size := fun e => by
        have := howna0.lt _ e
        omega
      have k10a := (k10.set_ 0 (.int .i64 (-(fa + ln)))).set_ 1 (.int .i64 (-(ne + sh)))
      have hbb := (hba.setCell (p := ⟨w3.heap.size, 0, none⟩) lw3 (.int .i64 (-(fa + ln)))).setCell (p := ⟨w3.heap.size, 1, none⟩) lw3 (.int .i64 (-(ne + sh)))
      have hownb := ownsRow_setCell (ownsRow_setCell howna (p := ⟨w3.heap.size, 0, none⟩) hvne (.int .i64 (-(fa + ln)))) (p := ⟨w3.heap.size, 1, none⟩) hvne (.int .i64 (-(ne + sh)))
      obtain ⟨c10, f10, l10⟩ := k10.rules
      refine held_one (i := 10) (by kernel_rfl) rfl rfl (fun K hK => ?_)
      go_simp
      refine hK _ _ ⟨(hbb.cell (p := ⟨bz, oz + k * 2, none⟩) lbz).trans z0, (hbb.cell (p := ⟨bz, oz + k * 2 + 1, none⟩) lbz).trans z1⟩ ?_
      clear hK K c10 f10 l10 hS k10 hba howna
      simp only [List.setIfInBounds_toArray, List.set_cons_zero, List.set_cons_succ] at k10a
      generalize (V.setCell ⟨w3.heap.size, 0, none⟩ (.int .i64 (-(fa + ln)))).setCell ⟨w3.heap.size, 1, none⟩ (.int .i64 (-(ne + sh))) = V1 at *
      have hS : (fun w' : World => w'.cell? ⟨bz, oz + k * 2, none⟩ = some (.int .i64 z.lo) ∧ w'.cell? ⟨bz, oz + k * 2 + 1, none⟩ = some (.int .i64 z.hi)) V1 := ⟨(hbb.cell (p := ⟨bz, oz + k * 2, none⟩) lbz).trans z0, (hbb.cell (p := ⟨bz, oz + k * 2 + 1, none⟩) lbz).trans z1⟩
      try simp only [Act.put, List.setIfInBounds_toArray, List.set_cons_zero, List.set_cons_succ]
      refine held_take (i := 11) (v := ?_) 52 rfl rfl (by kernel_rfl) (by kernel_rfl) (by kernel_rfl) (fun _ _ _ h => h) (Or.inl ⟨by rfl, ?_⟩) hS ?_
      rotate_left 1
      · intro w' hSw
        try dsimp only at hSw
        obtain ⟨q1, q2⟩ := hSw
        go_simp
        all_goals with_reducible rfl
      try simp only [Act.put, List.setIfInBounds_toArray, List.set_cons_zero, List.set_cons_succ]
      have k10b := (k10a.set_ 2 (.int .i64 z.lo)).set_ 3 (.int .i64 z.hi)
      have hbc := (hbb.setCell (p := ⟨w3.heap.size, 2, none⟩) lw3 (.int .i64 z.lo)).setCell (p := ⟨w3.heap.size, 3, none⟩) lw3 (.int .i64 z.hi)
      have hownc := ownsRow_setCell (ownsRow_setCell hownb (p := ⟨w3.heap.size, 2, none⟩) hvne (.int .i64 z.lo)) (p := ⟨w3.heap.size, 3, none⟩) hvne (.int .i64 z.hi)
      obtain ⟨c10, f10, l10⟩ := k10a.rules
      refine held_one (i := 12) (by kernel_rfl) rfl rfl (fun K hK => ?_)
      go_simp
      refine hK _ _ ⟨(hbc.cell (p := ⟨bz, oz + k * 2, none⟩) lbz).trans z0, (hbc.cell (p := ⟨bz, oz + k * 2 + 1, none⟩) lbz).trans z1⟩ ?_
      clear hK K c10 f10 l10 hS k10a hbb hownb
      simp only [List.setIfInBounds_toArray, List.set_cons_zero, List.set_cons_succ] at k10b
      generalize (V1.setCell ⟨w3.heap.size, 2, none⟩ (.int .i64 z.lo)).setCell ⟨w3.heap.size, 3, none⟩ (.int .i64 z.hi) = V2 at *
      refine wpAnyH_done (by kernel_rfl) (noPanic_normal ?_) _
      have hti := fun W => Tight_any { allReg with x := ⟨-(fa + ln), -(ne + sh)⟩, y := z } W
      simp only [← hnode.out] at hti
      simp only [regA, allReg] at hti
      obtain ⟨R, hR⟩ : ∃ R, nodeR s bs k = R := ⟨_, rfl⟩
      simp only [hR] at hti
      replace hR := Lib.hid hR
      obtain ⟨c10, f10, l10⟩ := k10b.rules
      go_wp2_with fail
      refine (hti _).mono ?_
      rintro e w6 ⟨rfl, hb6⟩
      clear hti c10 f10 l10
      have k10c := k10b.below hb6
      have hownd := ownsRow_below hownc hb6
      have hbd := hbc.trans (hb6.mono hbc.size)
      clear k10b hownc hbc hb6
      have k10d := k10c.set8 (.int .i64 R.x.lo) (.int .i64 R.x.hi) (.int .i64 R.y.lo) (.int .i64 R.y.hi) (.int .i64 R.s.lo) (.int .i64 R.s.hi) (.int .i64 R.d.lo) (.int .i64 R.d.hi)
      have hbe := below_set8 (g := w3.heap.size) hbd lw3 (.int .i64 R.x.lo) (.int .i64 R.x.hi) (.int .i64 R.y.lo) (.int .i64 R.y.hi) (.int .i64 R.s.lo) (.int .i64 R.s.hi) (.int .i64 R.d.lo) (.int .i64 R.d.hi)
      have howne := ownsRow_set8 (g := w3.heap.size) hownd hvne (.int .i64 R.x.lo) (.int .i64 R.x.hi) (.int .i64 R.y.lo) (.int .i64 R.y.hi) (.int .i64 R.s.lo) (.int .i64 R.s.hi) (.int .i64 R.d.lo) (.int .i64 R.d.hi)
      obtain ⟨c10, f10, l10⟩ := k10c.rules
      have hsz8 : (set8 w6 w3.heap.size (.int .i64 R.x.lo) (.int .i64 R.x.hi) (.int .i64 R.y.lo) (.int .i64 R.y.hi) (.int .i64 R.s.lo) (.int .i64 R.s.hi) (.int .i64 R.d.lo) (.int .i64 R.d.hi)).heap.size = w6.heap.size := by simp [set8, World.setCell]
      have hnews : ∀ (j : Nat) (u : Value), (Reg.cells R)[j]? = some u → ((set8 w6 w3.heap.size (.int .i64 R.x.lo) (.int .i64 R.x.hi) (.int .i64 R.y.lo) (.int .i64 R.y.hi) (.int .i64 R.s.lo) (.int .i64 R.s.hi) (.int .i64 R.d.lo) (.int .i64 R.d.hi)).alloc (.cells #[.int .i64 R.x.lo, .int .i64 R.x.hi, .int .i64 R.y.lo, .int .i64 R.y.hi, .int .i64 R.s.lo, .int .i64 R.s.hi, .int .i64 R.d.lo, .int .i64 R.d.hi] 58)).cell? ((⟨w6.heap.size, 0, none⟩ : Addr).add j) = some u :=
        World.news_of_block (cs := #[.int .i64 R.x.lo, .int .i64 R.x.hi, .int .i64 R.y.lo, .int .i64 R.y.hi, .int .i64 R.s.lo, .int .i64 R.s.hi, .int .i64 R.d.lo, .int .i64 R.d.hi]) (t := 58) (fr := (0, 0)) (by rw [← hsz8]; exact World.alloc_heap_new _ _)
      have hownf := howne.alloc (.cells #[.int .i64 R.x.lo, .int .i64 R.x.hi, .int .i64 R.y.lo, .int .i64 R.y.hi, .int .i64 R.s.lo, .int .i64 R.s.hi, .int .i64 R.d.lo, .int .i64 R.d.hi] 58)
      have hbf := hbe.alloc hbe.size (.cells #[.int .i64 R.x.lo, .int .i64 R.x.hi, .int .i64 R.y.lo, .int .i64 R.y.hi, .int .i64 R.s.lo, .int .i64 R.s.hi, .int .i64 R.d.lo, .int .i64 R.d.hi] 58)
      have hszf : ((set8 w6 w3.heap.size (.int .i64 R.x.lo) (.int .i64 R.x.hi) (.int .i64 R.y.lo) (.int .i64 R.y.hi) (.int .i64 R.s.lo) (.int .i64 R.s.hi) (.int .i64 R.d.lo) (.int .i64 R.d.hi)).alloc (.cells #[.int .i64 R.x.lo, .int .i64 R.x.hi, .int .i64 R.y.lo, .int .i64 R.y.hi, .int .i64 R.s.lo, .int .i64 R.s.hi, .int .i64 R.d.lo, .int .i64 R.d.hi] 58)).heap.size = w6.heap.size + 1 := by rw [World.size_alloc, hsz8]
      clear k10c hownd hbd k10d howne hbe
      obtain ⟨i0, hi0, hz0, hz1, hz2⟩ := info_parts Tryz.infoReg
      have hnx := Lib.hid (nodesTo_succ s bs k)
      have hbig1 : Hid (k + 1 ≤ maxLen) := by show k + 1 ≤ maxLen; unfold maxLen; omega
      have hbig2 : Hid ((k + 1) * 64 ≤ 140737488355328) := by show (k + 1) * 64 ≤ 140737488355328; omega
      have hone : Hid (∀ u ∈ Reg.cells R, u.oneCell' = true) := by show ∀ u ∈ Reg.cells R, u.oneCell' = true; intro u hu; simp [Reg.cells] at hu; rcases hu with rfl | rfl | rfl | rfl | rfl | rfl | rfl | rfl <;> rfl
      go_wp2_with (at_builtin; refine wpList_append_lies _ rfl (.tmp 58) (.tmp 60) 61 rfl w1.heap.size 58 i0 (.agg #[.int .i64 0, .int .i64 0, .int .i64 0, .int .i64 0, .int .i64 0, .int .i64 0, .int .i64 0, .int .i64 0]) 8 64 Tryz.underlying61 hi0 hz0 hz1 hz2 rfl (by decide) u5 k ((nodesTo s bs k).flatMap Reg.cells) rfl hownf ⟨w6.heap.size, 0, none⟩ 1 1 (Reg.cells R) rfl rfl hnews hone.out (by decide) hbig1.out hbig2.out hbf.size (w6.heap.size + 1) hszf ?_; intro g cap w7 hown7 hgrow hlies hlt7)
      have hbg : Below w1.heap.size _ w7 := ⟨hgrow.os, hgrow.tape, hgrow.output, hgrow.size, fun b hb => hgrow.block b (Nat.lt_of_lt_of_le hb hbf.size) (fun e => by have := (howna0.lt _ e.symm).1; omega)⟩
      have hbh := hbf.trans hbg
      go_roundw
      case rel =>
        refine ⟨k + 1, by go_num, by omega, by rw [hfs.out], by rw [hns.out], ?_, hbh⟩
        rw [hnx.out, hR.out, List.flatMap_append]
        simpa using hown7
      case measure => simp [intOf]; omega
    · obtain rfl : k = n := by omega
      go_wp2
      go_ret
      obtain ⟨O2, c2, e2, h2⟩ := SlAt.of_own (enc := Reg.cells) hown (by omega) (nodesTo s bs k) rfl (fun _ => rfl) (by simp [nodesTo])
      have hnl : nodesTo s bs k = nodesL s bs := by unfold nodesTo nodesL; rw [hbl.out]
      rw [hnl] at h2
      exact ⟨O2, c2, by rw [e2]; rfl, h2.mono b1.size, b1.trans (hb.mono b1.size)⟩
set_option maxRecDepth 100000 in
set_option maxHeartbeats 1000000 in
theorem Nodes_any (s : Strm) (A O : Option Addr) (n c no co B1 B : Nat) (bs : List Bnd) (w : World) (hss : SlAt w B1 5 Sec.cells A n c s.secs) (hs : SlAt w B 2 Bnd.cells O no co bs) :
    Calls Tryz.prog 55 #[.agg #[.int .i64 s.head, .slice A n c, .int .i64 s.lane.lo, .int .i64 s.lane.hi, .int .i64 s.bend], .slice O no co] w (RetSl 8 Reg.cells (nodesR s bs) w) := by
  by_cases h1 : errB s bs = 0
  · obtain ⟨e1, e2⟩ := errB_zero h1
    have hno : no = n := by have := okOffs_len e2; have := hs.len; have := hss.len; omega
    subst hno
    have hv : nodesR s bs = (nodesL s bs, 0) := by simp [nodesR, h1]
    rw [hv]
    have hnl : (nodesL s bs).length = no := by simp [nodesL, hs.len]
    replace h1 := Lib.hid h1
    replace hnl := Lib.hid hnl
    clear hv
    go_enter Tryz.func55, Tryz.ntmps55
    go_wp2_with fail
    refine (checked_any s A O no c no co B1 B bs _ (hss.alloc _) (hs.alloc _)).mono ?_
    rintro e w1 ⟨r1, -, hb1⟩
    obtain rfl := r1 h1.out
    clear r1
    have b1 := ((Below.refl w.heap.size w).alloc (Nat.le_refl _) _).trans (hb1.mono (by simp))
    have hss1 := ((hss.alloc _).below hb1).alloc (.cells #[.int .i64 s.head, .slice A no c, .int .i64 s.lane.lo, .int .i64 s.lane.hi, .int .i64 s.bend] 74)
    have hs1 := ((hs.alloc _).below hb1).alloc (.cells #[.int .i64 s.head, .slice A no c, .int .i64 s.lane.lo, .int .i64 s.lane.hi, .int .i64 s.bend] 74)
    have b1a := b1.alloc b1.size (.cells #[.int .i64 s.head, .slice A no c, .int .i64 s.lane.lo, .int .i64 s.lane.hi, .int .i64 s.bend] 74)
    go_wp2_with fail
    refine (nodes_any s A O no c co B1 B bs _ e1 e2 hss1 hs1).mono ?_
    rintro e w2 ⟨O', co', rfl, hr, hb2⟩
    go_wp2
    go_ret2
    exact ⟨O', no, co', rfl, hr.mono b1a.size, b1a.trans (hb2.mono b1a.size)⟩
  · have hv : nodesR s bs = ([], errB s bs) := by simp [nodesR, h1]
    rw [hv]
    have h1' : (errB s bs != 0) = true := by rw [bne_iff_ne]; exact h1
    clear hv
    go_enter Tryz.func55, Tryz.ntmps55
    go_wp2_with fail
    refine (checked_any s A O n c no co B1 B bs _ (hss.alloc _) (hs.alloc _)).mono ?_
    rintro e w1 ⟨-, r2, hb1⟩
    obtain rfl := r2 h1
    clear r2
    have b1 := ((Below.refl w.heap.size w).alloc (Nat.le_refl _) _).trans (hb1.mono (by simp))
    go_wp2
    go_ret2
    exact RetSl.none_ (Below.alloc b1 b1.size _)
end Go.Proofs.YthjdjpcomocffaaGreat
