/-
  Walks: a region that is turned.
-/
import Derived.Test.YthjdjpcomocffaaGreatN1
namespace Go.Proofs.YthjdjpcomocffaaGreat
set_option linter.unusedSimpArgs false
set_option linter.unusedVariables false
open Go.RowKit Go.Shelf

def bigB (b : Bnd) : Prop := -1000000000 ≤ b.lo ∧ b.lo ≤ 1000000000 ∧ -1000000000 ≤ b.hi ∧ b.hi ≤ 1000000000
theorem extO_big {p q : Int} : ∀ (l : List RRow) (o : Option Bnd), (∀ w ∈ l, -1000000000 ≤ p * w.x + q * w.fr ∧ p * w.x + q * w.fr ≤ 1000000000 ∧ -1000000000 ≤ p * w.x + q * w.to ∧ p * w.x + q * w.to ≤ 1000000000) → (∀ b, o = some b → bigB b) →
    ∀ b, l.foldl (fun o w => addE o (p * w.x + q * w.fr, p * w.x + q * w.to)) o = some b → bigB b
  | [], o, _, ho, b, e => ho b e
  | w :: l, o, hl, ho, b, e => by
    refine extO_big l _ (fun v hv => hl v (List.mem_cons_of_mem _ hv)) (fun b' e' => ?_) b e
    have hw := hl w (List.mem_cons_self ..)
    cases o with
    | none =>
      simp only [addE, Option.some.injEq] at e'
      subst e'
      unfold bigB
      simp only
      omega
    | some g =>
      have hg := ho g rfl
      unfold bigB at hg
      simp only [addE, Option.some.injEq] at e'
      subst e'
      unfold bigB
      simp only
      omega
theorem extB_big {r : Reg} {p q : Int} (hr : okReg r = true) (hp : -2000 ≤ p ∧ p ≤ 2000) (hq : -2000 ≤ q ∧ q ≤ 2000) : bigB (extB r p q) := by
  unfold extB
  cases h : extO (rowsL r) p q with
  | none => simp [bigB]
  | some b =>
    refine extO_big (rowsL r) none (fun w hw => ?_) (fun _ e => by cases e) b h
    obtain ⟨j, hj, rfl, hle⟩ := rowsTo_mem hw
    simp only [okReg, Bool.and_eq_true, okBnd, decide_eq_true_eq] at hr
    obtain ⟨⟨⟨⟨x1, x2, x3⟩, ⟨y1, y2, y3⟩⟩, _⟩, _⟩ := hr
    have hx : j < (r.x.hi + 1 - r.x.lo).toNat := hj
    have e1 : (rowB r (r.x.lo + j)).fr = max r.y.lo (max (r.s.lo - (r.x.lo + j)) (r.x.lo + j - r.d.hi)) := rfl
    have e2 : (rowB r (r.x.lo + j)).to = min r.y.hi (min (r.s.hi - (r.x.lo + j)) (r.x.lo + j - r.d.lo)) := rfl
    have e3 : (rowB r (r.x.lo + j)).x = r.x.lo + j := rfl
    generalize rowB r (r.x.lo + j) = v at *
    have ha := smul_bd hp.1 hp.2 (show -32768 ≤ v.x by omega) (show v.x ≤ 32768 by omega)
    have hb1 := smul_bd hq.1 hq.2 (show -32768 ≤ v.fr by omega) (show v.fr ≤ 32768 by omega)
    have hb2 := smul_bd hq.1 hq.2 (show -32768 ≤ v.to by omega) (show v.to ≤ 32768 by omega)
    omega
def turnK (r : Reg) (h : Hdg) : Nat → Reg
  | 0 => noReg
  | 1 => { noReg with x := turnB r h.c h.p (-h.q) }
  | 2 => { noReg with x := turnB r h.c h.p (-h.q), y := turnB r h.c h.q h.p }
  | 3 => { noReg with x := turnB r h.c h.p (-h.q), y := turnB r h.c h.q h.p, s := turnB r h.c (h.p + h.q) (h.p - h.q) }
  | _ => turnedS r h
set_option maxRecDepth 100000 in
set_option maxHeartbeats 4000000 in
theorem turned_any (r : Reg) (h : Hdg) (w : World) (hr : okReg r = true) (hh : okHdg h = true) :
    Calls Tryz.prog 44 #[.agg (regA r), .agg #[.int .i64 h.p, .int .i64 h.q, .int .i64 h.c]] w fun e w' => e = .returned (.tuple #[.agg (regA (turnedS r h)), .bool (inPlane (turnedS r h))]) ∧ Below w.heap.size w w' := by
  obtain ⟨h1, h2, h3, h4, h5, h6, -⟩ := of_decide_eq_true hh
  have i0 : ∀ (a b c d a' b' c' d' : Value) w, (Instr.index 139 (.agg #[a, a', b, b', c, c', d, d']) (.int .i64 0)).run Tryz.prog w = .ok (.agg #[a, a']) w := fun _ _ _ _ _ _ _ _ _ => by kernel_rfl
  have i1 : ∀ (a b c d a' b' c' d' : Value) w, (Instr.index 139 (.agg #[a, a', b, b', c, c', d, d']) (.int .i64 1)).run Tryz.prog w = .ok (.agg #[b, b']) w := fun _ _ _ _ _ _ _ _ _ => by kernel_rfl
  have i2 : ∀ (a b c d a' b' c' d' : Value) w, (Instr.index 139 (.agg #[a, a', b, b', c, c', d, d']) (.int .i64 2)).run Tryz.prog w = .ok (.agg #[c, c']) w := fun _ _ _ _ _ _ _ _ _ => by kernel_rfl
  have i3 : ∀ (a b c d a' b' c' d' : Value) w, (Instr.index 139 (.agg #[a, a', b, b', c, c', d, d']) (.int .i64 3)).run Tryz.prog w = .ok (.agg #[d, d']) w := fun _ _ _ _ _ _ _ _ _ => by kernel_rfl
  have t1 := IntWalk.i64_in (-h.q) (by omega)
  have t2 := IntWalk.i64_in (h.p + h.q) (by omega)
  have t3 := IntWalk.i64_in (h.p - h.q) (by omega)
  have t4 := IntWalk.i64_in (-h.q - h.p) (by omega)
  replace hr := Lib.hid hr
  clear hh
  simp only [regA]
  go_enter Tryz.func44, Tryz.ntmps44
  go_wp2_with fail
  go_loopw [45] (fun j wr => ∃ k : Nat, j = jv k ∧ k ≤ 4 ∧ Blk wr w.heap.size 58 (regA r) ∧ Blk wr (w.heap.size + 1) 54 #[.int .i64 h.p, .int .i64 h.q, .int .i64 h.c] ∧ Blk wr (w.heap.size + 1 + 1) 58 (regA noReg) ∧ Blk wr (w.heap.size + 1 + 1 + 1) 133 (regA (turnK r h k)) ∧ Below w.heap.size w wr) (fun j wr => 4 - (intOf j).toNat)
  case atStart =>
    exact ⟨0, rfl, by omega, (((Blk.newAt rfl).alloc _).alloc _).alloc _, ((Blk.newAt (by simp)).alloc _).alloc _, (Blk.newAt (by simp)).alloc _, Blk.newAt (by simp), ((((Below.refl w.heap.size w).alloc (Nat.le_refl _) _).alloc (by simp) _).alloc (by simp; omega) _).alloc (by simp; omega) _⟩
  case round =>
    obtain ⟨k, rfl, hk, k2, k3, k4, k6, hb⟩ := hrel
    match k, hk with
    | 0, _ =>
      rw [show jv 0 = .int .i64 0 from rfl]
      have hext := fun W => extremes_any r h.p (-h.q) W hr.out (by omega) (by omega)
      have hbig := extB_big (r := r) (p := h.p) (q := (-h.q)) hr.out (by omega) (by omega)
      obtain ⟨B, hB⟩ : ∃ B, extB r h.p (-h.q) = B := ⟨_, rfl⟩
      simp only [hB] at hext hbig
      have hT : Hid (turnB r h.c h.p (-h.q) = ⟨floorS B.lo h.c, ceilS B.hi h.c⟩) := by show _ = _; unfold turnB; rw [hB]
      replace hB := Lib.hid hB
      unfold bigB at hbig
      have hf := fun W => floor_any B.lo h.c W (by omega) (by omega) (by omega) (by omega)
      have hg := fun W => ceil_any B.hi h.c W (by omega) (by omega) (by omega) (by omega)
      clear hbig
      simp only [regA] at hext
      simp only [turnK, regA, noReg] at k6
      have k2' := k2
      simp only [regA] at k2
      obtain ⟨c2, f2, l2⟩ := k2.rules
      obtain ⟨c3, f3, l3⟩ := k3.rules
      go_wp2_with fail
      refine (hext _).mono ?_
      rintro e w1 ⟨rfl, hb1⟩
      clear hext c2 f2 l2 c3 f3 l3 k2
      have ba := (Below.refl wr.heap.size wr).alloc (Nat.le_refl _) (.cells #[.int .i64 h.p, .int .i64 (-h.q)] 96)
      replace hb1 := ba.trans (hb1.mono ba.size)
      replace k2 := k2'.below hb1
      replace k3 := k3.below hb1
      replace k4 := k4.below hb1
      replace k6 := k6.below hb1
      replace hb := hb.trans (hb1.mono hb.size)
      clear hb1 ba k2'
      go_wp2_with fail
      have n6 := k6.lt
      have k9 := Blk.new w1 24 #[.int .i64 B.lo, .int .i64 B.hi]
      replace k2 := k2.alloc (.cells #[.int .i64 B.lo, .int .i64 B.hi] 24)
      replace k3 := k3.alloc (.cells #[.int .i64 B.lo, .int .i64 B.hi] 24)
      replace k4 := k4.alloc (.cells #[.int .i64 B.lo, .int .i64 B.hi] 24)
      replace k6 := k6.alloc (.cells #[.int .i64 B.lo, .int .i64 B.hi] 24)
      replace hb := hb.alloc hb.size (.cells #[.int .i64 B.lo, .int .i64 B.hi] 24)
      generalize hW : w1.alloc (.cells #[.int .i64 B.lo, .int .i64 B.hi] 24) = W at *
      refine wp_held_np (fun w' => (∀ j, w'.cell? ⟨w1.heap.size, j, none⟩ = #[Value.int .i64 B.lo, .int .i64 B.hi][j]?) ∧ (∀ j, w'.cell? ⟨w.heap.size + 1, j, none⟩ = #[Value.int .i64 h.p, .int .i64 h.q, .int .i64 h.c][j]?)) (by kernel_rfl) ?_
      have hS : (fun w' : World => (∀ j, w'.cell? ⟨w1.heap.size, j, none⟩ = #[Value.int .i64 B.lo, .int .i64 B.hi][j]?) ∧ (∀ j, w'.cell? ⟨w.heap.size + 1, j, none⟩ = #[Value.int .i64 h.p, .int .i64 h.q, .int .i64 h.c][j]?)) W.drew := ⟨k9.cell, k3.cell⟩
      replace k2 := k2.drew
      replace k3 := k3.drew
      replace k4 := k4.drew
      replace k6 := k6.drew
      replace k9 := k9.drew
      replace hb := hb.drew
      clear hW
      generalize W.drew = V at *
      refine held_take (i := 0) (v := ?_) 55 rfl rfl (by kernel_rfl) (by kernel_rfl) (by kernel_rfl) (fun _ _ _ h => h) (Or.inl ⟨by rfl, ?_⟩) hS ?_
      rotate_left 1
      · intro w' hSw
        try dsimp only at hSw
        obtain ⟨q1, q2⟩ := hSw
        go_simp
        all_goals with_reducible rfl
      try simp only [Act.put, List.setIfInBounds_toArray, List.set_cons_zero, List.set_cons_succ]
      refine held_take (i := 1) (v := ?_) 56 rfl rfl (by kernel_rfl) (by kernel_rfl) (by kernel_rfl) (fun _ _ _ h => h) (Or.inl ⟨by rfl, ?_⟩) hS ?_
      rotate_left 1
      · intro w' hSw
        try dsimp only at hSw
        obtain ⟨q1, q2⟩ := hSw
        go_simp
        all_goals with_reducible rfl
      try simp only [Act.put, List.setIfInBounds_toArray, List.set_cons_zero, List.set_cons_succ]
      refine held_take (i := 2) (v := ?_) 57 rfl rfl (by kernel_rfl) (by kernel_rfl) (by kernel_rfl) (fun _ _ _ h => h) (Or.inl ⟨by rfl, ?_⟩) hS ?_
      rotate_left 1
      · intro w' hSw
        try dsimp only at hSw
        obtain ⟨q1, q2⟩ := hSw
        go_simp
        all_goals with_reducible rfl
      try simp only [Act.put, List.setIfInBounds_toArray, List.set_cons_zero, List.set_cons_succ]
      refine held_take (i := 3) (v := ?_) 58 rfl rfl (by kernel_rfl) (by kernel_rfl) (by kernel_rfl) (fun _ _ _ h => h) (Or.inl ⟨by rfl, ?_⟩) hS ?_
      rotate_left 1
      · intro w' hSw
        try dsimp only at hSw
        obtain ⟨q1, q2⟩ := hSw
        go_simp
        all_goals with_reducible rfl
      try simp only [Act.put, List.setIfInBounds_toArray, List.set_cons_zero, List.set_cons_succ]
      refine held_take (i := 4) (v := ?_) 59 rfl rfl (by kernel_rfl) (by kernel_rfl) (by kernel_rfl) (fun _ _ _ h => h) (Or.inl ⟨by rfl, ?_⟩) hS ?_
      rotate_left 1
      · intro w' hSw
        try dsimp only at hSw
        obtain ⟨q1, q2⟩ := hSw
        go_simp
        all_goals with_reducible rfl
      try simp only [Act.put, List.setIfInBounds_toArray, List.set_cons_zero, List.set_cons_succ]
      refine held_take (i := 6) (v := ?_) 61 rfl rfl (by kernel_rfl) (by kernel_rfl) (by kernel_rfl) (fun _ _ _ h => h) (Or.inl ⟨by rfl, ?_⟩) hS ?_
      rotate_left 1
      · intro w' hSw
        try dsimp only at hSw
        obtain ⟨q1, q2⟩ := hSw
        go_simp
        all_goals with_reducible rfl
      try simp only [Act.put, List.setIfInBounds_toArray, List.set_cons_zero, List.set_cons_succ]
      refine held_take (i := 7) (v := ?_) 62 rfl rfl (by kernel_rfl) (by kernel_rfl) (by kernel_rfl) (fun _ _ _ h => h) (Or.inl ⟨by rfl, ?_⟩) hS ?_
      rotate_left 1
      · intro w' hSw
        try dsimp only at hSw
        obtain ⟨q1, q2⟩ := hSw
        go_simp
        all_goals with_reducible rfl
      try simp only [Act.put, List.setIfInBounds_toArray, List.set_cons_zero, List.set_cons_succ]
      refine held_take (i := 8) (v := ?_) 63 rfl rfl (by kernel_rfl) (by kernel_rfl) (by kernel_rfl) (fun _ _ _ h => h) (Or.inl ⟨by rfl, ?_⟩) hS ?_
      rotate_left 1
      · intro w' hSw
        try dsimp only at hSw
        obtain ⟨q1, q2⟩ := hSw
        go_simp
        all_goals with_reducible rfl
      try simp only [Act.put, List.setIfInBounds_toArray, List.set_cons_zero, List.set_cons_succ]
      refine held_take (i := 9) (v := ?_) 64 rfl rfl (by kernel_rfl) (by kernel_rfl) (by kernel_rfl) (fun _ _ _ h => h) (Or.inl ⟨by rfl, ?_⟩) hS ?_
      rotate_left 1
      · intro w' hSw
        try dsimp only at hSw
        obtain ⟨q1, q2⟩ := hSw
        go_simp
        all_goals with_reducible rfl
      try simp only [Act.put, List.setIfInBounds_toArray, List.set_cons_zero, List.set_cons_succ]
      refine held_one (i := 5) (by kernel_rfl) rfl rfl (fun K hK => ?_)
      go_simp
      refine (hf _).mono ?_
      rintro e w' ⟨rfl, rfl⟩
      refine hK _ _ hS ?_
      clear hK K
      try simp only [Act.put, List.setIfInBounds_toArray, List.set_cons_zero, List.set_cons_succ]
      refine held_one (i := 10) (by kernel_rfl) rfl rfl (fun K hK => ?_)
      go_simp
      refine (hg _).mono ?_
      rintro e w' ⟨rfl, rfl⟩
      refine hK _ _ hS ?_
      clear hK K
      try simp only [Act.put, List.setIfInBounds_toArray, List.set_cons_zero, List.set_cons_succ]
      refine held_take (i := 11) (v := ?_) 66 rfl rfl (by kernel_rfl) (by kernel_rfl) (by kernel_rfl) (fun _ _ _ h => h) (Or.inl ⟨by rfl, ?_⟩) hS ?_
      rotate_left 1
      · intro w' hSw
        try dsimp only at hSw
        obtain ⟨q1, q2⟩ := hSw
        go_simp
        all_goals with_reducible rfl
      try simp only [Act.put, List.setIfInBounds_toArray, List.set_cons_zero, List.set_cons_succ]
      refine held_take (i := 12) (v := ?_) 67 rfl rfl (by kernel_rfl) (by kernel_rfl) (by kernel_rfl) (fun _ _ _ h => h) (Or.inl ⟨by rfl, ?_⟩) hS ?_
      rotate_left 1
      · intro w' hSw
        try dsimp only at hSw
        obtain ⟨q1, q2⟩ := hSw
        go_simp
        all_goals with_reducible rfl
      try simp only [Act.put, List.setIfInBounds_toArray, List.set_cons_zero, List.set_cons_succ]
      refine held_one (i := 13) (by kernel_rfl) rfl rfl (fun K hK => ?_)
      obtain ⟨c6, f6, l6⟩ := k6.rules
      go_simp
      have k9z := (k9.far (p := ⟨w.heap.size + 1 + 1 + 1, 0, none⟩) (by dsimp only; omega) (.int .i64 (floorS B.lo h.c))).far (p := ⟨w.heap.size + 1 + 1 + 1, 1, none⟩) (by dsimp only; omega) (.int .i64 (ceilS B.hi h.c))
      have k3z := (k3.far (p := ⟨w.heap.size + 1 + 1 + 1, 0, none⟩) (by dsimp only; omega) (.int .i64 (floorS B.lo h.c))).far (p := ⟨w.heap.size + 1 + 1 + 1, 1, none⟩) (by dsimp only; omega) (.int .i64 (ceilS B.hi h.c))
      refine hK _ _ ⟨k9z.cell, k3z.cell⟩ ?_
      clear hK K c6 f6 l6
      refine wpAnyH_done (by kernel_rfl) (noPanic_normal ?_) _
      go_wp2_with fail
      go_roundw
      case rel =>
        refine ⟨0 + 1, rfl, by omega, (k2.far (by dsimp only; omega) _).far (by dsimp only; omega) _, k3z, (k4.far (by dsimp only; omega) _).far (by dsimp only; omega) _, ?_, (hb.setCell (p := ⟨w.heap.size + 1 + 1 + 1, 0, none⟩) (by dsimp only; omega) _).setCell (p := ⟨w.heap.size + 1 + 1 + 1, 1, none⟩) (by dsimp only; omega) _⟩
        have k6z := (k6.set_ 0 (.int .i64 (floorS B.lo h.c))).set_ 1 (.int .i64 (ceilS B.hi h.c))
        simp only [turnK, turnedS, regA, hT.out, noReg]
        exact k6z
      case measure => simp [intOf]
    | 1, _ =>
      rw [show jv 1 = .int .i64 1 from rfl]
      have hext := fun W => extremes_any r h.q h.p W hr.out (by omega) (by omega)
      have hbig := extB_big (r := r) (p := h.q) (q := h.p) hr.out (by omega) (by omega)
      obtain ⟨B, hB⟩ : ∃ B, extB r h.q h.p = B := ⟨_, rfl⟩
      simp only [hB] at hext hbig
      have hT : Hid (turnB r h.c h.q h.p = ⟨floorS B.lo h.c, ceilS B.hi h.c⟩) := by show _ = _; unfold turnB; rw [hB]
      replace hB := Lib.hid hB
      unfold bigB at hbig
      have hf := fun W => floor_any B.lo h.c W (by omega) (by omega) (by omega) (by omega)
      have hg := fun W => ceil_any B.hi h.c W (by omega) (by omega) (by omega) (by omega)
      clear hbig
      simp only [regA] at hext
      simp only [turnK, regA, noReg] at k6
      have k2' := k2
      simp only [regA] at k2
      obtain ⟨c2, f2, l2⟩ := k2.rules
      obtain ⟨c3, f3, l3⟩ := k3.rules
      go_wp2_with fail
      refine (hext _).mono ?_
      rintro e w1 ⟨rfl, hb1⟩
      clear hext c2 f2 l2 c3 f3 l3 k2
      have ba := (Below.refl wr.heap.size wr).alloc (Nat.le_refl _) (.cells #[.int .i64 h.q, .int .i64 h.p] 96)
      replace hb1 := ba.trans (hb1.mono ba.size)
      replace k2 := k2'.below hb1
      replace k3 := k3.below hb1
      replace k4 := k4.below hb1
      replace k6 := k6.below hb1
      replace hb := hb.trans (hb1.mono hb.size)
      clear hb1 ba k2'
      go_wp2_with fail
      have n6 := k6.lt
      have k9 := Blk.new w1 24 #[.int .i64 B.lo, .int .i64 B.hi]
      replace k2 := k2.alloc (.cells #[.int .i64 B.lo, .int .i64 B.hi] 24)
      replace k3 := k3.alloc (.cells #[.int .i64 B.lo, .int .i64 B.hi] 24)
      replace k4 := k4.alloc (.cells #[.int .i64 B.lo, .int .i64 B.hi] 24)
      replace k6 := k6.alloc (.cells #[.int .i64 B.lo, .int .i64 B.hi] 24)
      replace hb := hb.alloc hb.size (.cells #[.int .i64 B.lo, .int .i64 B.hi] 24)
      generalize hW : w1.alloc (.cells #[.int .i64 B.lo, .int .i64 B.hi] 24) = W at *
      refine wp_held_np (fun w' => (∀ j, w'.cell? ⟨w1.heap.size, j, none⟩ = #[Value.int .i64 B.lo, .int .i64 B.hi][j]?) ∧ (∀ j, w'.cell? ⟨w.heap.size + 1, j, none⟩ = #[Value.int .i64 h.p, .int .i64 h.q, .int .i64 h.c][j]?)) (by kernel_rfl) ?_
      have hS : (fun w' : World => (∀ j, w'.cell? ⟨w1.heap.size, j, none⟩ = #[Value.int .i64 B.lo, .int .i64 B.hi][j]?) ∧ (∀ j, w'.cell? ⟨w.heap.size + 1, j, none⟩ = #[Value.int .i64 h.p, .int .i64 h.q, .int .i64 h.c][j]?)) W.drew := ⟨k9.cell, k3.cell⟩
      replace k2 := k2.drew
      replace k3 := k3.drew
      replace k4 := k4.drew
      replace k6 := k6.drew
      replace k9 := k9.drew
      replace hb := hb.drew
      clear hW
      generalize W.drew = V at *
      refine held_take (i := 0) (v := ?_) 55 rfl rfl (by kernel_rfl) (by kernel_rfl) (by kernel_rfl) (fun _ _ _ h => h) (Or.inl ⟨by rfl, ?_⟩) hS ?_
      rotate_left 1
      · intro w' hSw
        try dsimp only at hSw
        obtain ⟨q1, q2⟩ := hSw
        go_simp
        all_goals with_reducible rfl
      try simp only [Act.put, List.setIfInBounds_toArray, List.set_cons_zero, List.set_cons_succ]
      refine held_take (i := 1) (v := ?_) 56 rfl rfl (by kernel_rfl) (by kernel_rfl) (by kernel_rfl) (fun _ _ _ h => h) (Or.inl ⟨by rfl, ?_⟩) hS ?_
      rotate_left 1
      · intro w' hSw
        try dsimp only at hSw
        obtain ⟨q1, q2⟩ := hSw
        go_simp
        all_goals with_reducible rfl
      try simp only [Act.put, List.setIfInBounds_toArray, List.set_cons_zero, List.set_cons_succ]
      refine held_take (i := 2) (v := ?_) 57 rfl rfl (by kernel_rfl) (by kernel_rfl) (by kernel_rfl) (fun _ _ _ h => h) (Or.inl ⟨by rfl, ?_⟩) hS ?_
      rotate_left 1
      · intro w' hSw
        try dsimp only at hSw
        obtain ⟨q1, q2⟩ := hSw
        go_simp
        all_goals with_reducible rfl
      try simp only [Act.put, List.setIfInBounds_toArray, List.set_cons_zero, List.set_cons_succ]
      refine held_take (i := 3) (v := ?_) 58 rfl rfl (by kernel_rfl) (by kernel_rfl) (by kernel_rfl) (fun _ _ _ h => h) (Or.inl ⟨by rfl, ?_⟩) hS ?_
      rotate_left 1
      · intro w' hSw
        try dsimp only at hSw
        obtain ⟨q1, q2⟩ := hSw
        go_simp
        all_goals with_reducible rfl
      try simp only [Act.put, List.setIfInBounds_toArray, List.set_cons_zero, List.set_cons_succ]
      refine held_take (i := 4) (v := ?_) 59 rfl rfl (by kernel_rfl) (by kernel_rfl) (by kernel_rfl) (fun _ _ _ h => h) (Or.inl ⟨by rfl, ?_⟩) hS ?_
      rotate_left 1
      · intro w' hSw
        try dsimp only at hSw
        obtain ⟨q1, q2⟩ := hSw
        go_simp
        all_goals with_reducible rfl
      try simp only [Act.put, List.setIfInBounds_toArray, List.set_cons_zero, List.set_cons_succ]
      refine held_take (i := 6) (v := ?_) 61 rfl rfl (by kernel_rfl) (by kernel_rfl) (by kernel_rfl) (fun _ _ _ h => h) (Or.inl ⟨by rfl, ?_⟩) hS ?_
      rotate_left 1
      · intro w' hSw
        try dsimp only at hSw
        obtain ⟨q1, q2⟩ := hSw
        go_simp
        all_goals with_reducible rfl
      try simp only [Act.put, List.setIfInBounds_toArray, List.set_cons_zero, List.set_cons_succ]
      refine held_take (i := 7) (v := ?_) 62 rfl rfl (by kernel_rfl) (by kernel_rfl) (by kernel_rfl) (fun _ _ _ h => h) (Or.inl ⟨by rfl, ?_⟩) hS ?_
      rotate_left 1
      · intro w' hSw
        try dsimp only at hSw
        obtain ⟨q1, q2⟩ := hSw
        go_simp
        all_goals with_reducible rfl
      try simp only [Act.put, List.setIfInBounds_toArray, List.set_cons_zero, List.set_cons_succ]
      refine held_take (i := 8) (v := ?_) 63 rfl rfl (by kernel_rfl) (by kernel_rfl) (by kernel_rfl) (fun _ _ _ h => h) (Or.inl ⟨by rfl, ?_⟩) hS ?_
      rotate_left 1
      · intro w' hSw
        try dsimp only at hSw
        obtain ⟨q1, q2⟩ := hSw
        go_simp
        all_goals with_reducible rfl
      try simp only [Act.put, List.setIfInBounds_toArray, List.set_cons_zero, List.set_cons_succ]
      refine held_take (i := 9) (v := ?_) 64 rfl rfl (by kernel_rfl) (by kernel_rfl) (by kernel_rfl) (fun _ _ _ h => h) (Or.inl ⟨by rfl, ?_⟩) hS ?_
      rotate_left 1
      · intro w' hSw
        try dsimp only at hSw
        obtain ⟨q1, q2⟩ := hSw
        go_simp
        all_goals with_reducible rfl
      try simp only [Act.put, List.setIfInBounds_toArray, List.set_cons_zero, List.set_cons_succ]
      refine held_one (i := 5) (by kernel_rfl) rfl rfl (fun K hK => ?_)
      go_simp
      refine (hf _).mono ?_
      rintro e w' ⟨rfl, rfl⟩
      refine hK _ _ hS ?_
      clear hK K
      try simp only [Act.put, List.setIfInBounds_toArray, List.set_cons_zero, List.set_cons_succ]
      refine held_one (i := 10) (by kernel_rfl) rfl rfl (fun K hK => ?_)
      go_simp
      refine (hg _).mono ?_
      rintro e w' ⟨rfl, rfl⟩
      refine hK _ _ hS ?_
      clear hK K
      try simp only [Act.put, List.setIfInBounds_toArray, List.set_cons_zero, List.set_cons_succ]
      refine held_take (i := 11) (v := ?_) 66 rfl rfl (by kernel_rfl) (by kernel_rfl) (by kernel_rfl) (fun _ _ _ h => h) (Or.inl ⟨by rfl, ?_⟩) hS ?_
      rotate_left 1
      · intro w' hSw
        try dsimp only at hSw
        obtain ⟨q1, q2⟩ := hSw
        go_simp
        all_goals with_reducible rfl
      try simp only [Act.put, List.setIfInBounds_toArray, List.set_cons_zero, List.set_cons_succ]
      refine held_take (i := 12) (v := ?_) 67 rfl rfl (by kernel_rfl) (by kernel_rfl) (by kernel_rfl) (fun _ _ _ h => h) (Or.inl ⟨by rfl, ?_⟩) hS ?_
      rotate_left 1
      · intro w' hSw
        try dsimp only at hSw
        obtain ⟨q1, q2⟩ := hSw
        go_simp
        all_goals with_reducible rfl
      try simp only [Act.put, List.setIfInBounds_toArray, List.set_cons_zero, List.set_cons_succ]
      refine held_one (i := 13) (by kernel_rfl) rfl rfl (fun K hK => ?_)
      obtain ⟨c6, f6, l6⟩ := k6.rules
      go_simp
      have k9z := (k9.far (p := ⟨w.heap.size + 1 + 1 + 1, 2, none⟩) (by dsimp only; omega) (.int .i64 (floorS B.lo h.c))).far (p := ⟨w.heap.size + 1 + 1 + 1, 3, none⟩) (by dsimp only; omega) (.int .i64 (ceilS B.hi h.c))
      have k3z := (k3.far (p := ⟨w.heap.size + 1 + 1 + 1, 2, none⟩) (by dsimp only; omega) (.int .i64 (floorS B.lo h.c))).far (p := ⟨w.heap.size + 1 + 1 + 1, 3, none⟩) (by dsimp only; omega) (.int .i64 (ceilS B.hi h.c))
      refine hK _ _ ⟨k9z.cell, k3z.cell⟩ ?_
      clear hK K c6 f6 l6
      refine wpAnyH_done (by kernel_rfl) (noPanic_normal ?_) _
      go_wp2_with fail
      go_roundw
      case rel =>
        refine ⟨1 + 1, rfl, by omega, (k2.far (by dsimp only; omega) _).far (by dsimp only; omega) _, k3z, (k4.far (by dsimp only; omega) _).far (by dsimp only; omega) _, ?_, (hb.setCell (p := ⟨w.heap.size + 1 + 1 + 1, 2, none⟩) (by dsimp only; omega) _).setCell (p := ⟨w.heap.size + 1 + 1 + 1, 3, none⟩) (by dsimp only; omega) _⟩
        have k6z := (k6.set_ 2 (.int .i64 (floorS B.lo h.c))).set_ 3 (.int .i64 (ceilS B.hi h.c))
        simp only [turnK, turnedS, regA, hT.out, noReg]
        exact k6z
      case measure => simp [intOf]
    | 2, _ =>
      rw [show jv 2 = .int .i64 2 from rfl]
      have hext := fun W => extremes_any r (h.p + h.q) (h.p - h.q) W hr.out (by omega) (by omega)
      have hbig := extB_big (r := r) (p := (h.p + h.q)) (q := (h.p - h.q)) hr.out (by omega) (by omega)
      obtain ⟨B, hB⟩ : ∃ B, extB r (h.p + h.q) (h.p - h.q) = B := ⟨_, rfl⟩
      simp only [hB] at hext hbig
      have hT : Hid (turnB r h.c (h.p + h.q) (h.p - h.q) = ⟨floorS B.lo h.c, ceilS B.hi h.c⟩) := by show _ = _; unfold turnB; rw [hB]
      replace hB := Lib.hid hB
      unfold bigB at hbig
      have hf := fun W => floor_any B.lo h.c W (by omega) (by omega) (by omega) (by omega)
      have hg := fun W => ceil_any B.hi h.c W (by omega) (by omega) (by omega) (by omega)
      clear hbig
      simp only [regA] at hext
      simp only [turnK, regA, noReg] at k6
      have k2' := k2
      simp only [regA] at k2
      obtain ⟨c2, f2, l2⟩ := k2.rules
      obtain ⟨c3, f3, l3⟩ := k3.rules
      go_wp2_with fail
      refine (hext _).mono ?_
      rintro e w1 ⟨rfl, hb1⟩
      clear hext c2 f2 l2 c3 f3 l3 k2
      have ba := (Below.refl wr.heap.size wr).alloc (Nat.le_refl _) (.cells #[.int .i64 (h.p + h.q), .int .i64 (h.p - h.q)] 96)
      replace hb1 := ba.trans (hb1.mono ba.size)
      replace k2 := k2'.below hb1
      replace k3 := k3.below hb1
      replace k4 := k4.below hb1
      replace k6 := k6.below hb1
      replace hb := hb.trans (hb1.mono hb.size)
      clear hb1 ba k2'
      go_wp2_with fail
      have n6 := k6.lt
      have k9 := Blk.new w1 24 #[.int .i64 B.lo, .int .i64 B.hi]
      replace k2 := k2.alloc (.cells #[.int .i64 B.lo, .int .i64 B.hi] 24)
      replace k3 := k3.alloc (.cells #[.int .i64 B.lo, .int .i64 B.hi] 24)
      replace k4 := k4.alloc (.cells #[.int .i64 B.lo, .int .i64 B.hi] 24)
      replace k6 := k6.alloc (.cells #[.int .i64 B.lo, .int .i64 B.hi] 24)
      replace hb := hb.alloc hb.size (.cells #[.int .i64 B.lo, .int .i64 B.hi] 24)
      generalize hW : w1.alloc (.cells #[.int .i64 B.lo, .int .i64 B.hi] 24) = W at *
      refine wp_held_np (fun w' => (∀ j, w'.cell? ⟨w1.heap.size, j, none⟩ = #[Value.int .i64 B.lo, .int .i64 B.hi][j]?) ∧ (∀ j, w'.cell? ⟨w.heap.size + 1, j, none⟩ = #[Value.int .i64 h.p, .int .i64 h.q, .int .i64 h.c][j]?)) (by kernel_rfl) ?_
      have hS : (fun w' : World => (∀ j, w'.cell? ⟨w1.heap.size, j, none⟩ = #[Value.int .i64 B.lo, .int .i64 B.hi][j]?) ∧ (∀ j, w'.cell? ⟨w.heap.size + 1, j, none⟩ = #[Value.int .i64 h.p, .int .i64 h.q, .int .i64 h.c][j]?)) W.drew := ⟨k9.cell, k3.cell⟩
      replace k2 := k2.drew
      replace k3 := k3.drew
      replace k4 := k4.drew
      replace k6 := k6.drew
      replace k9 := k9.drew
      replace hb := hb.drew
      clear hW
      generalize W.drew = V at *
      refine held_take (i := 0) (v := ?_) 55 rfl rfl (by kernel_rfl) (by kernel_rfl) (by kernel_rfl) (fun _ _ _ h => h) (Or.inl ⟨by rfl, ?_⟩) hS ?_
      rotate_left 1
      · intro w' hSw
        try dsimp only at hSw
        obtain ⟨q1, q2⟩ := hSw
        go_simp
        all_goals with_reducible rfl
      try simp only [Act.put, List.setIfInBounds_toArray, List.set_cons_zero, List.set_cons_succ]
      refine held_take (i := 1) (v := ?_) 56 rfl rfl (by kernel_rfl) (by kernel_rfl) (by kernel_rfl) (fun _ _ _ h => h) (Or.inl ⟨by rfl, ?_⟩) hS ?_
      rotate_left 1
      · intro w' hSw
        try dsimp only at hSw
        obtain ⟨q1, q2⟩ := hSw
        go_simp
        all_goals with_reducible rfl
      try simp only [Act.put, List.setIfInBounds_toArray, List.set_cons_zero, List.set_cons_succ]
      refine held_take (i := 2) (v := ?_) 57 rfl rfl (by kernel_rfl) (by kernel_rfl) (by kernel_rfl) (fun _ _ _ h => h) (Or.inl ⟨by rfl, ?_⟩) hS ?_
      rotate_left 1
      · intro w' hSw
        try dsimp only at hSw
        obtain ⟨q1, q2⟩ := hSw
        go_simp
        all_goals with_reducible rfl
      try simp only [Act.put, List.setIfInBounds_toArray, List.set_cons_zero, List.set_cons_succ]
      refine held_take (i := 3) (v := ?_) 58 rfl rfl (by kernel_rfl) (by kernel_rfl) (by kernel_rfl) (fun _ _ _ h => h) (Or.inl ⟨by rfl, ?_⟩) hS ?_
      rotate_left 1
      · intro w' hSw
        try dsimp only at hSw
        obtain ⟨q1, q2⟩ := hSw
        go_simp
        all_goals with_reducible rfl
      try simp only [Act.put, List.setIfInBounds_toArray, List.set_cons_zero, List.set_cons_succ]
      refine held_take (i := 4) (v := ?_) 59 rfl rfl (by kernel_rfl) (by kernel_rfl) (by kernel_rfl) (fun _ _ _ h => h) (Or.inl ⟨by rfl, ?_⟩) hS ?_
      rotate_left 1
      · intro w' hSw
        try dsimp only at hSw
        obtain ⟨q1, q2⟩ := hSw
        go_simp
        all_goals with_reducible rfl
      try simp only [Act.put, List.setIfInBounds_toArray, List.set_cons_zero, List.set_cons_succ]
      refine held_take (i := 6) (v := ?_) 61 rfl rfl (by kernel_rfl) (by kernel_rfl) (by kernel_rfl) (fun _ _ _ h => h) (Or.inl ⟨by rfl, ?_⟩) hS ?_
      rotate_left 1
      · intro w' hSw
        try dsimp only at hSw
        obtain ⟨q1, q2⟩ := hSw
        go_simp
        all_goals with_reducible rfl
      try simp only [Act.put, List.setIfInBounds_toArray, List.set_cons_zero, List.set_cons_succ]
      refine held_take (i := 7) (v := ?_) 62 rfl rfl (by kernel_rfl) (by kernel_rfl) (by kernel_rfl) (fun _ _ _ h => h) (Or.inl ⟨by rfl, ?_⟩) hS ?_
      rotate_left 1
      · intro w' hSw
        try dsimp only at hSw
        obtain ⟨q1, q2⟩ := hSw
        go_simp
        all_goals with_reducible rfl
      try simp only [Act.put, List.setIfInBounds_toArray, List.set_cons_zero, List.set_cons_succ]
      refine held_take (i := 8) (v := ?_) 63 rfl rfl (by kernel_rfl) (by kernel_rfl) (by kernel_rfl) (fun _ _ _ h => h) (Or.inl ⟨by rfl, ?_⟩) hS ?_
      rotate_left 1
      · intro w' hSw
        try dsimp only at hSw
        obtain ⟨q1, q2⟩ := hSw
        go_simp
        all_goals with_reducible rfl
      try simp only [Act.put, List.setIfInBounds_toArray, List.set_cons_zero, List.set_cons_succ]
      refine held_take (i := 9) (v := ?_) 64 rfl rfl (by kernel_rfl) (by kernel_rfl) (by kernel_rfl) (fun _ _ _ h => h) (Or.inl ⟨by rfl, ?_⟩) hS ?_
      rotate_left 1
      · intro w' hSw
        try dsimp only at hSw
        obtain ⟨q1, q2⟩ := hSw
        go_simp
        all_goals with_reducible rfl
      try simp only [Act.put, List.setIfInBounds_toArray, List.set_cons_zero, List.set_cons_succ]
      refine held_one (i := 5) (by kernel_rfl) rfl rfl (fun K hK => ?_)
      go_simp
      refine (hf _).mono ?_
      rintro e w' ⟨rfl, rfl⟩
      refine hK _ _ hS ?_
      clear hK K
      try simp only [Act.put, List.setIfInBounds_toArray, List.set_cons_zero, List.set_cons_succ]
      refine held_one (i := 10) (by kernel_rfl) rfl rfl (fun K hK => ?_)
      go_simp
      refine (hg _).mono ?_
      rintro e w' ⟨rfl, rfl⟩
      refine hK _ _ hS ?_
      clear hK K
      try simp only [Act.put, List.setIfInBounds_toArray, List.set_cons_zero, List.set_cons_succ]
      refine held_take (i := 11) (v := ?_) 66 rfl rfl (by kernel_rfl) (by kernel_rfl) (by kernel_rfl) (fun _ _ _ h => h) (Or.inl ⟨by rfl, ?_⟩) hS ?_
      rotate_left 1
      · intro w' hSw
        try dsimp only at hSw
        obtain ⟨q1, q2⟩ := hSw
        go_simp
        all_goals with_reducible rfl
      try simp only [Act.put, List.setIfInBounds_toArray, List.set_cons_zero, List.set_cons_succ]
      refine held_take (i := 12) (v := ?_) 67 rfl rfl (by kernel_rfl) (by kernel_rfl) (by kernel_rfl) (fun _ _ _ h => h) (Or.inl ⟨by rfl, ?_⟩) hS ?_
      rotate_left 1
      · intro w' hSw
        try dsimp only at hSw
        obtain ⟨q1, q2⟩ := hSw
        go_simp
        all_goals with_reducible rfl
      try simp only [Act.put, List.setIfInBounds_toArray, List.set_cons_zero, List.set_cons_succ]
      refine held_one (i := 13) (by kernel_rfl) rfl rfl (fun K hK => ?_)
      obtain ⟨c6, f6, l6⟩ := k6.rules
      go_simp
      have k9z := (k9.far (p := ⟨w.heap.size + 1 + 1 + 1, 4, none⟩) (by dsimp only; omega) (.int .i64 (floorS B.lo h.c))).far (p := ⟨w.heap.size + 1 + 1 + 1, 5, none⟩) (by dsimp only; omega) (.int .i64 (ceilS B.hi h.c))
      have k3z := (k3.far (p := ⟨w.heap.size + 1 + 1 + 1, 4, none⟩) (by dsimp only; omega) (.int .i64 (floorS B.lo h.c))).far (p := ⟨w.heap.size + 1 + 1 + 1, 5, none⟩) (by dsimp only; omega) (.int .i64 (ceilS B.hi h.c))
      refine hK _ _ ⟨k9z.cell, k3z.cell⟩ ?_
      clear hK K c6 f6 l6
      refine wpAnyH_done (by kernel_rfl) (noPanic_normal ?_) _
      go_wp2_with fail
      go_roundw
      case rel =>
        refine ⟨2 + 1, rfl, by omega, (k2.far (by dsimp only; omega) _).far (by dsimp only; omega) _, k3z, (k4.far (by dsimp only; omega) _).far (by dsimp only; omega) _, ?_, (hb.setCell (p := ⟨w.heap.size + 1 + 1 + 1, 4, none⟩) (by dsimp only; omega) _).setCell (p := ⟨w.heap.size + 1 + 1 + 1, 5, none⟩) (by dsimp only; omega) _⟩
        have k6z := (k6.set_ 4 (.int .i64 (floorS B.lo h.c))).set_ 5 (.int .i64 (ceilS B.hi h.c))
        simp only [turnK, turnedS, regA, hT.out, noReg]
        exact k6z
      case measure => simp [intOf]
    | 3, _ =>
      rw [show jv 3 = .int .i64 3 from rfl]
      have hext := fun W => extremes_any r (h.p - h.q) (-h.q - h.p) W hr.out (by omega) (by omega)
      have hbig := extB_big (r := r) (p := (h.p - h.q)) (q := (-h.q - h.p)) hr.out (by omega) (by omega)
      obtain ⟨B, hB⟩ : ∃ B, extB r (h.p - h.q) (-h.q - h.p) = B := ⟨_, rfl⟩
      simp only [hB] at hext hbig
      have hT : Hid (turnB r h.c (h.p - h.q) (-h.q - h.p) = ⟨floorS B.lo h.c, ceilS B.hi h.c⟩) := by show _ = _; unfold turnB; rw [hB]
      replace hB := Lib.hid hB
      unfold bigB at hbig
      have hf := fun W => floor_any B.lo h.c W (by omega) (by omega) (by omega) (by omega)
      have hg := fun W => ceil_any B.hi h.c W (by omega) (by omega) (by omega) (by omega)
      clear hbig
      simp only [regA] at hext
      simp only [turnK, regA, noReg] at k6
      have k2' := k2
      simp only [regA] at k2
      obtain ⟨c2, f2, l2⟩ := k2.rules
      obtain ⟨c3, f3, l3⟩ := k3.rules
      go_wp2_with fail
      refine (hext _).mono ?_
      rintro e w1 ⟨rfl, hb1⟩
      clear hext c2 f2 l2 c3 f3 l3 k2
      have ba := (Below.refl wr.heap.size wr).alloc (Nat.le_refl _) (.cells #[.int .i64 (h.p - h.q), .int .i64 (-h.q - h.p)] 96)
      replace hb1 := ba.trans (hb1.mono ba.size)
      replace k2 := k2'.below hb1
      replace k3 := k3.below hb1
      replace k4 := k4.below hb1
      replace k6 := k6.below hb1
      replace hb := hb.trans (hb1.mono hb.size)
      clear hb1 ba k2'
      go_wp2_with fail
      have n6 := k6.lt
      have k9 := Blk.new w1 24 #[.int .i64 B.lo, .int .i64 B.hi]
      replace k2 := k2.alloc (.cells #[.int .i64 B.lo, .int .i64 B.hi] 24)
      replace k3 := k3.alloc (.cells #[.int .i64 B.lo, .int .i64 B.hi] 24)
      replace k4 := k4.alloc (.cells #[.int .i64 B.lo, .int .i64 B.hi] 24)
      replace k6 := k6.alloc (.cells #[.int .i64 B.lo, .int .i64 B.hi] 24)
      replace hb := hb.alloc hb.size (.cells #[.int .i64 B.lo, .int .i64 B.hi] 24)
      generalize hW : w1.alloc (.cells #[.int .i64 B.lo, .int .i64 B.hi] 24) = W at *
      refine wp_held_np (fun w' => (∀ j, w'.cell? ⟨w1.heap.size, j, none⟩ = #[Value.int .i64 B.lo, .int .i64 B.hi][j]?) ∧ (∀ j, w'.cell? ⟨w.heap.size + 1, j, none⟩ = #[Value.int .i64 h.p, .int .i64 h.q, .int .i64 h.c][j]?)) (by kernel_rfl) ?_
      have hS : (fun w' : World => (∀ j, w'.cell? ⟨w1.heap.size, j, none⟩ = #[Value.int .i64 B.lo, .int .i64 B.hi][j]?) ∧ (∀ j, w'.cell? ⟨w.heap.size + 1, j, none⟩ = #[Value.int .i64 h.p, .int .i64 h.q, .int .i64 h.c][j]?)) W.drew := ⟨k9.cell, k3.cell⟩
      replace k2 := k2.drew
      replace k3 := k3.drew
      replace k4 := k4.drew
      replace k6 := k6.drew
      replace k9 := k9.drew
      replace hb := hb.drew
      clear hW
      generalize W.drew = V at *
      refine held_take (i := 0) (v := ?_) 55 rfl rfl (by kernel_rfl) (by kernel_rfl) (by kernel_rfl) (fun _ _ _ h => h) (Or.inl ⟨by rfl, ?_⟩) hS ?_
      rotate_left 1
      · intro w' hSw
        try dsimp only at hSw
        obtain ⟨q1, q2⟩ := hSw
        go_simp
        all_goals with_reducible rfl
      try simp only [Act.put, List.setIfInBounds_toArray, List.set_cons_zero, List.set_cons_succ]
      refine held_take (i := 1) (v := ?_) 56 rfl rfl (by kernel_rfl) (by kernel_rfl) (by kernel_rfl) (fun _ _ _ h => h) (Or.inl ⟨by rfl, ?_⟩) hS ?_
      rotate_left 1
      · intro w' hSw
        try dsimp only at hSw
        obtain ⟨q1, q2⟩ := hSw
        go_simp
        all_goals with_reducible rfl
      try simp only [Act.put, List.setIfInBounds_toArray, List.set_cons_zero, List.set_cons_succ]
      refine held_take (i := 2) (v := ?_) 57 rfl rfl (by kernel_rfl) (by kernel_rfl) (by kernel_rfl) (fun _ _ _ h => h) (Or.inl ⟨by rfl, ?_⟩) hS ?_
      rotate_left 1
      · intro w' hSw
        try dsimp only at hSw
        obtain ⟨q1, q2⟩ := hSw
        go_simp
        all_goals with_reducible rfl
      try simp only [Act.put, List.setIfInBounds_toArray, List.set_cons_zero, List.set_cons_succ]
      refine held_take (i := 3) (v := ?_) 58 rfl rfl (by kernel_rfl) (by kernel_rfl) (by kernel_rfl) (fun _ _ _ h => h) (Or.inl ⟨by rfl, ?_⟩) hS ?_
      rotate_left 1
      · intro w' hSw
        try dsimp only at hSw
        obtain ⟨q1, q2⟩ := hSw
        go_simp
        all_goals with_reducible rfl
      try simp only [Act.put, List.setIfInBounds_toArray, List.set_cons_zero, List.set_cons_succ]
      refine held_take (i := 4) (v := ?_) 59 rfl rfl (by kernel_rfl) (by kernel_rfl) (by kernel_rfl) (fun _ _ _ h => h) (Or.inl ⟨by rfl, ?_⟩) hS ?_
      rotate_left 1
      · intro w' hSw
        try dsimp only at hSw
        obtain ⟨q1, q2⟩ := hSw
        go_simp
        all_goals with_reducible rfl
      try simp only [Act.put, List.setIfInBounds_toArray, List.set_cons_zero, List.set_cons_succ]
      refine held_take (i := 6) (v := ?_) 61 rfl rfl (by kernel_rfl) (by kernel_rfl) (by kernel_rfl) (fun _ _ _ h => h) (Or.inl ⟨by rfl, ?_⟩) hS ?_
      rotate_left 1
      · intro w' hSw
        try dsimp only at hSw
        obtain ⟨q1, q2⟩ := hSw
        go_simp
        all_goals with_reducible rfl
      try simp only [Act.put, List.setIfInBounds_toArray, List.set_cons_zero, List.set_cons_succ]
      refine held_take (i := 7) (v := ?_) 62 rfl rfl (by kernel_rfl) (by kernel_rfl) (by kernel_rfl) (fun _ _ _ h => h) (Or.inl ⟨by rfl, ?_⟩) hS ?_
      rotate_left 1
      · intro w' hSw
        try dsimp only at hSw
        obtain ⟨q1, q2⟩ := hSw
        go_simp
        all_goals with_reducible rfl
      try simp only [Act.put, List.setIfInBounds_toArray, List.set_cons_zero, List.set_cons_succ]
      refine held_take (i := 8) (v := ?_) 63 rfl rfl (by kernel_rfl) (by kernel_rfl) (by kernel_rfl) (fun _ _ _ h => h) (Or.inl ⟨by rfl, ?_⟩) hS ?_
      rotate_left 1
      · intro w' hSw
        try dsimp only at hSw
        obtain ⟨q1, q2⟩ := hSw
        go_simp
        all_goals with_reducible rfl
      try simp only [Act.put, List.setIfInBounds_toArray, List.set_cons_zero, List.set_cons_succ]
      refine held_take (i := 9) (v := ?_) 64 rfl rfl (by kernel_rfl) (by kernel_rfl) (by kernel_rfl) (fun _ _ _ h => h) (Or.inl ⟨by rfl, ?_⟩) hS ?_
      rotate_left 1
      · intro w' hSw
        try dsimp only at hSw
        obtain ⟨q1, q2⟩ := hSw
        go_simp
        all_goals with_reducible rfl
      try simp only [Act.put, List.setIfInBounds_toArray, List.set_cons_zero, List.set_cons_succ]
      refine held_one (i := 5) (by kernel_rfl) rfl rfl (fun K hK => ?_)
      go_simp
      refine (hf _).mono ?_
      rintro e w' ⟨rfl, rfl⟩
      refine hK _ _ hS ?_
      clear hK K
      try simp only [Act.put, List.setIfInBounds_toArray, List.set_cons_zero, List.set_cons_succ]
      refine held_one (i := 10) (by kernel_rfl) rfl rfl (fun K hK => ?_)
      go_simp
      refine (hg _).mono ?_
      rintro e w' ⟨rfl, rfl⟩
      refine hK _ _ hS ?_
      clear hK K
      try simp only [Act.put, List.setIfInBounds_toArray, List.set_cons_zero, List.set_cons_succ]
      refine held_take (i := 11) (v := ?_) 66 rfl rfl (by kernel_rfl) (by kernel_rfl) (by kernel_rfl) (fun _ _ _ h => h) (Or.inl ⟨by rfl, ?_⟩) hS ?_
      rotate_left 1
      · intro w' hSw
        try dsimp only at hSw
        obtain ⟨q1, q2⟩ := hSw
        go_simp
        all_goals with_reducible rfl
      try simp only [Act.put, List.setIfInBounds_toArray, List.set_cons_zero, List.set_cons_succ]
      refine held_take (i := 12) (v := ?_) 67 rfl rfl (by kernel_rfl) (by kernel_rfl) (by kernel_rfl) (fun _ _ _ h => h) (Or.inl ⟨by rfl, ?_⟩) hS ?_
      rotate_left 1
      · intro w' hSw
        try dsimp only at hSw
        obtain ⟨q1, q2⟩ := hSw
        go_simp
        all_goals with_reducible rfl
      try simp only [Act.put, List.setIfInBounds_toArray, List.set_cons_zero, List.set_cons_succ]
      refine held_one (i := 13) (by kernel_rfl) rfl rfl (fun K hK => ?_)
      obtain ⟨c6, f6, l6⟩ := k6.rules
      go_simp
      have k9z := (k9.far (p := ⟨w.heap.size + 1 + 1 + 1, 6, none⟩) (by dsimp only; omega) (.int .i64 (floorS B.lo h.c))).far (p := ⟨w.heap.size + 1 + 1 + 1, 7, none⟩) (by dsimp only; omega) (.int .i64 (ceilS B.hi h.c))
      have k3z := (k3.far (p := ⟨w.heap.size + 1 + 1 + 1, 6, none⟩) (by dsimp only; omega) (.int .i64 (floorS B.lo h.c))).far (p := ⟨w.heap.size + 1 + 1 + 1, 7, none⟩) (by dsimp only; omega) (.int .i64 (ceilS B.hi h.c))
      refine hK _ _ ⟨k9z.cell, k3z.cell⟩ ?_
      clear hK K c6 f6 l6
      refine wpAnyH_done (by kernel_rfl) (noPanic_normal ?_) _
      go_wp2_with fail
      go_roundw
      case rel =>
        refine ⟨3 + 1, rfl, by omega, (k2.far (by dsimp only; omega) _).far (by dsimp only; omega) _, k3z, (k4.far (by dsimp only; omega) _).far (by dsimp only; omega) _, ?_, (hb.setCell (p := ⟨w.heap.size + 1 + 1 + 1, 6, none⟩) (by dsimp only; omega) _).setCell (p := ⟨w.heap.size + 1 + 1 + 1, 7, none⟩) (by dsimp only; omega) _⟩
        have k6z := (k6.set_ 6 (.int .i64 (floorS B.lo h.c))).set_ 7 (.int .i64 (ceilS B.hi h.c))
        simp only [turnK, turnedS, regA, hT.out, noReg]
        exact k6z
      case measure => simp [intOf]
    | 4, _ =>
      rw [show jv 4 = .int .i64 4 from rfl]
      rw [show turnK r h 4 = turnedS r h from rfl] at k6
      obtain ⟨T, hT⟩ : ∃ T, turnedS r h = T := ⟨_, rfl⟩
      rw [hT] at k6
      replace hT := Lib.hid hT
      have hbx := fun W => bound_any T.x 32768 W (by omega) (by omega)
      have hby := fun W => bound_any T.y 32768 W (by omega) (by omega)
      have hin : Hid (inPlane T = (okBnd 32768 T.x && okBnd 32768 T.y)) := rfl
      simp only [regA, noReg] at k6 k4
      clear i0 i1 i2 i3 t1 t2 t3 t4 k2 k3
      generalize okBnd 32768 T.x = bx at *
      generalize okBnd 32768 T.y = by_ at *
      go_wp2_with fail
      refine wp_held_np (fun w' => (∀ j, w'.cell? ⟨w.heap.size + 1 + 1 + 1, j, none⟩ = #[Value.int .i64 T.x.lo, .int .i64 T.x.hi, .int .i64 T.y.lo, .int .i64 T.y.hi, .int .i64 T.s.lo, .int .i64 T.s.hi, .int .i64 T.d.lo, .int .i64 T.d.hi][j]?) ∧ True) (by kernel_rfl) ?_
      have hS : (fun w' : World => (∀ j, w'.cell? ⟨w.heap.size + 1 + 1 + 1, j, none⟩ = #[Value.int .i64 T.x.lo, .int .i64 T.x.hi, .int .i64 T.y.lo, .int .i64 T.y.hi, .int .i64 T.s.lo, .int .i64 T.s.hi, .int .i64 T.d.lo, .int .i64 T.d.hi][j]?) ∧ True) wr.drew := ⟨k6.cell, trivial⟩
      replace k4 := k4.drew
      replace k6 := k6.drew
      replace hb := hb.drew
      generalize wr.drew = V at *
      refine held_take (i := 0) (v := ?_) 69 rfl rfl (by kernel_rfl) (by kernel_rfl) (by kernel_rfl) (fun _ _ _ h => h) (Or.inl ⟨by rfl, ?_⟩) hS ?_
      rotate_left 1
      · intro w' hSw
        try dsimp only at hSw
        obtain ⟨q1, q2⟩ := hSw
        go_simp
        all_goals with_reducible rfl
      try simp only [Act.put, List.setIfInBounds_toArray, List.set_cons_zero, List.set_cons_succ]
      refine held_take (i := 1) (v := ?_) 70 rfl rfl (by kernel_rfl) (by kernel_rfl) (by kernel_rfl) (fun _ _ _ h => h) (Or.inl ⟨by rfl, ?_⟩) hS ?_
      rotate_left 1
      · intro w' hSw
        try dsimp only at hSw
        obtain ⟨q1, q2⟩ := hSw
        go_simp
        all_goals with_reducible rfl
      try simp only [Act.put, List.setIfInBounds_toArray, List.set_cons_zero, List.set_cons_succ]
      refine held_take (i := 2) (v := ?_) 71 rfl rfl (by kernel_rfl) (by kernel_rfl) (by kernel_rfl) (fun _ _ _ h => h) (Or.inl ⟨by rfl, ?_⟩) hS ?_
      rotate_left 1
      · intro w' hSw
        try dsimp only at hSw
        obtain ⟨q1, q2⟩ := hSw
        go_simp
        all_goals with_reducible rfl
      try simp only [Act.put, List.setIfInBounds_toArray, List.set_cons_zero, List.set_cons_succ]
      refine held_take (i := 3) (v := ?_) 72 rfl rfl (by kernel_rfl) (by kernel_rfl) (by kernel_rfl) (fun _ _ _ h => h) (Or.inl ⟨by rfl, ?_⟩) hS ?_
      rotate_left 1
      · intro w' hSw
        try dsimp only at hSw
        obtain ⟨q1, q2⟩ := hSw
        go_simp
        all_goals with_reducible rfl
      try simp only [Act.put, List.setIfInBounds_toArray, List.set_cons_zero, List.set_cons_succ]
      refine held_take (i := 4) (v := ?_) 73 rfl rfl (by kernel_rfl) (by kernel_rfl) (by kernel_rfl) (fun _ _ _ h => h) (Or.inl ⟨by rfl, ?_⟩) hS ?_
      rotate_left 1
      · intro w' hSw
        try dsimp only at hSw
        obtain ⟨q1, q2⟩ := hSw
        go_simp
        all_goals with_reducible rfl
      try simp only [Act.put, List.setIfInBounds_toArray, List.set_cons_zero, List.set_cons_succ]
      refine held_take (i := 5) (v := ?_) 74 rfl rfl (by kernel_rfl) (by kernel_rfl) (by kernel_rfl) (fun _ _ _ h => h) (Or.inl ⟨by rfl, ?_⟩) hS ?_
      rotate_left 1
      · intro w' hSw
        try dsimp only at hSw
        obtain ⟨q1, q2⟩ := hSw
        go_simp
        all_goals with_reducible rfl
      try simp only [Act.put, List.setIfInBounds_toArray, List.set_cons_zero, List.set_cons_succ]
      refine held_take (i := 6) (v := ?_) 75 rfl rfl (by kernel_rfl) (by kernel_rfl) (by kernel_rfl) (fun _ _ _ h => h) (Or.inl ⟨by rfl, ?_⟩) hS ?_
      rotate_left 1
      · intro w' hSw
        try dsimp only at hSw
        obtain ⟨q1, q2⟩ := hSw
        go_simp
        all_goals with_reducible rfl
      try simp only [Act.put, List.setIfInBounds_toArray, List.set_cons_zero, List.set_cons_succ]
      refine held_take (i := 7) (v := ?_) 76 rfl rfl (by kernel_rfl) (by kernel_rfl) (by kernel_rfl) (fun _ _ _ h => h) (Or.inl ⟨by rfl, ?_⟩) hS ?_
      rotate_left 1
      · intro w' hSw
        try dsimp only at hSw
        obtain ⟨q1, q2⟩ := hSw
        go_simp
        all_goals with_reducible rfl
      try simp only [Act.put, List.setIfInBounds_toArray, List.set_cons_zero, List.set_cons_succ]
      refine held_take (i := 8) (v := ?_) 77 rfl rfl (by kernel_rfl) (by kernel_rfl) (by kernel_rfl) (fun _ _ _ h => h) (Or.inl ⟨by rfl, ?_⟩) hS ?_
      rotate_left 1
      · intro w' hSw
        try dsimp only at hSw
        obtain ⟨q1, q2⟩ := hSw
        go_simp
        all_goals with_reducible rfl
      try simp only [Act.put, List.setIfInBounds_toArray, List.set_cons_zero, List.set_cons_succ]
      refine held_take (i := 9) (v := ?_) 78 rfl rfl (by kernel_rfl) (by kernel_rfl) (by kernel_rfl) (fun _ _ _ h => h) (Or.inl ⟨by rfl, ?_⟩) hS ?_
      rotate_left 1
      · intro w' hSw
        try dsimp only at hSw
        obtain ⟨q1, q2⟩ := hSw
        go_simp
        all_goals with_reducible rfl
      try simp only [Act.put, List.setIfInBounds_toArray, List.set_cons_zero, List.set_cons_succ]
      refine held_take (i := 10) (v := ?_) 79 rfl rfl (by kernel_rfl) (by kernel_rfl) (by kernel_rfl) (fun _ _ _ h => h) (Or.inl ⟨by rfl, ?_⟩) hS ?_
      rotate_left 1
      · intro w' hSw
        try dsimp only at hSw
        obtain ⟨q1, q2⟩ := hSw
        go_simp
        all_goals with_reducible rfl
      try simp only [Act.put, List.setIfInBounds_toArray, List.set_cons_zero, List.set_cons_succ]
      refine held_one (i := 11) (by kernel_rfl) rfl rfl (fun K hK => ?_)
      go_simp
      refine (hbx _).mono ?_
      rintro e w5 ⟨rfl, hb5⟩
      replace k4 := k4.below hb5
      replace k6 := k6.below hb5
      replace hb := hb.trans (hb5.mono hb.size)
      clear hS hb5 hbx
      have hS : (fun w' : World => (∀ j, w'.cell? ⟨w.heap.size + 1 + 1 + 1, j, none⟩ = #[Value.int .i64 T.x.lo, .int .i64 T.x.hi, .int .i64 T.y.lo, .int .i64 T.y.hi, .int .i64 T.s.lo, .int .i64 T.s.hi, .int .i64 T.d.lo, .int .i64 T.d.hi][j]?) ∧ True) w5 := ⟨k6.cell, trivial⟩
      refine hK _ _ hS ?_
      clear hK K
      try simp only [Act.put, List.setIfInBounds_toArray, List.set_cons_zero, List.set_cons_succ]
      cases bx with
      | true =>
        refine held_take (i := 12) (v := ?_) 81 rfl rfl (by kernel_rfl) (by kernel_rfl) (by kernel_rfl) (fun _ _ _ h => h) (Or.inl ⟨by rfl, ?_⟩) hS ?_
        rotate_left 1
        · intro w' hSw
          try dsimp only at hSw
          obtain ⟨q1, q2⟩ := hSw
          go_simp
          all_goals with_reducible rfl
        try simp only [Act.put, List.setIfInBounds_toArray, List.set_cons_zero, List.set_cons_succ]
        refine held_take (i := 13) (v := ?_) 82 rfl rfl (by kernel_rfl) (by kernel_rfl) (by kernel_rfl) (fun _ _ _ h => h) (Or.inl ⟨by rfl, ?_⟩) hS ?_
        rotate_left 1
        · intro w' hSw
          try dsimp only at hSw
          obtain ⟨q1, q2⟩ := hSw
          go_simp
          all_goals with_reducible rfl
        try simp only [Act.put, List.setIfInBounds_toArray, List.set_cons_zero, List.set_cons_succ]
        refine held_take (i := 14) (v := ?_) 83 rfl rfl (by kernel_rfl) (by kernel_rfl) (by kernel_rfl) (fun _ _ _ h => h) (Or.inl ⟨by rfl, ?_⟩) hS ?_
        rotate_left 1
        · intro w' hSw
          try dsimp only at hSw
          obtain ⟨q1, q2⟩ := hSw
          go_simp
          all_goals with_reducible rfl
        try simp only [Act.put, List.setIfInBounds_toArray, List.set_cons_zero, List.set_cons_succ]
        refine held_one (i := 15) (by kernel_rfl) rfl rfl (fun K hK => ?_)
        go_simp
        refine (hby _).mono ?_
        rintro e w6 ⟨rfl, hb6⟩
        replace k4 := k4.below hb6
        replace k6 := k6.below hb6
        replace hb := hb.trans (hb6.mono hb.size)
        clear hS hb6 hby
        have hS : (fun w' : World => (∀ j, w'.cell? ⟨w.heap.size + 1 + 1 + 1, j, none⟩ = #[Value.int .i64 T.x.lo, .int .i64 T.x.hi, .int .i64 T.y.lo, .int .i64 T.y.hi, .int .i64 T.s.lo, .int .i64 T.s.hi, .int .i64 T.d.lo, .int .i64 T.d.hi][j]?) ∧ True) w6 := ⟨k6.cell, trivial⟩
        refine hK _ _ hS ?_
        clear hK K
        try simp only [Act.put, List.setIfInBounds_toArray, List.set_cons_zero, List.set_cons_succ]
        cases by_ with
        | true =>
          refine held_take (i := 16) (v := ?_) 85 rfl rfl (by kernel_rfl) (by kernel_rfl) (by kernel_rfl) (fun _ _ _ h => h) (Or.inl ⟨by rfl, ?_⟩) hS ?_
          rotate_left 1
          · intro w' hSw
            try dsimp only at hSw
            obtain ⟨q1, q2⟩ := hSw
            go_simp
            all_goals with_reducible rfl
          try simp only [Act.put, List.setIfInBounds_toArray, List.set_cons_zero, List.set_cons_succ]
          have kz := k4.set8 (.int .i64 T.x.lo) (.int .i64 T.x.hi) (.int .i64 T.y.lo) (.int .i64 T.y.hi) (.int .i64 T.s.lo) (.int .i64 T.s.hi) (.int .i64 T.d.lo) (.int .i64 T.d.hi)
          have k6z := far_set8 k6 (g := w.heap.size + 1 + 1) (by omega) (.int .i64 T.x.lo) (.int .i64 T.x.hi) (.int .i64 T.y.lo) (.int .i64 T.y.hi) (.int .i64 T.s.lo) (.int .i64 T.s.hi) (.int .i64 T.d.lo) (.int .i64 T.d.hi)
          have bz := below_set8 (g := w.heap.size + 1 + 1) hb (by omega) (.int .i64 T.x.lo) (.int .i64 T.x.hi) (.int .i64 T.y.lo) (.int .i64 T.y.hi) (.int .i64 T.s.lo) (.int .i64 T.s.hi) (.int .i64 T.d.lo) (.int .i64 T.d.hi)
          obtain ⟨wz, hwz⟩ : ∃ x, x = set8 w6 (w.heap.size + 1 + 1) (.int .i64 T.x.lo) (.int .i64 T.x.hi) (.int .i64 T.y.lo) (.int .i64 T.y.hi) (.int .i64 T.s.lo) (.int .i64 T.s.hi) (.int .i64 T.d.lo) (.int .i64 T.d.hi) := ⟨_, rfl⟩
          rw [← hwz] at kz k6z bz
          simp only [set8] at hwz
          refine held_one (i := 17) (by kernel_rfl) rfl rfl (fun K hK => ?_)
          obtain ⟨c4, f4, l4⟩ := k4.rules
          go_simp
          rw [← hwz]
          clear hwz hS c4 f4 l4
          have hS : (fun w' : World => (∀ j, w'.cell? ⟨w.heap.size + 1 + 1 + 1, j, none⟩ = #[Value.int .i64 T.x.lo, .int .i64 T.x.hi, .int .i64 T.y.lo, .int .i64 T.y.hi, .int .i64 T.s.lo, .int .i64 T.s.hi, .int .i64 T.d.lo, .int .i64 T.d.hi][j]?) ∧ True) wz := ⟨k6z.cell, trivial⟩
          refine hK _ _ hS ?_
          clear hK K
          try simp only [Act.put, List.setIfInBounds_toArray, List.set_cons_zero, List.set_cons_succ]
          refine held_take (i := 18) (v := ?_) 5 rfl rfl (by kernel_rfl) (by kernel_rfl) (by kernel_rfl) (fun _ _ _ h => h) (Or.inl ⟨by rfl, ?_⟩) hS ?_
          rotate_left 1
          · intro w' hSw
            try dsimp only at hSw
            obtain ⟨q1, q2⟩ := hSw
            go_simp
            all_goals with_reducible rfl
          try simp only [Act.put, List.setIfInBounds_toArray, List.set_cons_zero, List.set_cons_succ]
          refine wpAnyH_done (by kernel_rfl) (noPanic_normal ?_) _
          go_wp2
          obtain ⟨c4, f4, l4⟩ := kz.rules
          refine bodyPost_ret (v := .tuple #[.agg #[.int .i64 T.x.lo, .int .i64 T.x.hi, .int .i64 T.y.lo, .int .i64 T.y.hi, .int .i64 T.s.lo, .int .i64 T.s.hi, .int .i64 T.d.lo, .int .i64 T.d.hi], .bool true]) (by simp [results, Tryz.results44, go_sem, c4]) rfl ⟨?_, bz⟩
          rw [hT.out, hin.out]
          rfl
        | false =>
          refine held_take (i := 16) (v := ?_) 85 rfl rfl (by kernel_rfl) (by kernel_rfl) (by kernel_rfl) (fun _ _ _ h => h) (Or.inl ⟨by rfl, ?_⟩) hS ?_
          rotate_left 1
          · intro w' hSw
            try dsimp only at hSw
            obtain ⟨q1, q2⟩ := hSw
            go_simp
            all_goals with_reducible rfl
          try simp only [Act.put, List.setIfInBounds_toArray, List.set_cons_zero, List.set_cons_succ]
          have kz := k4.set8 (.int .i64 T.x.lo) (.int .i64 T.x.hi) (.int .i64 T.y.lo) (.int .i64 T.y.hi) (.int .i64 T.s.lo) (.int .i64 T.s.hi) (.int .i64 T.d.lo) (.int .i64 T.d.hi)
          have k6z := far_set8 k6 (g := w.heap.size + 1 + 1) (by omega) (.int .i64 T.x.lo) (.int .i64 T.x.hi) (.int .i64 T.y.lo) (.int .i64 T.y.hi) (.int .i64 T.s.lo) (.int .i64 T.s.hi) (.int .i64 T.d.lo) (.int .i64 T.d.hi)
          have bz := below_set8 (g := w.heap.size + 1 + 1) hb (by omega) (.int .i64 T.x.lo) (.int .i64 T.x.hi) (.int .i64 T.y.lo) (.int .i64 T.y.hi) (.int .i64 T.s.lo) (.int .i64 T.s.hi) (.int .i64 T.d.lo) (.int .i64 T.d.hi)
          obtain ⟨wz, hwz⟩ : ∃ x, x = set8 w6 (w.heap.size + 1 + 1) (.int .i64 T.x.lo) (.int .i64 T.x.hi) (.int .i64 T.y.lo) (.int .i64 T.y.hi) (.int .i64 T.s.lo) (.int .i64 T.s.hi) (.int .i64 T.d.lo) (.int .i64 T.d.hi) := ⟨_, rfl⟩
          rw [← hwz] at kz k6z bz
          simp only [set8] at hwz
          refine held_one (i := 17) (by kernel_rfl) rfl rfl (fun K hK => ?_)
          obtain ⟨c4, f4, l4⟩ := k4.rules
          go_simp
          rw [← hwz]
          clear hwz hS c4 f4 l4
          have hS : (fun w' : World => (∀ j, w'.cell? ⟨w.heap.size + 1 + 1 + 1, j, none⟩ = #[Value.int .i64 T.x.lo, .int .i64 T.x.hi, .int .i64 T.y.lo, .int .i64 T.y.hi, .int .i64 T.s.lo, .int .i64 T.s.hi, .int .i64 T.d.lo, .int .i64 T.d.hi][j]?) ∧ True) wz := ⟨k6z.cell, trivial⟩
          refine hK _ _ hS ?_
          clear hK K
          try simp only [Act.put, List.setIfInBounds_toArray, List.set_cons_zero, List.set_cons_succ]
          refine held_take (i := 18) (v := ?_) 5 rfl rfl (by kernel_rfl) (by kernel_rfl) (by kernel_rfl) (fun _ _ _ h => h) (Or.inl ⟨by rfl, ?_⟩) hS ?_
          rotate_left 1
          · intro w' hSw
            try dsimp only at hSw
            obtain ⟨q1, q2⟩ := hSw
            go_simp
            all_goals with_reducible rfl
          try simp only [Act.put, List.setIfInBounds_toArray, List.set_cons_zero, List.set_cons_succ]
          refine wpAnyH_done (by kernel_rfl) (noPanic_normal ?_) _
          go_wp2
          obtain ⟨c4, f4, l4⟩ := kz.rules
          refine bodyPost_ret (v := .tuple #[.agg #[.int .i64 T.x.lo, .int .i64 T.x.hi, .int .i64 T.y.lo, .int .i64 T.y.hi, .int .i64 T.s.lo, .int .i64 T.s.hi, .int .i64 T.d.lo, .int .i64 T.d.hi], .bool false]) (by simp [results, Tryz.results44, go_sem, c4]) rfl ⟨?_, bz⟩
          rw [hT.out, hin.out]
          rfl
      | false =>
        refine held_take (i := 12) (v := ?_) 81 rfl rfl (by kernel_rfl) (by kernel_rfl) (by kernel_rfl) (fun _ _ _ h => h) (Or.inl ⟨by rfl, ?_⟩) hS ?_
        rotate_left 1
        · intro w' hSw
          try dsimp only at hSw
          obtain ⟨q1, q2⟩ := hSw
          go_simp
          all_goals with_reducible rfl
        try simp only [Act.put, List.setIfInBounds_toArray, List.set_cons_zero, List.set_cons_succ]
        refine held_take (i := 13) (v := undef) 82 rfl rfl (by kernel_rfl) (by kernel_rfl) (by kernel_rfl) (fun _ _ _ h => h) (Or.inr ⟨by rfl, rfl⟩) hS ?_
        try simp only [Act.put, List.setIfInBounds_toArray, List.set_cons_zero, List.set_cons_succ]
        refine held_take (i := 14) (v := undef) 83 rfl rfl (by kernel_rfl) (by kernel_rfl) (by kernel_rfl) (fun _ _ _ h => h) (Or.inr ⟨by rfl, rfl⟩) hS ?_
        try simp only [Act.put, List.setIfInBounds_toArray, List.set_cons_zero, List.set_cons_succ]
        refine held_take (i := 15) (v := undef) 84 rfl rfl (by kernel_rfl) (by kernel_rfl) (by kernel_rfl) (fun _ _ _ h => h) (Or.inr ⟨by rfl, rfl⟩) hS ?_
        try simp only [Act.put, List.setIfInBounds_toArray, List.set_cons_zero, List.set_cons_succ]
        refine held_take (i := 16) (v := ?_) 85 rfl rfl (by kernel_rfl) (by kernel_rfl) (by kernel_rfl) (fun _ _ _ h => h) (Or.inl ⟨by rfl, ?_⟩) hS ?_
        rotate_left 1
        · intro w' hSw
          try dsimp only at hSw
          obtain ⟨q1, q2⟩ := hSw
          go_simp
          all_goals with_reducible rfl
        try simp only [Act.put, List.setIfInBounds_toArray, List.set_cons_zero, List.set_cons_succ]
        have kz := k4.set8 (.int .i64 T.x.lo) (.int .i64 T.x.hi) (.int .i64 T.y.lo) (.int .i64 T.y.hi) (.int .i64 T.s.lo) (.int .i64 T.s.hi) (.int .i64 T.d.lo) (.int .i64 T.d.hi)
        have k6z := far_set8 k6 (g := w.heap.size + 1 + 1) (by omega) (.int .i64 T.x.lo) (.int .i64 T.x.hi) (.int .i64 T.y.lo) (.int .i64 T.y.hi) (.int .i64 T.s.lo) (.int .i64 T.s.hi) (.int .i64 T.d.lo) (.int .i64 T.d.hi)
        have bz := below_set8 (g := w.heap.size + 1 + 1) hb (by omega) (.int .i64 T.x.lo) (.int .i64 T.x.hi) (.int .i64 T.y.lo) (.int .i64 T.y.hi) (.int .i64 T.s.lo) (.int .i64 T.s.hi) (.int .i64 T.d.lo) (.int .i64 T.d.hi)
        obtain ⟨wz, hwz⟩ : ∃ x, x = set8 w5 (w.heap.size + 1 + 1) (.int .i64 T.x.lo) (.int .i64 T.x.hi) (.int .i64 T.y.lo) (.int .i64 T.y.hi) (.int .i64 T.s.lo) (.int .i64 T.s.hi) (.int .i64 T.d.lo) (.int .i64 T.d.hi) := ⟨_, rfl⟩
        rw [← hwz] at kz k6z bz
        simp only [set8] at hwz
        refine held_one (i := 17) (by kernel_rfl) rfl rfl (fun K hK => ?_)
        obtain ⟨c4, f4, l4⟩ := k4.rules
        go_simp
        rw [← hwz]
        clear hwz hS c4 f4 l4
        have hS : (fun w' : World => (∀ j, w'.cell? ⟨w.heap.size + 1 + 1 + 1, j, none⟩ = #[Value.int .i64 T.x.lo, .int .i64 T.x.hi, .int .i64 T.y.lo, .int .i64 T.y.hi, .int .i64 T.s.lo, .int .i64 T.s.hi, .int .i64 T.d.lo, .int .i64 T.d.hi][j]?) ∧ True) wz := ⟨k6z.cell, trivial⟩
        refine hK _ _ hS ?_
        clear hK K
        try simp only [Act.put, List.setIfInBounds_toArray, List.set_cons_zero, List.set_cons_succ]
        refine held_take (i := 18) (v := ?_) 5 rfl rfl (by kernel_rfl) (by kernel_rfl) (by kernel_rfl) (fun _ _ _ h => h) (Or.inl ⟨by rfl, ?_⟩) hS ?_
        rotate_left 1
        · intro w' hSw
          try dsimp only at hSw
          obtain ⟨q1, q2⟩ := hSw
          go_simp
          all_goals with_reducible rfl
        try simp only [Act.put, List.setIfInBounds_toArray, List.set_cons_zero, List.set_cons_succ]
        refine wpAnyH_done (by kernel_rfl) (noPanic_normal ?_) _
        go_wp2
        obtain ⟨c4, f4, l4⟩ := kz.rules
        refine bodyPost_ret (v := .tuple #[.agg #[.int .i64 T.x.lo, .int .i64 T.x.hi, .int .i64 T.y.lo, .int .i64 T.y.hi, .int .i64 T.s.lo, .int .i64 T.s.hi, .int .i64 T.d.lo, .int .i64 T.d.hi], .bool false]) (by simp [results, Tryz.results44, go_sem, c4]) rfl ⟨?_, bz⟩
        rw [hT.out, hin.out]
        rfl
end Go.Proofs.YthjdjpcomocffaaGreat
