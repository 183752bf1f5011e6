/-
  Small helpers of the statements: a number out of a list, numbers within bounds.
-/
import Derived.Test.YtjiaepphnddpoaaGreatR5
namespace Go.Proofs.YtjiaepphnddpoaaGreat
open Go.RowKit Go.Shelf
set_option linter.unusedSimpArgs false
set_option linter.unusedVariables false

theorem flip_w {P : Program} {f : FuncId} {args : Array Value} {w : World} {v : Value} (h : Calls P f args w fun e w' => e = .returned v ∧ w = w') : Calls P f args w fun e w' => e = .returned v ∧ w' = w :=
  h.mono fun _ _ h => ⟨h.1, h.2.symm⟩
/-- What a number leaves when it is divided by many. -/
def restS (n many : Int) : Int := if many < 1 then 0 else n % many
def pickS (l : List Int) (i : Int) : Int := if l.length = 0 then 0 else l.getD (restS i l.length).toNat 0
theorem restS_bd (n : Int) {many : Int} (h : 1 ≤ many) : 0 ≤ restS n many ∧ restS n many < many := by
  rw [restS, if_neg (by omega)]
  exact ⟨Int.emod_nonneg n (by omega), Int.emod_lt_of_pos n (by omega)⟩
theorem emod_of (n k q r : Int) (hk : 0 < k) (h : n = k * q + r) (h0 : 0 ≤ r) (h1 : r < k) : n % k = r := by
  rw [Int.emod_def, ediv_of n k q r hk h h0 h1]; omega
set_option maxHeartbeats 400000 in
theorem Rest_any (n many : Int) (w : World) (hm : many ≤ 9223372036854775807) :
    Calls Tryz.prog 91 #[.int .i64 n, .int .i64 many] w fun e w' => e = .returned (.int .i64 (restS n many)) ∧ w = w' := by
  by_cases h : many < 1
  · have hv : Hid (restS n many = 0) := by show _ = _; rw [restS, if_pos h]
    go_enter Tryz.func91, Tryz.ntmps91
    go_wp2
    go_ret
    exact ⟨ret_int hv.out.symm, rfl⟩
  · obtain ⟨s1, s2, s3, s4, s5⟩ := tdiv_spec n many (by omega)
    have t0 := IntWalk.i64_in (n.tmod many) (by omega)
    have hz : ¬ many = 0 := by omega
    by_cases hn : n.tmod many < 0
    · have hv : Hid (restS n many = n.tmod many + many) := by show _ = _; rw [restS, if_neg h]; exact emod_of n many (n.tdiv many - 1) _ (by omega) (by rw [Int.mul_sub]; omega) (by omega) (by omega)
      have t1 := IntWalk.i64_in (n.tmod many + many) (by omega)
      replace s1 := Lib.hid s1
      clear s2 s3
      go_enter Tryz.func91, Tryz.ntmps91
      go_wp2
      go_ret
      exact ⟨ret_int hv.out.symm, rfl⟩
    · have hv : Hid (restS n many = n.tmod many) := by show _ = _; rw [restS, if_neg h]; exact emod_of n many (n.tdiv many) _ (by omega) s1 (by omega) (by omega)
      replace s1 := Lib.hid s1
      clear s2 s3
      go_enter Tryz.func91, Tryz.ntmps91
      go_wp2
      go_ret
      exact ⟨ret_int hv.out.symm, rfl⟩
set_option maxHeartbeats 400000 in
theorem Pick_any (l : List Int) (i : Int) (A : Option Addr) (n c B : Nat) (w : World) (hs : SlAt w B 1 ivs A n c l) :
    Calls Tryz.prog 92 #[.slice A n c, .int .i64 i] w fun e w' => e = .returned (.int .i64 (pickS l i)) ∧ w = w' := by
  have hn := hs.le
  have hl := Lib.hid hs.len
  by_cases h : n = 0
  · subst h
    have hv : Hid (pickS l i = 0) := by show _ = _; rw [pickS, if_pos hl.out]
    go_enter Tryz.func92, Tryz.ntmps92
    go_wp2
    go_ret
    exact ⟨ret_int hv.out.symm, rfl⟩
  · have hr := restS_bd i (many := (n : Int)) (by omega)
    obtain ⟨k, hk⟩ : ∃ k : Nat, restS i n = k := ⟨(restS i n).toNat, by omega⟩
    have hkn : k < n := by omega
    obtain ⟨x, hx⟩ := some_of_lt hl.out hkn
    have hv : Hid (pickS l i = x) := by
      show _ = _
      rw [pickS, if_neg (by rw [hl.out]; exact h), hl.out, hk, List.getD_eq_getElem?_getD]
      simp [hx]
    have hC := fun W => Rest_any i n W (by omega)
    simp only [hk] at hC
    obtain ⟨b, off, rfl, -, hbl, e0⟩ := hs.int hx
    replace hx := Lib.hid hx
    replace hk := Lib.hid hk
    clear hr
    have hz : ¬ (n : Int) = 0 := by omega
    have hk0 : (0 : Int) ≤ (k : Int) := by omega
    have hk1 : (k : Int) < (n : Int) := by omega
    go_enter Tryz.func92, Tryz.ntmps92
    go_wp2_with fail
    refine (hC _).mono ?_
    rintro e w' ⟨rfl, rfl⟩
    go_wp2
    go_ret
    exact ⟨ret_int hv.out.symm, rfl⟩
def magS (n : Int) : Int := max n (-n)
set_option maxHeartbeats 400000 in
theorem Mag_any (n : Int) (w : World) (h1 : -1000000000000 ≤ n) (h2 : n ≤ 1000000000000) :
    Calls Tryz.prog 89 #[.int .i64 n] w fun e w' => e = .returned (.int .i64 (magS n)) ∧ w = w' := by
  have hmax := max2_int
  have t := IntWalk.i64_in (-n) (by omega)
  go_enter Tryz.func89, Tryz.ntmps89
  go_wp2
  go_ret
  exact ⟨rfl, rfl⟩
/-! Numbers within bounds, as others choose them. -/
def insB (bits : List Int) (fr : Int) (i : Nat) (b : Bnd) : Int := wrap64 (b.lo + restS (pickS bits (fr + i)) (wrap64 (wrap64 (b.hi - b.lo) + 1)))
def insTo (l : List Bnd) (bits : List Int) (fr : Int) (k : Nat) : List Int := (List.range k).map fun i => insB bits fr i (l.getD i ⟨0, 0⟩)
def insL (l : List Bnd) (bits : List Int) (fr : Int) : List Int := insTo l bits fr l.length
theorem insTo_succ {l : List Bnd} {bits : List Int} {fr : Int} {k : Nat} {x : Bnd} (h : l[k]? = some x) : insTo l bits fr (k + 1) = insTo l bits fr k ++ [insB bits fr k x] := by
  unfold insTo; rw [List.range_succ, List.map_append, List.map_singleton, List.getD_eq_getElem?_getD, h]; rfl
theorem wrap64_le (n : Int) : wrap64 n ≤ 9223372036854775807 := by unfold wrap64; omega
set_option maxRecDepth 100000 in
set_option maxHeartbeats 1000000 in
theorem inside_any (l : List Bnd) (bits : List Int) (fr : Int) (A O : Option Addr) (n c no co B B2 : Nat) (w : World) (hf1 : -1000000 ≤ fr) (hf2 : fr ≤ 1000000) (hs : SlAt w B 2 Bnd.cells A n c l) (ho : SlAt w B2 1 ivs O no co bits) :
    Calls Tryz.prog 36 #[.slice A n c, .slice O no co, .int .i64 fr] w fun e w' => ∃ P pc, e = .returned (.slice P n pc) ∧ SlAt w' w.heap.size 1 ivs P n pc (insL l bits fr) ∧ Below w.heap.size w w' := by
  have hl := Lib.hid hs.len
  have hn := hs.le
  go_enter Tryz.func36, Tryz.ntmps36
  go_wp2_with fail
  go_loopw [7, 8] (fun v i wr => ∃ k : Nat, i = .int .i64 k ∧ k ≤ n ∧ wr.ownsRow w.heap.size 3 1 v k ((insTo l bits fr k).map (.int .i64 ·)) ∧ Below w.heap.size w wr) (fun v i wr => n - (intOf i).toNat)
  case atStart => exact ⟨0, rfl, Nat.zero_le _, ⟨rfl, .inl ⟨rfl, rfl⟩⟩, Below.refl _ _⟩
  case round =>
    obtain ⟨k, rfl, hk, hown, hb⟩ := hrel
    by_cases hlt : k < n
    · obtain ⟨x, hx⟩ := some_of_lt hl.out hlt
      have hnx : Hid ((insTo l bits fr (k + 1)).map (.int .i64 ·) = (insTo l bits fr k).map (Value.int .i64 ·) ++ [.int .i64 (insB bits fr k x)]) := by show _ = _; rw [insTo_succ hx, List.map_append]; rfl
      have hP := fun q => Pick_any bits q O no co B2 wr.drew (ho.keep hb.size (fun _ _ h => hb.cell h)).drew
      have hR := fun a => Rest_any a (wrap64 (wrap64 (x.hi - x.lo) + 1)) wr.drew (wrap64_le _)
      obtain ⟨b, off, rfl, -, hbl, d0, d1⟩ := hs.bnd hx
      have c0 := (hb.cell (p := ⟨b, off + k * 2, none⟩) (by dsimp only; omega)).trans d0
      have c1 := (hb.cell (p := ⟨b, off + k * 2 + 1, none⟩) (by dsimp only; omega)).trans d1
      replace d0 := Lib.hid d0
      replace d1 := Lib.hid d1
      replace hx := Lib.hid hx
      have hk0 : (0 : Int) ≤ (k : Int) := by omega
      have hk1 : (k : Int) < (n : Int) := by omega
      have t1 := IntWalk.i64_in (fr + (k : Int)) (by omega)
      have hw := IntWalk.i64_left
      go_wp2_with fail
      refine wp_held_np (fun w' : World => w'.cell? ⟨b, off + k * 2, none⟩ = some (.int .i64 x.lo) ∧ w'.cell? ⟨b, off + k * 2 + 1, none⟩ = some (.int .i64 x.hi)) (by kernel_rfl) ?_
      replace hb := hb.drew
      replace hown : wr.drew.ownsRow _ _ _ _ _ _ := hown
      have hS : (fun w' : World => w'.cell? ⟨b, off + k * 2, none⟩ = some (.int .i64 x.lo) ∧ w'.cell? ⟨b, off + k * 2 + 1, none⟩ = some (.int .i64 x.hi)) wr.drew := ⟨c0, c1⟩
      generalize wr.drew = W at *
      refine held_take (i := 0) (v := ?_) 15 rfl rfl (by kernel_rfl) (by kernel_rfl) (by kernel_rfl) (fun _ _ _ h => h) (Or.inl ⟨by rfl, ?_⟩) hS ?_
      rotate_left 1
      · intro w' hSw
        try dsimp only at hSw
        obtain ⟨q1, q2⟩ := hSw
        go_simp
        all_goals with_reducible rfl
      try simp only [Act.put, List.setIfInBounds_toArray, List.set_cons_zero, List.set_cons_succ]
      refine held_take (i := 1) (v := ?_) 16 rfl rfl (by kernel_rfl) (by kernel_rfl) (by kernel_rfl) (fun _ _ _ h => h) (Or.inl ⟨by rfl, ?_⟩) hS ?_
      rotate_left 1
      · intro w' hSw
        try dsimp only at hSw
        obtain ⟨q1, q2⟩ := hSw
        go_simp
        all_goals with_reducible rfl
      try simp only [Act.put, List.setIfInBounds_toArray, List.set_cons_zero, List.set_cons_succ]
      refine held_take (i := 2) (v := ?_) 17 rfl rfl (by kernel_rfl) (by kernel_rfl) (by kernel_rfl) (fun _ _ _ h => h) (Or.inl ⟨by rfl, ?_⟩) hS ?_
      rotate_left 1
      · intro w' hSw
        try dsimp only at hSw
        obtain ⟨q1, q2⟩ := hSw
        go_simp
        all_goals with_reducible rfl
      try simp only [Act.put, List.setIfInBounds_toArray, List.set_cons_zero, List.set_cons_succ]
      refine held_take (i := 3) (v := ?_) 18 rfl rfl (by kernel_rfl) (by kernel_rfl) (by kernel_rfl) (fun _ _ _ h => h) (Or.inl ⟨by rfl, ?_⟩) hS ?_
      rotate_left 1
      · intro w' hSw
        try dsimp only at hSw
        obtain ⟨q1, q2⟩ := hSw
        go_simp
        all_goals with_reducible rfl
      try simp only [Act.put, List.setIfInBounds_toArray, List.set_cons_zero, List.set_cons_succ]
      refine held_take (i := 4) (v := ?_) 19 rfl rfl (by kernel_rfl) (by kernel_rfl) (by kernel_rfl) (fun _ _ _ h => h) (Or.inl ⟨by rfl, ?_⟩) hS ?_
      rotate_left 1
      · intro w' hSw
        try dsimp only at hSw
        obtain ⟨q1, q2⟩ := hSw
        go_simp
        all_goals with_reducible rfl
      try simp only [Act.put, List.setIfInBounds_toArray, List.set_cons_zero, List.set_cons_succ]
      refine held_take (i := 5) (v := ?_) 20 rfl rfl (by kernel_rfl) (by kernel_rfl) (by kernel_rfl) (fun _ _ _ h => h) (Or.inl ⟨by rfl, ?_⟩) hS ?_
      rotate_left 1
      · intro w' hSw
        try dsimp only at hSw
        obtain ⟨q1, q2⟩ := hSw
        go_simp
        all_goals with_reducible rfl
      try simp only [Act.put, List.setIfInBounds_toArray, List.set_cons_zero, List.set_cons_succ]
      refine held_take (i := 6) (v := ?_) 21 rfl rfl (by kernel_rfl) (by kernel_rfl) (by kernel_rfl) (fun _ _ _ h => h) (Or.inl ⟨by rfl, ?_⟩) hS ?_
      rotate_left 1
      · intro w' hSw
        try dsimp only at hSw
        obtain ⟨q1, q2⟩ := hSw
        go_simp
        all_goals with_reducible rfl
      try simp only [Act.put, List.setIfInBounds_toArray, List.set_cons_zero, List.set_cons_succ]
      refine held_take (i := 7) (v := ?_) 22 rfl rfl (by kernel_rfl) (by kernel_rfl) (by kernel_rfl) (fun _ _ _ h => h) (Or.inl ⟨by rfl, ?_⟩) hS ?_
      rotate_left 1
      · intro w' hSw
        try dsimp only at hSw
        obtain ⟨q1, q2⟩ := hSw
        go_simp
        all_goals with_reducible rfl
      try simp only [Act.put, List.setIfInBounds_toArray, List.set_cons_zero, List.set_cons_succ]
      refine held_take (i := 8) (v := ?_) 23 rfl rfl (by kernel_rfl) (by kernel_rfl) (by kernel_rfl) (fun _ _ _ h => h) (Or.inl ⟨by rfl, ?_⟩) hS ?_
      rotate_left 1
      · intro w' hSw
        try dsimp only at hSw
        obtain ⟨q1, q2⟩ := hSw
        go_simp
        all_goals with_reducible rfl
      try simp only [Act.put, List.setIfInBounds_toArray, List.set_cons_zero, List.set_cons_succ]
      refine held_take (i := 9) (v := ?_) 24 rfl rfl (by kernel_rfl) (by kernel_rfl) (by kernel_rfl) (fun _ _ _ h => h) (Or.inl ⟨by rfl, ?_⟩) hS ?_
      rotate_left 1
      · intro w' hSw
        try dsimp only at hSw
        obtain ⟨q1, q2⟩ := hSw
        go_simp
        all_goals with_reducible rfl
      try simp only [Act.put, List.setIfInBounds_toArray, List.set_cons_zero, List.set_cons_succ]
      refine held_take (i := 11) (v := ?_) 26 rfl rfl (by kernel_rfl) (by kernel_rfl) (by kernel_rfl) (fun _ _ _ h => h) (Or.inl ⟨by rfl, ?_⟩) hS ?_
      rotate_left 1
      · intro w' hSw
        try dsimp only at hSw
        obtain ⟨q1, q2⟩ := hSw
        go_simp
        all_goals with_reducible rfl
      try simp only [Act.put, List.setIfInBounds_toArray, List.set_cons_zero, List.set_cons_succ]
      refine held_take (i := 12) (v := ?_) 27 rfl rfl (by kernel_rfl) (by kernel_rfl) (by kernel_rfl) (fun _ _ _ h => h) (Or.inl ⟨by rfl, ?_⟩) hS ?_
      rotate_left 1
      · intro w' hSw
        try dsimp only at hSw
        obtain ⟨q1, q2⟩ := hSw
        go_simp
        all_goals with_reducible rfl
      try simp only [Act.put, List.setIfInBounds_toArray, List.set_cons_zero, List.set_cons_succ]
      refine held_take (i := 13) (v := ?_) 28 rfl rfl (by kernel_rfl) (by kernel_rfl) (by kernel_rfl) (fun _ _ _ h => h) (Or.inl ⟨by rfl, ?_⟩) hS ?_
      rotate_left 1
      · intro w' hSw
        try dsimp only at hSw
        obtain ⟨q1, q2⟩ := hSw
        go_simp
        all_goals with_reducible rfl
      try simp only [Act.put, List.setIfInBounds_toArray, List.set_cons_zero, List.set_cons_succ]
      refine held_take (i := 14) (v := ?_) 29 rfl rfl (by kernel_rfl) (by kernel_rfl) (by kernel_rfl) (fun _ _ _ h => h) (Or.inl ⟨by rfl, ?_⟩) hS ?_
      rotate_left 1
      · intro w' hSw
        try dsimp only at hSw
        obtain ⟨q1, q2⟩ := hSw
        go_simp
        all_goals with_reducible rfl
      try simp only [Act.put, List.setIfInBounds_toArray, List.set_cons_zero, List.set_cons_succ]
      refine held_take (i := 15) (v := ?_) 30 rfl rfl (by kernel_rfl) (by kernel_rfl) (by kernel_rfl) (fun _ _ _ h => h) (Or.inl ⟨by rfl, ?_⟩) hS ?_
      rotate_left 1
      · intro w' hSw
        try dsimp only at hSw
        obtain ⟨q1, q2⟩ := hSw
        go_simp
        all_goals with_reducible rfl
      try simp only [Act.put, List.setIfInBounds_toArray, List.set_cons_zero, List.set_cons_succ]
      refine held_take (i := 16) (v := ?_) 31 rfl rfl (by kernel_rfl) (by kernel_rfl) (by kernel_rfl) (fun _ _ _ h => h) (Or.inl ⟨by rfl, ?_⟩) hS ?_
      rotate_left 1
      · intro w' hSw
        try dsimp only at hSw
        obtain ⟨q1, q2⟩ := hSw
        go_simp
        all_goals with_reducible rfl
      try simp only [Act.put, List.setIfInBounds_toArray, List.set_cons_zero, List.set_cons_succ]
      refine held_take (i := 17) (v := ?_) 32 rfl rfl (by kernel_rfl) (by kernel_rfl) (by kernel_rfl) (fun _ _ _ h => h) (Or.inl ⟨by rfl, ?_⟩) hS ?_
      rotate_left 1
      · intro w' hSw
        try dsimp only at hSw
        obtain ⟨q1, q2⟩ := hSw
        go_simp
        all_goals with_reducible rfl
      try simp only [Act.put, List.setIfInBounds_toArray, List.set_cons_zero, List.set_cons_succ]
      refine held_take (i := 18) (v := ?_) 33 rfl rfl (by kernel_rfl) (by kernel_rfl) (by kernel_rfl) (fun _ _ _ h => h) (Or.inl ⟨by rfl, ?_⟩) hS ?_
      rotate_left 1
      · intro w' hSw
        try dsimp only at hSw
        obtain ⟨q1, q2⟩ := hSw
        go_simp
        all_goals with_reducible rfl
      try simp only [Act.put, List.setIfInBounds_toArray, List.set_cons_zero, List.set_cons_succ]
      refine held_take (i := 19) (v := ?_) 34 rfl rfl (by kernel_rfl) (by kernel_rfl) (by kernel_rfl) (fun _ _ _ h => h) (Or.inl ⟨by rfl, ?_⟩) hS ?_
      rotate_left 1
      · intro w' hSw
        try dsimp only at hSw
        obtain ⟨q1, q2⟩ := hSw
        go_simp
        all_goals with_reducible rfl
      try simp only [Act.put, List.setIfInBounds_toArray, List.set_cons_zero, List.set_cons_succ]
      refine held_take (i := 20) (v := ?_) 35 rfl rfl (by kernel_rfl) (by kernel_rfl) (by kernel_rfl) (fun _ _ _ h => h) (Or.inl ⟨by rfl, ?_⟩) hS ?_
      rotate_left 1
      · intro w' hSw
        try dsimp only at hSw
        obtain ⟨q1, q2⟩ := hSw
        go_simp
        all_goals with_reducible rfl
      try simp only [Act.put, List.setIfInBounds_toArray, List.set_cons_zero, List.set_cons_succ]
      refine held_take (i := 21) (v := ?_) 36 rfl rfl (by kernel_rfl) (by kernel_rfl) (by kernel_rfl) (fun _ _ _ h => h) (Or.inl ⟨by rfl, ?_⟩) hS ?_
      rotate_left 1
      · intro w' hSw
        try dsimp only at hSw
        obtain ⟨q1, q2⟩ := hSw
        go_simp
        all_goals with_reducible rfl
      try simp only [Act.put, List.setIfInBounds_toArray, List.set_cons_zero, List.set_cons_succ]
      refine held_take (i := 22) (v := ?_) 37 rfl rfl (by kernel_rfl) (by kernel_rfl) (by kernel_rfl) (fun _ _ _ h => h) (Or.inl ⟨by rfl, ?_⟩) hS ?_
      rotate_left 1
      · intro w' hSw
        try dsimp only at hSw
        obtain ⟨q1, q2⟩ := hSw
        go_simp
        all_goals with_reducible rfl
      try simp only [Act.put, List.setIfInBounds_toArray, List.set_cons_zero, List.set_cons_succ]
      refine held_one (i := 10) (by kernel_rfl) rfl rfl (fun K hK => ?_)
      go_simp
      refine (hP _).mono ?_
      rintro e w' ⟨rfl, rfl⟩
      refine hK _ _ hS ?_
      clear hK K hP
      try simp only [Act.put, List.setIfInBounds_toArray, List.set_cons_zero, List.set_cons_succ]
      refine held_one (i := 23) (by kernel_rfl) rfl rfl (fun K hK => ?_)
      go_simp
      refine (hR _).mono ?_
      rintro e w' ⟨rfl, rfl⟩
      refine hK _ _ hS ?_
      clear hK K hR
      try simp only [Act.put, List.setIfInBounds_toArray, List.set_cons_zero, List.set_cons_succ]
      refine held_take (i := 24) (v := ?_) 39 rfl rfl (by kernel_rfl) (by kernel_rfl) (by kernel_rfl) (fun _ _ _ h => h) (Or.inl ⟨by rfl, ?_⟩) hS ?_
      rotate_left 1
      · intro w' hSw
        try dsimp only at hSw
        obtain ⟨q1, q2⟩ := hSw
        go_simp
        all_goals with_reducible rfl
      try simp only [Act.put, List.setIfInBounds_toArray, List.set_cons_zero, List.set_cons_succ]
      clear t1
      have hX : wrap64 (x.lo + restS (pickS bits (fr + k)) (wrap64 (wrap64 (x.hi - x.lo) + 1))) = insB bits fr k x := rfl
      rw [hX]
      clear hX hw
      generalize insB bits fr k x = X at *
      have hbig1 : Hid (k + 1 ≤ maxLen) := by show k + 1 ≤ maxLen; unfold maxLen; omega
      have hbig2 : Hid ((k + 1) * 8 ≤ 140737488355328) := by show (k + 1) * 8 ≤ 140737488355328; omega
      obtain ⟨i0, hi0, hz0, hz1, hz2⟩ := info_parts Tryz.infoInt
      have hnews : ∀ (j : Nat) (u : Value), ([.int .i64 (X)] : List Value)[j]? = some u → (W.alloc (.cells #[.int .i64 (X)] 3)).cell? ((⟨W.heap.size, 0, none⟩ : Addr).add j) = some u :=
        World.news_of_block (cs := #[.int .i64 (X)]) (World.alloc_heap_new W _)
      have hownf := hown.alloc (.cells #[.int .i64 (X)] 3)
      have hbf := hb.alloc hb.size (.cells #[.int .i64 (X)] 3)
      refine held_one (i := 25) (by kernel_rfl) rfl rfl (fun K hK => ?_)
      go_simp
      refine hK _ _ ⟨(World.cell?_alloc_lt _ _ _ (World.block_lt_of_cell? _ _ hS.1)).trans hS.1, (World.cell?_alloc_lt _ _ _ (World.block_lt_of_cell? _ _ hS.2)).trans hS.2⟩ ?_
      clear hK K
      try simp only [Act.put, List.setIfInBounds_toArray, List.set_cons_zero, List.set_cons_succ]
      refine held_one (i := 26) (by kernel_rfl) rfl rfl (fun K hK => ?_)
      refine wp_append_lies _ _ _ 31 (by rfl) w.heap.size 3 i0 (.int .i64 0) 1 8 Tryz.underlying31 hi0 hz0 hz1 hz2 rfl (by omega) u7 k ((insTo l bits fr k).map (.int .i64 ·)) (by rfl) hownf ⟨W.heap.size, 0, none⟩ 1 1 [.int .i64 (X)] (by rfl) rfl hnews (by simp [Value.oneCell']) (by omega) hbig1.out hbig2.out (hbf.size) (W.heap.size + 1) (by simp) ?_
      intro g cap w7 hown7 hgrow hlies hlt7
      have hbg : Below w.heap.size _ w7 := ⟨hgrow.os, hgrow.tape, hgrow.output, hgrow.size, fun b hb2 => hgrow.block b (Nat.lt_of_lt_of_le hb2 hbf.size) (fun e => by have := (hownf.lt _ e.symm).1; omega)⟩
      have hbh := hbf.trans hbg
      replace hS : (fun w' : World => w'.cell? ⟨b, off + k * 2, none⟩ = some (.int .i64 x.lo) ∧ w'.cell? ⟨b, off + k * 2 + 1, none⟩ = some (.int .i64 x.hi)) w7 := ⟨(hbh.cell (p := ⟨b, off + k * 2, none⟩) (by dsimp only; omega)).trans d0.out, (hbh.cell (p := ⟨b, off + k * 2 + 1, none⟩) (by dsimp only; omega)).trans d1.out⟩
      refine hK _ _ hS ?_
      clear hK K
      try simp only [Act.put, List.setIfInBounds_toArray, List.set_cons_zero, List.set_cons_succ]
      refine held_take (i := 27) (v := ?_) 7 rfl rfl (by kernel_rfl) (by kernel_rfl) (by kernel_rfl) (fun _ _ _ h => h) (Or.inl ⟨by rfl, ?_⟩) hS ?_
      rotate_left 1
      · intro w' hSw
        try dsimp only at hSw
        obtain ⟨q1, q2⟩ := hSw
        go_simp
        all_goals with_reducible rfl
      try simp only [Act.put, List.setIfInBounds_toArray, List.set_cons_zero, List.set_cons_succ]
      refine wpAnyH_done (by kernel_rfl) (noPanic_normal ?_) _
      clear hS
      go_wp2
      go_roundw
      case rel =>
        refine ⟨k + 1, by go_num, by omega, ?_, hbh⟩
        rw [hnx.out]
        simpa using hown7
      case measure => simp [intOf]; omega
    · obtain rfl : k = n := by omega
      go_wp2
      go_ret
      have hlen : (insTo l bits fr k).length = k := by simp [insTo]
      obtain ⟨P, pc, e2, h2⟩ := SlAt.of_own (enc := ivs) hown (by omega) (insTo l bits fr k) (flatMap_ivs _).symm (fun _ => rfl) hlen
      have hst2 : insTo l bits fr k = insL l bits fr := by unfold insL; rw [hl.out]
      rw [hst2] at h2
      exact ⟨P, pc, by rw [e2]; rfl, h2, hb⟩
end Go.Proofs.YtjiaepphnddpoaaGreat
