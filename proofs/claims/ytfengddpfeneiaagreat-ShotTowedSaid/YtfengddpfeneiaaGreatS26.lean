/-
  Shots, walks: the chapter's comparisons of lists, and its own array, firing and rules.
-/
import Derived.Test.YtfengddpfeneiaaGreatS25
namespace Go.Proofs.YtfengddpfeneiaaGreat
open Go.RowKit Go.Shelf
set_option linter.unusedSimpArgs false
set_option linter.unusedVariables false
set_option maxRecDepth 100000 in
set_option maxHeartbeats 1000000 in
theorem alikeB_any (A C : Option Addr) (na ca nb cb B1 B2 : Nat) (xs ys : List Bnd) (w : World) (h1 : SlAt w B1 2 Bnd.cells A na ca xs) (h2 : SlAt w B2 2 Bnd.cells C nb cb ys) :
    Calls Tryz.prog 9 #[.slice A na ca, .slice C nb cb] w fun e w' => e = .returned (.bool (decide (xs = ys))) ∧ Below w.heap.size w w' := by
  have hle := h1.le
  have hl1 := Lib.hid h1.len
  have hl2 := Lib.hid h2.len
  by_cases hn : na = nb
  · subst hn
    go_enter Tryz.func9, Tryz.ntmps9
    go_wp2
    go_loopw [5] (fun i wr => ∃ k : Nat, i = .int .i64 k ∧ k ≤ na ∧ xs.take k = ys.take k ∧ Below w.heap.size w wr) (fun i wr => na - (intOf i).toNat)
    case atStart => exact ⟨0, rfl, Nat.zero_le _, rfl, Below.refl _ _⟩
    case round =>
      obtain ⟨k, rfl, hk, ht, hb⟩ := hrel
      by_cases hlt : k < na
      · obtain ⟨x, hx⟩ := some_of_lt hl1.out hlt
        obtain ⟨y, hy⟩ := some_of_lt hl2.out hlt
        obtain ⟨b1, o1, hA1, -, -, e1, e1'⟩ := (h1.keep hb.size (fun _ _ h => hb.cell h)).bnd hx
        obtain ⟨b2, o2, hA2, -, -, e2, e2'⟩ := (h2.keep hb.size (fun _ _ h => hb.cell h)).bnd hy
        have t1 := IntWalk.i64_in ((k : Int) + 1) (by omega)
        have hk0 : (0 : Int) ≤ (k : Int) := by omega
        have hk1 : (k : Int) < (na : Int) := by omega
        replace hx := Lib.hid hx
        replace hy := Lib.hid hy
        replace ht := Lib.hid ht
        subst hA1
        subst hA2
        by_cases hxy : x = y
        · have hxy2 := Lib.hid hxy
          subst hxy
          go_wp2_with fail
          go_quiet (fail)
          go_wp2
          go_roundw
          case rel => exact ⟨k + 1, by go_num, by omega, take_succ_eq ht.out hx.out hy.out rfl, below_drewN hb _⟩
          case measure => simp [intOf]; omega
        · have hne : ¬ (x.lo = y.lo ∧ x.hi = y.hi) := fun h => hxy (by obtain ⟨a, b⟩ := x; obtain ⟨c, d⟩ := y; simp_all)
          by_cases hlo : x.lo = y.lo
          · have hhi : ¬ x.hi = y.hi := fun h => hne ⟨hlo, h⟩
            clear hne
            go_wp2_with fail
            go_quiet (fail)
            go_wp2
            go_ret
            refine ⟨ret_bool (Eq.symm (decide_eq_false fun h => ?_)), below_drewN hb _⟩
            subst h
            exact hxy (Option.some.inj (hx.out.symm.trans hy.out))
          clear hne
          go_wp2_with fail
          go_quiet (fail)
          go_wp2
          go_ret
          refine ⟨ret_bool (Eq.symm (decide_eq_false fun h => ?_)), below_drewN hb _⟩
          subst h
          exact hxy (Option.some.inj (hx.out.symm.trans hy.out))
      · obtain rfl : k = na := by omega
        go_wp2
        go_ret
        refine ⟨ret_bool (Eq.symm (decide_eq_true ?_)), hb⟩
        rw [List.take_of_length_le (by rw [hl1.out]; exact Nat.le_refl _), List.take_of_length_le (by rw [hl2.out]; exact Nat.le_refl _)] at ht
        exact ht
  · have hn' : ¬ ((na : Int) = (nb : Int)) := by omega
    go_enter Tryz.func9, Tryz.ntmps9
    go_wp2
    go_ret
    exact ⟨ret_bool (Eq.symm (decide_eq_false fun h => hn (by rw [← hl1.out, ← hl2.out, h]))), Below.refl _ _⟩
set_option maxRecDepth 100000 in
set_option maxHeartbeats 1000000 in
theorem alikeS_any (A C : Option Addr) (na ca nb cb B1 B2 : Nat) (xs ys : List Sht) (w : World) (h1 : SlAt w B1 3 Sht.cells A na ca xs) (h2 : SlAt w B2 3 Sht.cells C nb cb ys) :
    Calls Tryz.prog 45 #[.slice A na ca, .slice C nb cb] w fun e w' => e = .returned (.bool (decide (xs = ys))) ∧ Below w.heap.size w w' := by
  have hle := h1.le
  have hl1 := Lib.hid h1.len
  have hl2 := Lib.hid h2.len
  by_cases hn : na = nb
  · subst hn
    go_enter Tryz.func45, Tryz.ntmps45
    go_wp2
    go_loopw [5] (fun i wr => ∃ k : Nat, i = .int .i64 k ∧ k ≤ na ∧ xs.take k = ys.take k ∧ Below w.heap.size w wr) (fun i wr => na - (intOf i).toNat)
    case atStart => exact ⟨0, rfl, Nat.zero_le _, rfl, Below.refl _ _⟩
    case round =>
      obtain ⟨k, rfl, hk, ht, hb⟩ := hrel
      by_cases hlt : k < na
      · obtain ⟨x, hx⟩ := some_of_lt hl1.out hlt
        obtain ⟨y, hy⟩ := some_of_lt hl2.out hlt
        obtain ⟨b1, o1, hA1, -, -, e1, e1', e1b⟩ := (h1.keep hb.size (fun _ _ h => hb.cell h)).sht hx
        obtain ⟨b2, o2, hA2, -, -, e2, e2', e2b⟩ := (h2.keep hb.size (fun _ _ h => hb.cell h)).sht hy
        have t1 := IntWalk.i64_in ((k : Int) + 1) (by omega)
        have hk0 : (0 : Int) ≤ (k : Int) := by omega
        have hk1 : (k : Int) < (na : Int) := by omega
        replace hx := Lib.hid hx
        replace hy := Lib.hid hy
        replace ht := Lib.hid ht
        subst hA1
        subst hA2
        by_cases hxy : x = y
        · have hxy2 := Lib.hid hxy
          subst hxy
          go_wp2_with fail
          go_quiet (fail)
          go_wp2
          go_roundw
          case rel => exact ⟨k + 1, by go_num, by omega, take_succ_eq ht.out hx.out hy.out rfl, below_drewN hb _⟩
          case measure => simp [intOf]; omega
        · by_cases hlo : x.tick = y.tick
          · by_cases hsr : x.src = y.src
            · have hwe : ¬ x.weak = y.weak := fun h => hxy (by obtain ⟨a, b, z⟩ := x; obtain ⟨c, d, u⟩ := y; simp_all)
              have hwb : (x.weak != y.weak) = true := by rw [bne_iff_ne]; exact hwe
              go_wp2_with fail
              go_quiet (fail)
              go_wp2
              go_ret
              refine ⟨ret_bool (Eq.symm (decide_eq_false fun h => ?_)), below_drewN hb _⟩
              subst h
              exact hxy (Option.some.inj (hx.out.symm.trans hy.out))
            go_wp2_with fail
            go_quiet (fail)
            go_wp2
            go_ret
            refine ⟨ret_bool (Eq.symm (decide_eq_false fun h => ?_)), below_drewN hb _⟩
            subst h
            exact hxy (Option.some.inj (hx.out.symm.trans hy.out))
          go_wp2_with fail
          go_quiet (fail)
          go_wp2
          go_ret
          refine ⟨ret_bool (Eq.symm (decide_eq_false fun h => ?_)), below_drewN hb _⟩
          subst h
          exact hxy (Option.some.inj (hx.out.symm.trans hy.out))
      · obtain rfl : k = na := by omega
        go_wp2
        go_ret
        refine ⟨ret_bool (Eq.symm (decide_eq_true ?_)), hb⟩
        rw [List.take_of_length_le (by rw [hl1.out]; exact Nat.le_refl _), List.take_of_length_le (by rw [hl2.out]; exact Nat.le_refl _)] at ht
        exact ht
  · have hn' : ¬ ((na : Int) = (nb : Int)) := by omega
    go_enter Tryz.func45, Tryz.ntmps45
    go_wp2
    go_ret
    exact ⟨ret_bool (Eq.symm (decide_eq_false fun h => hn (by rw [← hl1.out, ← hl2.out, h]))), Below.refl _ _⟩
set_option maxRecDepth 100000 in
set_option maxHeartbeats 1000000 in
theorem AlikeBools_any (A C : Option Addr) (na ca nb cb B1 B2 : Nat) (xs ys : List Bool) (w : World) (h1 : SlAt w B1 1 bvs A na ca xs) (h2 : SlAt w B2 1 bvs C nb cb ys) :
    Calls Tryz.prog 46 #[.slice A na ca, .slice C nb cb] w fun e w' => e = .returned (.bool (decide (xs = ys))) ∧ Below w.heap.size w w' := by
  have hle := h1.le
  have hl1 := Lib.hid h1.len
  have hl2 := Lib.hid h2.len
  by_cases hn : na = nb
  · subst hn
    go_enter Tryz.func46, Tryz.ntmps46
    go_wp2
    go_loopw [5] (fun i wr => ∃ k : Nat, i = .int .i64 k ∧ k ≤ na ∧ xs.take k = ys.take k ∧ Below w.heap.size w wr) (fun i wr => na - (intOf i).toNat)
    case atStart => exact ⟨0, rfl, Nat.zero_le _, rfl, Below.refl _ _⟩
    case round =>
      obtain ⟨k, rfl, hk, ht, hb⟩ := hrel
      by_cases hlt : k < na
      · obtain ⟨x, hx⟩ := some_of_lt hl1.out hlt
        obtain ⟨y, hy⟩ := some_of_lt hl2.out hlt
        obtain ⟨b1, o1, hA1, -, -, e1⟩ := (h1.keep hb.size (fun _ _ h => hb.cell h)).boo hx
        obtain ⟨b2, o2, hA2, -, -, e2⟩ := (h2.keep hb.size (fun _ _ h => hb.cell h)).boo hy
        have t1 := IntWalk.i64_in ((k : Int) + 1) (by omega)
        have hk0 : (0 : Int) ≤ (k : Int) := by omega
        have hk1 : (k : Int) < (na : Int) := by omega
        replace hx := Lib.hid hx
        replace hy := Lib.hid hy
        replace ht := Lib.hid ht
        subst hA1
        subst hA2
        by_cases hxy : x = y
        · have hxy2 := Lib.hid hxy
          subst hxy
          go_wp2_with fail
          go_quiet (fail)
          go_wp2
          go_roundw
          case rel => exact ⟨k + 1, by go_num, by omega, take_succ_eq ht.out hx.out hy.out rfl, below_drewN hb _⟩
          case measure => simp [intOf]; omega
        · have hne : (x != y) = true := by rw [bne_iff_ne]; exact hxy
          have hne2 : (!x == y) = true := by cases x <;> cases y <;> simp_all
          go_wp2_with fail
          go_quiet (fail)
          go_wp2
          go_ret
          refine ⟨ret_bool (Eq.symm (decide_eq_false fun h => ?_)), below_drewN hb _⟩
          subst h
          exact hxy (Option.some.inj (hx.out.symm.trans hy.out))
      · obtain rfl : k = na := by omega
        go_wp2
        go_ret
        refine ⟨ret_bool (Eq.symm (decide_eq_true ?_)), hb⟩
        rw [List.take_of_length_le (by rw [hl1.out]; exact Nat.le_refl _), List.take_of_length_le (by rw [hl2.out]; exact Nat.le_refl _)] at ht
        exact ht
  · have hn' : ¬ ((na : Int) = (nb : Int)) := by omega
    go_enter Tryz.func46, Tryz.ntmps46
    go_wp2
    go_ret
    exact ⟨ret_bool (Eq.symm (decide_eq_false fun h => hn (by rw [← hl1.out, ← hl2.out, h]))), Below.refl _ _⟩

theorem LLs.elm {W : World} {B k : Nat} {O : Option Addr} {no co : Nat} {L : List (List Int)} (h : LLs W B O no co L) (hk : k < no) :
    ∃ b off A m d l, O = some ⟨b, off, none⟩ ∧ b < W.heap.size ∧ W.cell? ⟨b, off + k, none⟩ = some (.slice A m d) ∧ L[k]? = some l ∧ SlAt W B 1 ivs A m d l := by
  obtain ⟨h1, vs, h2, h3⟩ := h
  obtain ⟨v, hv⟩ := some_of_lt h2.len hk
  obtain ⟨l, hl⟩ := some_of_lt h1 hk
  obtain ⟨b, off, hA, -, hb, hc⟩ := h2.at_ hv
  obtain ⟨A, m, d, rfl, e2⟩ := h3 k v l hv hl
  have := hc 0 _ rfl
  exact ⟨b, off, A, m, d, l, hA, hb, by simpa using this, hl, e2⟩
theorem LLs.le {W : World} {B : Nat} {O : Option Addr} {no co : Nat} {L : List (List Int)} (h : LLs W B O no co L) : no ≤ 17592186044416 := by
  obtain ⟨-, vs, h2, -⟩ := h; exact h2.le
theorem LLs.le2 {W : World} {B : Nat} {O : Option Addr} {no co : Nat} {L : List (List Int)} (h : LLs W B O no co L) : no ≤ co := by
  obtain ⟨-, vs, h2, -⟩ := h; exact h2.2.1
set_option maxRecDepth 100000 in
set_option maxHeartbeats 1000000 in
theorem AlikeLists_any (A C : Option Addr) (na ca nb cb B1 B2 : Nat) (xs ys : List (List Int)) (w : World) (h1 : LLs w B1 A na ca xs) (h2 : LLs w B2 C nb cb ys) :
    Calls Tryz.prog 41 #[.slice A na ca, .slice C nb cb] w fun e w' => e = .returned (.bool (decide (xs = ys))) ∧ Below w.heap.size w w' := by
  have hle := h1.le
  have hl1 := Lib.hid h1.1
  have hl2 := Lib.hid h2.1
  by_cases hn : na = nb
  · subst hn
    go_enter Tryz.func41, Tryz.ntmps41
    go_wp2
    go_loopw [5] (fun i wr => ∃ k : Nat, i = .int .i64 k ∧ k ≤ na ∧ xs.take k = ys.take k ∧ Below w.heap.size w wr) (fun i wr => na - (intOf i).toNat)
    case atStart => exact ⟨0, rfl, Nat.zero_le _, rfl, Below.refl _ _⟩
    case round =>
      obtain ⟨k, rfl, hk, ht, hb⟩ := hrel
      by_cases hlt : k < na
      · obtain ⟨b1, o1, A1, m1, d1, x, hA1, g1, e1, hx, s1⟩ := (h1.below hb).elm hlt
        obtain ⟨b2, o2, A2, m2, d2, y, hA2, g2, e2, hy, s2⟩ := (h2.below hb).elm hlt
        have t1 := IntWalk.i64_in ((k : Int) + 1) (by omega)
        have hk0 : (0 : Int) ≤ (k : Int) := by omega
        have hk1 : (k : Int) < (na : Int) := by omega
        replace hx := Lib.hid hx
        replace hy := Lib.hid hy
        replace ht := Lib.hid ht
        subst hA1
        subst hA2
        have hcall := fun W h1 h2 => Alike_any A1 A2 m1 d1 m2 d2 B1 B2 x y W h1 h2
        clear h1 h2
        go_wp2_with fail
        refine wp_held_np (fun w' : World => w'.cell? ⟨b1, o1 + k, none⟩ = some (.slice A1 m1 d1) ∧ w'.cell? ⟨b2, o2 + k, none⟩ = some (.slice A2 m2 d2)) (by kernel_rfl) ?_
        have hSb : Hid (∀ W', Below wr.heap.size wr W' → (fun w' : World => w'.cell? ⟨b1, o1 + k, none⟩ = some (.slice A1 m1 d1) ∧ w'.cell? ⟨b2, o2 + k, none⟩ = some (.slice A2 m2 d2)) W') := by
          show ∀ _, _
          intro W' hb9
          exact ⟨(hb9.cell (p := ⟨b1, o1 + k, none⟩) g1).trans e1, (hb9.cell (p := ⟨b2, o2 + k, none⟩) g2).trans e2⟩
        have hb9 : Below wr.heap.size wr wr.drew := (Below.refl _ _).drew
        have hSx := hSb.out _ hb9
        generalize wr.drew = wd at *
        clear e1 e2 g1 g2
        refine held_take (i := 0) (v := ?_) 17 rfl rfl (by kernel_rfl) (by kernel_rfl) (by kernel_rfl) (fun _ _ _ h => h) (Or.inl ⟨by rfl, ?_⟩) hSx ?_
        rotate_left 1
        · intro w' hSw
          try dsimp only at hSw
          obtain ⟨q1, q2⟩ := hSw
          go_simp
          all_goals with_reducible rfl
        try simp only [Act.put, List.setIfInBounds_toArray, List.set_cons_zero, List.set_cons_succ]
        refine held_take (i := 1) (v := ?_) 18 rfl rfl (by kernel_rfl) (by kernel_rfl) (by kernel_rfl) (fun _ _ _ h => h) (Or.inl ⟨by rfl, ?_⟩) hSx ?_
        rotate_left 1
        · intro w' hSw
          try dsimp only at hSw
          obtain ⟨q1, q2⟩ := hSw
          go_simp
          all_goals with_reducible rfl
        try simp only [Act.put, List.setIfInBounds_toArray, List.set_cons_zero, List.set_cons_succ]
        refine held_take (i := 2) (v := ?_) 19 rfl rfl (by kernel_rfl) (by kernel_rfl) (by kernel_rfl) (fun _ _ _ h => h) (Or.inl ⟨by rfl, ?_⟩) hSx ?_
        rotate_left 1
        · intro w' hSw
          try dsimp only at hSw
          obtain ⟨q1, q2⟩ := hSw
          go_simp
          all_goals with_reducible rfl
        try simp only [Act.put, List.setIfInBounds_toArray, List.set_cons_zero, List.set_cons_succ]
        refine held_take (i := 3) (v := ?_) 20 rfl rfl (by kernel_rfl) (by kernel_rfl) (by kernel_rfl) (fun _ _ _ h => h) (Or.inl ⟨by rfl, ?_⟩) hSx ?_
        rotate_left 1
        · intro w' hSw
          try dsimp only at hSw
          obtain ⟨q1, q2⟩ := hSw
          go_simp
          all_goals with_reducible rfl
        try simp only [Act.put, List.setIfInBounds_toArray, List.set_cons_zero, List.set_cons_succ]
        refine held_take (i := 4) (v := ?_) 21 rfl rfl (by kernel_rfl) (by kernel_rfl) (by kernel_rfl) (fun _ _ _ h => h) (Or.inl ⟨by rfl, ?_⟩) hSx ?_
        rotate_left 1
        · intro w' hSw
          try dsimp only at hSw
          obtain ⟨q1, q2⟩ := hSw
          go_simp
          all_goals with_reducible rfl
        try simp only [Act.put, List.setIfInBounds_toArray, List.set_cons_zero, List.set_cons_succ]
        refine held_take (i := 5) (v := ?_) 22 rfl rfl (by kernel_rfl) (by kernel_rfl) (by kernel_rfl) (fun _ _ _ h => h) (Or.inl ⟨by rfl, ?_⟩) hSx ?_
        rotate_left 1
        · intro w' hSw
          try dsimp only at hSw
          obtain ⟨q1, q2⟩ := hSw
          go_simp
          all_goals with_reducible rfl
        try simp only [Act.put, List.setIfInBounds_toArray, List.set_cons_zero, List.set_cons_succ]
        refine held_take (i := 6) (v := ?_) 23 rfl rfl (by kernel_rfl) (by kernel_rfl) (by kernel_rfl) (fun _ _ _ h => h) (Or.inl ⟨by rfl, ?_⟩) hSx ?_
        rotate_left 1
        · intro w' hSw
          try dsimp only at hSw
          obtain ⟨q1, q2⟩ := hSw
          go_simp
          all_goals with_reducible rfl
        try simp only [Act.put, List.setIfInBounds_toArray, List.set_cons_zero, List.set_cons_succ]
        refine held_take (i := 7) (v := ?_) 24 rfl rfl (by kernel_rfl) (by kernel_rfl) (by kernel_rfl) (fun _ _ _ h => h) (Or.inl ⟨by rfl, ?_⟩) hSx ?_
        rotate_left 1
        · intro w' hSw
          try dsimp only at hSw
          obtain ⟨q1, q2⟩ := hSw
          go_simp
          all_goals with_reducible rfl
        try simp only [Act.put, List.setIfInBounds_toArray, List.set_cons_zero, List.set_cons_succ]
        refine held_one (i := 8) (by kernel_rfl) rfl rfl (fun K hK => ?_)
        go_simp
        refine (hcall _ (s1.below hb9) (s2.below hb9)).mono ?_
        rintro e W2 ⟨rfl, hbel⟩
        clear hSx
        replace hb9 := hb9.trans (hbel.mono hb9.size)
        have hSx := hSb.out _ hb9
        refine hK _ _ hSx ?_
        clear hK K hcall hbel
        try simp only [Act.put, List.setIfInBounds_toArray, List.set_cons_zero, List.set_cons_succ]
        refine held_take (i := 9) (v := ?_) 26 rfl rfl (by kernel_rfl) (by kernel_rfl) (by kernel_rfl) (fun _ _ _ h => h) (Or.inl ⟨by rfl, ?_⟩) hSx ?_
        rotate_left 1
        · intro w' hSw
          try dsimp only at hSw
          obtain ⟨q1, q2⟩ := hSw
          go_simp
          all_goals with_reducible rfl
        try simp only [Act.put, List.setIfInBounds_toArray, List.set_cons_zero, List.set_cons_succ]
        refine wpAnyH_done (by kernel_rfl) (noPanic_normal ?_) _
        clear hSx hSb
        by_cases hxy : x = y
        · have hdt := decide_eq_true hxy
          replace hxy := Lib.hid hxy
          rw [hdt]
          go_wp2_with fail
          go_roundw
          case rel => exact ⟨k + 1, by go_num, by omega, take_succ_eq ht.out hx.out (by rw [hxy.out]; exact hy.out) rfl, hb.trans (hb9.mono hb.size)⟩
          case measure => simp [intOf]; omega
        · have hdt := decide_eq_false hxy
          rw [hdt]
          replace hxy := Lib.hid hxy
          go_wp2_with fail
          go_ret
          refine ⟨ret_bool (Eq.symm (decide_eq_false fun h => ?_)), hb.trans (hb9.mono hb.size)⟩
          subst h
          exact hxy.out (Option.some.inj (hx.out.symm.trans hy.out))
      · obtain rfl : k = na := by omega
        go_wp2
        go_ret
        refine ⟨ret_bool (Eq.symm (decide_eq_true ?_)), hb⟩
        rw [List.take_of_length_le (by rw [hl1.out]; exact Nat.le_refl _), List.take_of_length_le (by rw [hl2.out]; exact Nat.le_refl _)] at ht
        exact ht
  · have hn' : ¬ ((na : Int) = (nb : Int)) := by omega
    go_enter Tryz.func41, Tryz.ntmps41
    go_wp2
    go_ret
    exact ⟨ret_bool (Eq.symm (decide_eq_false fun h => hn (by rw [← hl1.out, ← hl2.out, h]))), Below.refl _ _⟩
end Go.Proofs.YtfengddpfeneiaaGreat
