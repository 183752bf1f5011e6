/-
  Walks: the specification's search through all plans.
-/
import Derived.Test.YtjiaepphnddpoaaGreatR12
import Derived.Test.YtjiaepphnddpoaaGreatR13
import Derived.Test.YtjiaepphnddpoaaGreatW14
import Derived.Test.YtjiaepphnddpoaaGreatH2
import Derived.Test.YtjiaepphnddpoaaGreatOrd
namespace Go.Proofs.YtjiaepphnddpoaaGreat
open Go.RowKit Go.Shelf
set_option linter.unusedSimpArgs false
set_option linter.unusedVariables false

theorem SlAt.apart {α : Type} {w w' : World} {B s n c g : Nat} {enc : α → List Value} {A : Option Addr} {xs : List α} (h : SlAt w B s enc A n c xs) (ha : Apart g w w') (ho : OffA g A n) : SlAt w' B s enc A n c xs := by
  refine ⟨h.1, h.2.1, h.2.2.1, fun h0 => ?_⟩
  obtain ⟨b, off, e, hB, hb, hc⟩ := h.2.2.2 h0
  have hne := ho h0 b off e
  refine ⟨b, off, e, hB, Nat.lt_of_lt_of_le hb ha.low.size, fun k x hk j v hv => ?_⟩
  have hh : w'.heap[b]? = w.heap[b]? := by
    rcases Nat.lt_or_gt_of_ne hne with h1 | h1
    · exact ha.low.block b h1
    · exact ha.far b h1 hb
  rw [cell_eq hh]
  exact hc k x hk j v hv
def wayS (ch : List Int) : Option (List Int) → Int
  | none => 0
  | some p => sumL (speedsOf ch p)
def RaceAt (s : Strm) (A O D C : Option Addr) (n c co nd cd nc cc g : Nat) (ch : List Int) (o : Option (List Int)) (w : World) : Prop :=
  ∃ P np pc, Blk w g 134 #[.int .i64 s.head, .slice A n c, .int .i64 s.lane.lo, .int .i64 s.lane.hi, .int .i64 s.bend, .slice O n co, .slice D nd cd, .slice C nc cc, .slice P np pc, .int .i64 (wayS ch o), .bool o.isSome] ∧ SlAt w 0 1 ivs P np pc (o.getD []) ∧ OffA g P np
def RaceIn (s : Strm) (A O D C : Option Addr) (n c co nd cd nc cc g : Nat) (bs : List Bnd) (l : List Wat) (ch : List Int) (w : World) : Prop :=
  (SlAt w 0 5 Sec.cells A n c s.secs ∧ OffA g A n) ∧ (SlAt w 0 2 Bnd.cells O n co bs ∧ OffA g O n) ∧ (SlAt w 0 4 Wat.cells D nd cd l ∧ OffA g D nd) ∧ SlAt w 0 1 ivs C nc cc ch ∧ OffA g C nc
section
variable {s : Strm} {A O D C : Option Addr} {n c co nd cd nc cc g : Nat} {bs : List Bnd} {l : List Wat} {ch : List Int} {o : Option (List Int)} {w w' : World}
theorem RaceAt.below (h : RaceAt s A O D C n c co nd cd nc cc g ch o w) (hb : Below w.heap.size w w') : RaceAt s A O D C n c co nd cd nc cc g ch o w' := by
  obtain ⟨P, np, pc, k, hP, ho⟩ := h
  exact ⟨P, np, pc, k.below hb, hP.below hb, ho⟩
theorem RaceIn.below (h : RaceIn s A O D C n c co nd cd nc cc g bs l ch w) (hb : Below w.heap.size w w') : RaceIn s A O D C n c co nd cd nc cc g bs l ch w' := by
  obtain ⟨⟨h1, g1⟩, ⟨h2, g2⟩, ⟨h3, g3⟩, h4, g4⟩ := h
  exact ⟨⟨h1.below hb, g1⟩, ⟨h2.below hb, g2⟩, ⟨h3.below hb, g3⟩, h4.below hb, g4⟩
theorem RaceIn.apart (h : RaceIn s A O D C n c co nd cd nc cc g bs l ch w) (hb : Apart g w w') : RaceIn s A O D C n c co nd cd nc cc g bs l ch w' := by
  obtain ⟨⟨h1, g1⟩, ⟨h2, g2⟩, ⟨h3, g3⟩, h4, g4⟩ := h
  exact ⟨⟨h1.apart hb g1, g1⟩, ⟨h2.apart hb g2, g2⟩, ⟨h3.apart hb g3, g3⟩, h4.apart hb g4, g4⟩
theorem RaceAt.lt (h : RaceAt s A O D C n c co nd cd nc cc g ch o w) : g < w.heap.size := by obtain ⟨P, np, pc, k, -⟩ := h; exact k.lt
end
theorem speedsOf_in {ch plan : List Int} (hc : okSpeeds ch = true) : ∀ x ∈ speedsOf ch plan, 0 ≤ x ∧ x ≤ 100 := fun x hx => of_decide_eq_true (List.all_eq_true.1 (speedsOf_ok hc) x hx)
theorem speedsOf_app (ch plan : List Int) (x : Int) : speedsOf ch (plan ++ [x]) = speedsOf ch plan ++ [ch.getD x.toNat 0] := by unfold speedsOf; rw [List.map_append]; rfl
set_option maxRecDepth 100000 in
set_option maxHeartbeats 4000000 in
theorem Rtry_any {s : Strm} {A O D C : Option Addr} {n c co nd cd nc cc g : Nat} {bs : List Bnd} {l : List Wat} {ch : List Int} (ho : okStrm s = true) (hb0 : okOffs s bs = true) (hwl : l.all okWat = true) (hch : okSpeeds ch = true) (hnd : nd ≤ 6) (hnc : nc ≤ 4) :
    ∀ (r m : Nat) (plan : List Int) (o : Option (List Int)) (E V : Option Addr) (ce cv : Nat) (w : World), plan.length = m → m + r = nd → RaceIn s A O D C n c co nd cd nc cc g bs l ch w → RaceAt s A O D C n c co nd cd nc cc g ch o w → SlAt w 0 1 ivs E m ce plan → SlAt w 0 1 ivs V m cv (speedsOf ch plan) → NilOk E m ce → NilOk V m cv → OffA g E m → OffA g V m →
      Calls Tryz.prog 77 #[.pointer (some ⟨g, 0, none⟩), .slice E m ce, .slice V m cv] w fun e w' => e = .returned (.tuple #[]) ∧ RaceAt s A O D C n c co nd cd nc cc g ch (searchS s bs l ch r plan o) w' ∧ Apart g w w' := by
  intro r
  induction r with
  | zero =>
    intro m plan o E V ce cv w hm hmr hin hat hE hV hNE hNV hoE hoV
    obtain rfl : nd = m := by omega
    have hgl := hat.lt
    have hkp := fun W h1 h2 h3 h4 => Rkeeps_any s A O D V n c co nd cd cv bs l (speedsOf ch plan) W ho hb0 hwl (speedsOf_ok hch) (by omega) h1 h2 h3 h4
    have hsum := fun W h => Sum_any (speedsOf ch plan) 100 V nd cv 0 W (by omega) (by omega) (speedsOf_in hch) h
    have hown := fun W h => OwnG_any plan E nd ce 0 W (by omega) hNE h
    have hval : Hid (searchS s bs l ch 0 plan o = updF (fun p => keepsS s bs l (speedsOf ch p)) (fun p => sumL (speedsOf ch p)) o plan) := rfl
    obtain ⟨P, np, pc, k, hP, hoff⟩ := hat
    obtain ⟨wy, hwy⟩ : ∃ wy, wayS ch o = wy := ⟨_, rfl⟩
    obtain ⟨is, his⟩ : ∃ b, o.isSome = b := ⟨_, rfl⟩
    obtain ⟨sm, hsm⟩ : ∃ x, sumL (speedsOf ch plan) = x := ⟨_, rfl⟩
    rw [hwy, his] at k
    simp only [hsm] at hsum
    cases hk : keepsS s bs l (speedsOf ch plan) with
    | false =>
      simp only [hk] at hkp
      replace hval : Hid (searchS s bs l ch 0 plan o = o) := by show _ = _; rw [hval.out]; unfold updF; rw [if_neg (by dsimp only; rw [hk]; simp)]
      replace hk := Lib.hid hk
      replace hsm := Lib.hid hsm
      replace hown := Lib.hid hown
      obtain ⟨c1, f1, l1⟩ := k.rules
      go_enter Tryz.func77, Tryz.ntmps77
      go_wp2_with fail
      clear c1 f1 l1
      refine (hsum _ hV).mono ?_
      rintro e w' ⟨rfl, rfl⟩
      go_wp2_with fail
      refine wp_held_np (fun w' : World => ∀ j, w'.cell? ⟨g, j, none⟩ = #[Value.int .i64 s.head, .slice A n c, .int .i64 s.lane.lo, .int .i64 s.lane.hi, .int .i64 s.bend, .slice O n co, .slice D nd cd, .slice C nc cc, .slice P np pc, .int .i64 wy, .bool is][j]?) (by kernel_rfl) ?_
      have hbel : Below w.heap.size w w.drew := (Below.refl _ _).drew
      replace k := k.below hbel
      replace hin := hin.below hbel
      replace hE := hE.below hbel
      replace hV := hV.below hbel
      replace hP := hP.below hbel
      have hap : Apart g w w.drew := Apart.of hbel (Nat.le_of_lt hgl)
      clear hbel
      generalize w.drew = W at *
      have hS : (fun w' : World => ∀ j, w'.cell? ⟨g, j, none⟩ = #[Value.int .i64 s.head, .slice A n c, .int .i64 s.lane.lo, .int .i64 s.lane.hi, .int .i64 s.bend, .slice O n co, .slice D nd cd, .slice C nc cc, .slice P np pc, .int .i64 wy, .bool is][j]?) W := k.cell
      refine held_take (i := 0) (v := ?_) 18 rfl rfl (by kernel_rfl) (by kernel_rfl) (by kernel_rfl) (fun _ _ _ h => h) (Or.inl ⟨by rfl, ?_⟩) hS ?_
      rotate_left 1
      · intro w' hSw
        try dsimp only at hSw
        obtain q1 := hSw
        go_simp
        all_goals with_reducible rfl
      try simp only [Act.put, List.setIfInBounds_toArray, List.set_cons_zero, List.set_cons_succ]
      refine held_take (i := 1) (v := ?_) 19 rfl rfl (by kernel_rfl) (by kernel_rfl) (by kernel_rfl) (fun _ _ _ h => h) (Or.inl ⟨by rfl, ?_⟩) hS ?_
      rotate_left 1
      · intro w' hSw
        try dsimp only at hSw
        obtain q1 := hSw
        go_simp
        all_goals with_reducible rfl
      try simp only [Act.put, List.setIfInBounds_toArray, List.set_cons_zero, List.set_cons_succ]
      refine held_take (i := 2) (v := ?_) 20 rfl rfl (by kernel_rfl) (by kernel_rfl) (by kernel_rfl) (fun _ _ _ h => h) (Or.inl ⟨by rfl, ?_⟩) hS ?_
      rotate_left 1
      · intro w' hSw
        try dsimp only at hSw
        obtain q1 := hSw
        go_simp
        all_goals with_reducible rfl
      try simp only [Act.put, List.setIfInBounds_toArray, List.set_cons_zero, List.set_cons_succ]
      refine held_take (i := 3) (v := ?_) 21 rfl rfl (by kernel_rfl) (by kernel_rfl) (by kernel_rfl) (fun _ _ _ h => h) (Or.inl ⟨by rfl, ?_⟩) hS ?_
      rotate_left 1
      · intro w' hSw
        try dsimp only at hSw
        obtain q1 := hSw
        go_simp
        all_goals with_reducible rfl
      try simp only [Act.put, List.setIfInBounds_toArray, List.set_cons_zero, List.set_cons_succ]
      refine held_take (i := 4) (v := ?_) 22 rfl rfl (by kernel_rfl) (by kernel_rfl) (by kernel_rfl) (fun _ _ _ h => h) (Or.inl ⟨by rfl, ?_⟩) hS ?_
      rotate_left 1
      · intro w' hSw
        try dsimp only at hSw
        obtain q1 := hSw
        go_simp
        all_goals with_reducible rfl
      try simp only [Act.put, List.setIfInBounds_toArray, List.set_cons_zero, List.set_cons_succ]
      refine held_take (i := 5) (v := ?_) 23 rfl rfl (by kernel_rfl) (by kernel_rfl) (by kernel_rfl) (fun _ _ _ h => h) (Or.inl ⟨by rfl, ?_⟩) hS ?_
      rotate_left 1
      · intro w' hSw
        try dsimp only at hSw
        obtain q1 := hSw
        go_simp
        all_goals with_reducible rfl
      try simp only [Act.put, List.setIfInBounds_toArray, List.set_cons_zero, List.set_cons_succ]
      refine held_take (i := 6) (v := ?_) 24 rfl rfl (by kernel_rfl) (by kernel_rfl) (by kernel_rfl) (fun _ _ _ h => h) (Or.inl ⟨by rfl, ?_⟩) hS ?_
      rotate_left 1
      · intro w' hSw
        try dsimp only at hSw
        obtain q1 := hSw
        go_simp
        all_goals with_reducible rfl
      try simp only [Act.put, List.setIfInBounds_toArray, List.set_cons_zero, List.set_cons_succ]
      refine held_take (i := 7) (v := ?_) 25 rfl rfl (by kernel_rfl) (by kernel_rfl) (by kernel_rfl) (fun _ _ _ h => h) (Or.inl ⟨by rfl, ?_⟩) hS ?_
      rotate_left 1
      · intro w' hSw
        try dsimp only at hSw
        obtain q1 := hSw
        go_simp
        all_goals with_reducible rfl
      try simp only [Act.put, List.setIfInBounds_toArray, List.set_cons_zero, List.set_cons_succ]
      refine held_take (i := 8) (v := ?_) 26 rfl rfl (by kernel_rfl) (by kernel_rfl) (by kernel_rfl) (fun _ _ _ h => h) (Or.inl ⟨by rfl, ?_⟩) hS ?_
      rotate_left 1
      · intro w' hSw
        try dsimp only at hSw
        obtain q1 := hSw
        go_simp
        all_goals with_reducible rfl
      try simp only [Act.put, List.setIfInBounds_toArray, List.set_cons_zero, List.set_cons_succ]
      refine held_take (i := 9) (v := ?_) 27 rfl rfl (by kernel_rfl) (by kernel_rfl) (by kernel_rfl) (fun _ _ _ h => h) (Or.inl ⟨by rfl, ?_⟩) hS ?_
      rotate_left 1
      · intro w' hSw
        try dsimp only at hSw
        obtain q1 := hSw
        go_simp
        all_goals with_reducible rfl
      try simp only [Act.put, List.setIfInBounds_toArray, List.set_cons_zero, List.set_cons_succ]
      refine held_take (i := 10) (v := ?_) 28 rfl rfl (by kernel_rfl) (by kernel_rfl) (by kernel_rfl) (fun _ _ _ h => h) (Or.inl ⟨by rfl, ?_⟩) hS ?_
      rotate_left 1
      · intro w' hSw
        try dsimp only at hSw
        obtain q1 := hSw
        go_simp
        all_goals with_reducible rfl
      try simp only [Act.put, List.setIfInBounds_toArray, List.set_cons_zero, List.set_cons_succ]
      refine held_take (i := 11) (v := ?_) 29 rfl rfl (by kernel_rfl) (by kernel_rfl) (by kernel_rfl) (fun _ _ _ h => h) (Or.inl ⟨by rfl, ?_⟩) hS ?_
      rotate_left 1
      · intro w' hSw
        try dsimp only at hSw
        obtain q1 := hSw
        go_simp
        all_goals with_reducible rfl
      try simp only [Act.put, List.setIfInBounds_toArray, List.set_cons_zero, List.set_cons_succ]
      refine held_take (i := 12) (v := ?_) 30 rfl rfl (by kernel_rfl) (by kernel_rfl) (by kernel_rfl) (fun _ _ _ h => h) (Or.inl ⟨by rfl, ?_⟩) hS ?_
      rotate_left 1
      · intro w' hSw
        try dsimp only at hSw
        obtain q1 := hSw
        go_simp
        all_goals with_reducible rfl
      try simp only [Act.put, List.setIfInBounds_toArray, List.set_cons_zero, List.set_cons_succ]
      refine held_one (i := 13) (by kernel_rfl) rfl rfl (fun K hK => ?_)
      go_simp
      refine (hkp _ hin.1.1 hin.2.1.1 hin.2.2.1.1 hV).mono ?_
      rintro e W1 ⟨rfl, hbel⟩
      clear hS
      replace hap := hap.trans (Apart.of hbel (Nat.le_of_lt k.lt))
      replace k := k.below hbel
      replace hin := hin.below hbel
      replace hE := hE.below hbel
      replace hP := hP.below hbel
      clear hbel hV hkp
      have hS : (fun w' : World => ∀ j, w'.cell? ⟨g, j, none⟩ = #[Value.int .i64 s.head, .slice A n c, .int .i64 s.lane.lo, .int .i64 s.lane.hi, .int .i64 s.bend, .slice O n co, .slice D nd cd, .slice C nc cc, .slice P np pc, .int .i64 wy, .bool is][j]?) W1 := k.cell
      refine hK _ _ hS ?_
      clear hK K
      try simp only [Act.put, List.setIfInBounds_toArray, List.set_cons_zero, List.set_cons_succ]
      refine held_take (i := 14) (v := ?_) 32 rfl rfl (by kernel_rfl) (by kernel_rfl) (by kernel_rfl) (fun _ _ _ h => h) (Or.inl ⟨by rfl, ?_⟩) hS ?_
      rotate_left 1
      · intro w' hSw
        try dsimp only at hSw
        obtain q1 := hSw
        go_simp
        all_goals with_reducible rfl
      try simp only [Act.put, List.setIfInBounds_toArray, List.set_cons_zero, List.set_cons_succ]
      refine held_take (i := 15) (v := undef) 33 rfl rfl (by kernel_rfl) (by kernel_rfl) (by kernel_rfl) (fun _ _ _ h => h) (Or.inr ⟨by rfl, rfl⟩) hS ?_
      try simp only [Act.put, List.setIfInBounds_toArray, List.set_cons_zero, List.set_cons_succ]
      refine held_take (i := 16) (v := undef) 34 rfl rfl (by kernel_rfl) (by kernel_rfl) (by kernel_rfl) (fun _ _ _ h => h) (Or.inr ⟨by rfl, rfl⟩) hS ?_
      try simp only [Act.put, List.setIfInBounds_toArray, List.set_cons_zero, List.set_cons_succ]
      refine held_take (i := 17) (v := undef) 35 rfl rfl (by kernel_rfl) (by kernel_rfl) (by kernel_rfl) (fun _ _ _ h => h) (Or.inr ⟨by rfl, rfl⟩) hS ?_
      try simp only [Act.put, List.setIfInBounds_toArray, List.set_cons_zero, List.set_cons_succ]
      refine held_take (i := 18) (v := undef) 36 rfl rfl (by kernel_rfl) (by kernel_rfl) (by kernel_rfl) (fun _ _ _ h => h) (Or.inr ⟨by rfl, rfl⟩) hS ?_
      try simp only [Act.put, List.setIfInBounds_toArray, List.set_cons_zero, List.set_cons_succ]
      refine held_take (i := 19) (v := undef) 37 rfl rfl (by kernel_rfl) (by kernel_rfl) (by kernel_rfl) (fun _ _ _ h => h) (Or.inr ⟨by rfl, rfl⟩) hS ?_
      try simp only [Act.put, List.setIfInBounds_toArray, List.set_cons_zero, List.set_cons_succ]
      refine held_take (i := 20) (v := undef) 38 rfl rfl (by kernel_rfl) (by kernel_rfl) (by kernel_rfl) (fun _ _ _ h => h) (Or.inr ⟨by rfl, rfl⟩) hS ?_
      try simp only [Act.put, List.setIfInBounds_toArray, List.set_cons_zero, List.set_cons_succ]
      refine held_take (i := 21) (v := undef) 39 rfl rfl (by kernel_rfl) (by kernel_rfl) (by kernel_rfl) (fun _ _ _ h => h) (Or.inr ⟨by rfl, rfl⟩) hS ?_
      try simp only [Act.put, List.setIfInBounds_toArray, List.set_cons_zero, List.set_cons_succ]
      refine held_take (i := 22) (v := undef) 40 rfl rfl (by kernel_rfl) (by kernel_rfl) (by kernel_rfl) (fun _ _ _ h => h) (Or.inr ⟨by rfl, rfl⟩) hS ?_
      try simp only [Act.put, List.setIfInBounds_toArray, List.set_cons_zero, List.set_cons_succ]
      refine held_take (i := 23) (v := undef) 41 rfl rfl (by kernel_rfl) (by kernel_rfl) (by kernel_rfl) (fun _ _ _ h => h) (Or.inr ⟨by rfl, rfl⟩) hS ?_
      try simp only [Act.put, List.setIfInBounds_toArray, List.set_cons_zero, List.set_cons_succ]
      refine held_take (i := 24) (v := undef) 42 rfl rfl (by kernel_rfl) (by kernel_rfl) (by kernel_rfl) (fun _ _ _ h => h) (Or.inr ⟨by rfl, rfl⟩) hS ?_
      try simp only [Act.put, List.setIfInBounds_toArray, List.set_cons_zero, List.set_cons_succ]
      refine held_take (i := 25) (v := undef) 43 rfl rfl (by kernel_rfl) (by kernel_rfl) (by kernel_rfl) (fun _ _ _ h => h) (Or.inr ⟨by rfl, rfl⟩) hS ?_
      try simp only [Act.put, List.setIfInBounds_toArray, List.set_cons_zero, List.set_cons_succ]
      refine held_take (i := 26) (v := undef) 44 rfl rfl (by kernel_rfl) (by kernel_rfl) (by kernel_rfl) (fun _ _ _ h => h) (Or.inr ⟨by rfl, rfl⟩) hS ?_
      try simp only [Act.put, List.setIfInBounds_toArray, List.set_cons_zero, List.set_cons_succ]
      refine held_take (i := 27) (v := undef) 45 rfl rfl (by kernel_rfl) (by kernel_rfl) (by kernel_rfl) (fun _ _ _ h => h) (Or.inr ⟨by rfl, rfl⟩) hS ?_
      try simp only [Act.put, List.setIfInBounds_toArray, List.set_cons_zero, List.set_cons_succ]
      refine held_take (i := 28) (v := ?_) 46 rfl rfl (by kernel_rfl) (by kernel_rfl) (by kernel_rfl) (fun _ _ _ h => h) (Or.inl ⟨by rfl, ?_⟩) hS ?_
      rotate_left 1
      · intro w' hSw
        try dsimp only at hSw
        obtain q1 := hSw
        go_simp
        all_goals with_reducible rfl
      try simp only [Act.put, List.setIfInBounds_toArray, List.set_cons_zero, List.set_cons_succ]
      subst hwy his
      refine wpAnyH_done (by kernel_rfl) (noPanic_normal ?_) _
      clear hS
      go_wp2
      refine bodyPost_ret (v := .tuple #[]) (results_none rfl _ _ _) rfl ⟨rfl, ?_, hap⟩
      rw [hval.out]
      exact ⟨P, np, pc, k, hP, hoff⟩
    | true =>
      simp only [hk] at hkp
      cases o with
      | none =>
        obtain rfl : is = false := his.symm
        replace hval : Hid (searchS s bs l ch 0 plan none = some plan) := by show _ = _; rw [hval.out]; unfold updF; rw [if_pos (by dsimp only; exact hk)]
        replace hk := Lib.hid hk
        replace hsm := Lib.hid hsm
        obtain ⟨c1, f1, l1⟩ := k.rules
        go_enter Tryz.func77, Tryz.ntmps77
        go_wp2_with fail
        clear c1 f1 l1
        refine (hsum _ hV).mono ?_
        rintro e w' ⟨rfl, rfl⟩
        go_wp2_with fail
        refine wp_held_np (fun w' : World => ∀ j, w'.cell? ⟨g, j, none⟩ = #[Value.int .i64 s.head, .slice A n c, .int .i64 s.lane.lo, .int .i64 s.lane.hi, .int .i64 s.bend, .slice O n co, .slice D nd cd, .slice C nc cc, .slice P np pc, .int .i64 wy, .bool false][j]?) (by kernel_rfl) ?_
        have hbel : Below w.heap.size w w.drew := (Below.refl _ _).drew
        replace k := k.below hbel
        replace hin := hin.below hbel
        replace hE := hE.below hbel
        replace hV := hV.below hbel
        replace hP := hP.below hbel
        have hap : Apart g w w.drew := Apart.of hbel (Nat.le_of_lt hgl)
        clear hbel
        generalize w.drew = W at *
        have hS : (fun w' : World => ∀ j, w'.cell? ⟨g, j, none⟩ = #[Value.int .i64 s.head, .slice A n c, .int .i64 s.lane.lo, .int .i64 s.lane.hi, .int .i64 s.bend, .slice O n co, .slice D nd cd, .slice C nc cc, .slice P np pc, .int .i64 wy, .bool false][j]?) W := k.cell
        refine held_take (i := 0) (v := ?_) 18 rfl rfl (by kernel_rfl) (by kernel_rfl) (by kernel_rfl) (fun _ _ _ h => h) (Or.inl ⟨by rfl, ?_⟩) hS ?_
        rotate_left 1
        · intro w' hSw
          try dsimp only at hSw
          obtain q1 := hSw
          go_simp
          all_goals with_reducible rfl
        try simp only [Act.put, List.setIfInBounds_toArray, List.set_cons_zero, List.set_cons_succ]
        refine held_take (i := 1) (v := ?_) 19 rfl rfl (by kernel_rfl) (by kernel_rfl) (by kernel_rfl) (fun _ _ _ h => h) (Or.inl ⟨by rfl, ?_⟩) hS ?_
        rotate_left 1
        · intro w' hSw
          try dsimp only at hSw
          obtain q1 := hSw
          go_simp
          all_goals with_reducible rfl
        try simp only [Act.put, List.setIfInBounds_toArray, List.set_cons_zero, List.set_cons_succ]
        refine held_take (i := 2) (v := ?_) 20 rfl rfl (by kernel_rfl) (by kernel_rfl) (by kernel_rfl) (fun _ _ _ h => h) (Or.inl ⟨by rfl, ?_⟩) hS ?_
        rotate_left 1
        · intro w' hSw
          try dsimp only at hSw
          obtain q1 := hSw
          go_simp
          all_goals with_reducible rfl
        try simp only [Act.put, List.setIfInBounds_toArray, List.set_cons_zero, List.set_cons_succ]
        refine held_take (i := 3) (v := ?_) 21 rfl rfl (by kernel_rfl) (by kernel_rfl) (by kernel_rfl) (fun _ _ _ h => h) (Or.inl ⟨by rfl, ?_⟩) hS ?_
        rotate_left 1
        · intro w' hSw
          try dsimp only at hSw
          obtain q1 := hSw
          go_simp
          all_goals with_reducible rfl
        try simp only [Act.put, List.setIfInBounds_toArray, List.set_cons_zero, List.set_cons_succ]
        refine held_take (i := 4) (v := ?_) 22 rfl rfl (by kernel_rfl) (by kernel_rfl) (by kernel_rfl) (fun _ _ _ h => h) (Or.inl ⟨by rfl, ?_⟩) hS ?_
        rotate_left 1
        · intro w' hSw
          try dsimp only at hSw
          obtain q1 := hSw
          go_simp
          all_goals with_reducible rfl
        try simp only [Act.put, List.setIfInBounds_toArray, List.set_cons_zero, List.set_cons_succ]
        refine held_take (i := 5) (v := ?_) 23 rfl rfl (by kernel_rfl) (by kernel_rfl) (by kernel_rfl) (fun _ _ _ h => h) (Or.inl ⟨by rfl, ?_⟩) hS ?_
        rotate_left 1
        · intro w' hSw
          try dsimp only at hSw
          obtain q1 := hSw
          go_simp
          all_goals with_reducible rfl
        try simp only [Act.put, List.setIfInBounds_toArray, List.set_cons_zero, List.set_cons_succ]
        refine held_take (i := 6) (v := ?_) 24 rfl rfl (by kernel_rfl) (by kernel_rfl) (by kernel_rfl) (fun _ _ _ h => h) (Or.inl ⟨by rfl, ?_⟩) hS ?_
        rotate_left 1
        · intro w' hSw
          try dsimp only at hSw
          obtain q1 := hSw
          go_simp
          all_goals with_reducible rfl
        try simp only [Act.put, List.setIfInBounds_toArray, List.set_cons_zero, List.set_cons_succ]
        refine held_take (i := 7) (v := ?_) 25 rfl rfl (by kernel_rfl) (by kernel_rfl) (by kernel_rfl) (fun _ _ _ h => h) (Or.inl ⟨by rfl, ?_⟩) hS ?_
        rotate_left 1
        · intro w' hSw
          try dsimp only at hSw
          obtain q1 := hSw
          go_simp
          all_goals with_reducible rfl
        try simp only [Act.put, List.setIfInBounds_toArray, List.set_cons_zero, List.set_cons_succ]
        refine held_take (i := 8) (v := ?_) 26 rfl rfl (by kernel_rfl) (by kernel_rfl) (by kernel_rfl) (fun _ _ _ h => h) (Or.inl ⟨by rfl, ?_⟩) hS ?_
        rotate_left 1
        · intro w' hSw
          try dsimp only at hSw
          obtain q1 := hSw
          go_simp
          all_goals with_reducible rfl
        try simp only [Act.put, List.setIfInBounds_toArray, List.set_cons_zero, List.set_cons_succ]
        refine held_take (i := 9) (v := ?_) 27 rfl rfl (by kernel_rfl) (by kernel_rfl) (by kernel_rfl) (fun _ _ _ h => h) (Or.inl ⟨by rfl, ?_⟩) hS ?_
        rotate_left 1
        · intro w' hSw
          try dsimp only at hSw
          obtain q1 := hSw
          go_simp
          all_goals with_reducible rfl
        try simp only [Act.put, List.setIfInBounds_toArray, List.set_cons_zero, List.set_cons_succ]
        refine held_take (i := 10) (v := ?_) 28 rfl rfl (by kernel_rfl) (by kernel_rfl) (by kernel_rfl) (fun _ _ _ h => h) (Or.inl ⟨by rfl, ?_⟩) hS ?_
        rotate_left 1
        · intro w' hSw
          try dsimp only at hSw
          obtain q1 := hSw
          go_simp
          all_goals with_reducible rfl
        try simp only [Act.put, List.setIfInBounds_toArray, List.set_cons_zero, List.set_cons_succ]
        refine held_take (i := 11) (v := ?_) 29 rfl rfl (by kernel_rfl) (by kernel_rfl) (by kernel_rfl) (fun _ _ _ h => h) (Or.inl ⟨by rfl, ?_⟩) hS ?_
        rotate_left 1
        · intro w' hSw
          try dsimp only at hSw
          obtain q1 := hSw
          go_simp
          all_goals with_reducible rfl
        try simp only [Act.put, List.setIfInBounds_toArray, List.set_cons_zero, List.set_cons_succ]
        refine held_take (i := 12) (v := ?_) 30 rfl rfl (by kernel_rfl) (by kernel_rfl) (by kernel_rfl) (fun _ _ _ h => h) (Or.inl ⟨by rfl, ?_⟩) hS ?_
        rotate_left 1
        · intro w' hSw
          try dsimp only at hSw
          obtain q1 := hSw
          go_simp
          all_goals with_reducible rfl
        try simp only [Act.put, List.setIfInBounds_toArray, List.set_cons_zero, List.set_cons_succ]
        refine held_one (i := 13) (by kernel_rfl) rfl rfl (fun K hK => ?_)
        go_simp
        refine (hkp _ hin.1.1 hin.2.1.1 hin.2.2.1.1 hV).mono ?_
        rintro e W1 ⟨rfl, hbel⟩
        clear hS
        replace hap := hap.trans (Apart.of hbel (Nat.le_of_lt k.lt))
        replace k := k.below hbel
        replace hin := hin.below hbel
        replace hE := hE.below hbel
        replace hP := hP.below hbel
        clear hbel hV hkp
        have hS : (fun w' : World => ∀ j, w'.cell? ⟨g, j, none⟩ = #[Value.int .i64 s.head, .slice A n c, .int .i64 s.lane.lo, .int .i64 s.lane.hi, .int .i64 s.bend, .slice O n co, .slice D nd cd, .slice C nc cc, .slice P np pc, .int .i64 wy, .bool false][j]?) W1 := k.cell
        refine hK _ _ hS ?_
        clear hK K
        try simp only [Act.put, List.setIfInBounds_toArray, List.set_cons_zero, List.set_cons_succ]
        refine held_take (i := 14) (v := ?_) 32 rfl rfl (by kernel_rfl) (by kernel_rfl) (by kernel_rfl) (fun _ _ _ h => h) (Or.inl ⟨by rfl, ?_⟩) hS ?_
        rotate_left 1
        · intro w' hSw
          try dsimp only at hSw
          obtain q1 := hSw
          go_simp
          all_goals with_reducible rfl
        try simp only [Act.put, List.setIfInBounds_toArray, List.set_cons_zero, List.set_cons_succ]
        refine held_take (i := 15) (v := ?_) 33 rfl rfl (by kernel_rfl) (by kernel_rfl) (by kernel_rfl) (fun _ _ _ h => h) (Or.inl ⟨by rfl, ?_⟩) hS ?_
        rotate_left 1
        · intro w' hSw
          try dsimp only at hSw
          obtain q1 := hSw
          go_simp
          all_goals with_reducible rfl
        try simp only [Act.put, List.setIfInBounds_toArray, List.set_cons_zero, List.set_cons_succ]
        refine held_take (i := 16) (v := ?_) 34 rfl rfl (by kernel_rfl) (by kernel_rfl) (by kernel_rfl) (fun _ _ _ h => h) (Or.inl ⟨by rfl, ?_⟩) hS ?_
        rotate_left 1
        · intro w' hSw
          try dsimp only at hSw
          obtain q1 := hSw
          go_simp
          all_goals with_reducible rfl
        try simp only [Act.put, List.setIfInBounds_toArray, List.set_cons_zero, List.set_cons_succ]
        refine held_take (i := 17) (v := ?_) 35 rfl rfl (by kernel_rfl) (by kernel_rfl) (by kernel_rfl) (fun _ _ _ h => h) (Or.inl ⟨by rfl, ?_⟩) hS ?_
        rotate_left 1
        · intro w' hSw
          try dsimp only at hSw
          obtain q1 := hSw
          go_simp
          all_goals with_reducible rfl
        try simp only [Act.put, List.setIfInBounds_toArray, List.set_cons_zero, List.set_cons_succ]
        refine held_take (i := 18) (v := ?_) 36 rfl rfl (by kernel_rfl) (by kernel_rfl) (by kernel_rfl) (fun _ _ _ h => h) (Or.inl ⟨by rfl, ?_⟩) hS ?_
        rotate_left 1
        · intro w' hSw
          try dsimp only at hSw
          obtain q1 := hSw
          go_simp
          all_goals with_reducible rfl
        try simp only [Act.put, List.setIfInBounds_toArray, List.set_cons_zero, List.set_cons_succ]
        refine held_take (i := 19) (v := ?_) 37 rfl rfl (by kernel_rfl) (by kernel_rfl) (by kernel_rfl) (fun _ _ _ h => h) (Or.inl ⟨by rfl, ?_⟩) hS ?_
        rotate_left 1
        · intro w' hSw
          try dsimp only at hSw
          obtain q1 := hSw
          go_simp
          all_goals with_reducible rfl
        try simp only [Act.put, List.setIfInBounds_toArray, List.set_cons_zero, List.set_cons_succ]
        refine held_take (i := 20) (v := ?_) 38 rfl rfl (by kernel_rfl) (by kernel_rfl) (by kernel_rfl) (fun _ _ _ h => h) (Or.inl ⟨by rfl, ?_⟩) hS ?_
        rotate_left 1
        · intro w' hSw
          try dsimp only at hSw
          obtain q1 := hSw
          go_simp
          all_goals with_reducible rfl
        try simp only [Act.put, List.setIfInBounds_toArray, List.set_cons_zero, List.set_cons_succ]
        refine held_take (i := 21) (v := undef) 39 rfl rfl (by kernel_rfl) (by kernel_rfl) (by kernel_rfl) (fun _ _ _ h => h) (Or.inr ⟨by rfl, rfl⟩) hS ?_
        try simp only [Act.put, List.setIfInBounds_toArray, List.set_cons_zero, List.set_cons_succ]
        refine held_take (i := 22) (v := undef) 40 rfl rfl (by kernel_rfl) (by kernel_rfl) (by kernel_rfl) (fun _ _ _ h => h) (Or.inr ⟨by rfl, rfl⟩) hS ?_
        try simp only [Act.put, List.setIfInBounds_toArray, List.set_cons_zero, List.set_cons_succ]
        refine held_take (i := 23) (v := undef) 41 rfl rfl (by kernel_rfl) (by kernel_rfl) (by kernel_rfl) (fun _ _ _ h => h) (Or.inr ⟨by rfl, rfl⟩) hS ?_
        try simp only [Act.put, List.setIfInBounds_toArray, List.set_cons_zero, List.set_cons_succ]
        refine held_take (i := 24) (v := undef) 42 rfl rfl (by kernel_rfl) (by kernel_rfl) (by kernel_rfl) (fun _ _ _ h => h) (Or.inr ⟨by rfl, rfl⟩) hS ?_
        try simp only [Act.put, List.setIfInBounds_toArray, List.set_cons_zero, List.set_cons_succ]
        refine held_take (i := 25) (v := undef) 43 rfl rfl (by kernel_rfl) (by kernel_rfl) (by kernel_rfl) (fun _ _ _ h => h) (Or.inr ⟨by rfl, rfl⟩) hS ?_
        try simp only [Act.put, List.setIfInBounds_toArray, List.set_cons_zero, List.set_cons_succ]
        refine held_take (i := 26) (v := undef) 44 rfl rfl (by kernel_rfl) (by kernel_rfl) (by kernel_rfl) (fun _ _ _ h => h) (Or.inr ⟨by rfl, rfl⟩) hS ?_
        try simp only [Act.put, List.setIfInBounds_toArray, List.set_cons_zero, List.set_cons_succ]
        refine held_take (i := 27) (v := ?_) 45 rfl rfl (by kernel_rfl) (by kernel_rfl) (by kernel_rfl) (fun _ _ _ h => h) (Or.inl ⟨by rfl, ?_⟩) hS ?_
        rotate_left 1
        · intro w' hSw
          try dsimp only at hSw
          obtain q1 := hSw
          go_simp
          all_goals with_reducible rfl
        try simp only [Act.put, List.setIfInBounds_toArray, List.set_cons_zero, List.set_cons_succ]
        refine held_take (i := 28) (v := ?_) 46 rfl rfl (by kernel_rfl) (by kernel_rfl) (by kernel_rfl) (fun _ _ _ h => h) (Or.inl ⟨by rfl, ?_⟩) hS ?_
        rotate_left 1
        · intro w' hSw
          try dsimp only at hSw
          obtain q1 := hSw
          go_simp
          all_goals with_reducible rfl
        try simp only [Act.put, List.setIfInBounds_toArray, List.set_cons_zero, List.set_cons_succ]
        refine wpAnyH_done (by kernel_rfl) (noPanic_normal ?_) _
        clear hS
        go_wp2_with fail
        refine (hown _ hE).mono ?_
        rintro e W2 ⟨v, rfl, own, hbel⟩
        replace hap := hap.trans (Apart.of hbel (Nat.le_of_lt k.lt))
        have hgW := k.lt
        replace k := k.below hbel
        obtain ⟨P2, pc2, rfl, hP2⟩ := SlAt.of_own (enc := ivs) own (by omega) plan (flatMap_ivs _).symm (fun _ => rfl) hm
        clear hbel own hown hE
        obtain ⟨c1, f1, l1⟩ := k.rules
        have kz := ((k.set_ 8 (.slice P2 nd pc2)).set_ 9 (.int .i64 sm)).set_ 10 (.bool true)
        simp only [List.setIfInBounds_toArray, List.set_cons_zero, List.set_cons_succ] at kz
        have hz := ((hap.set 8 (.slice P2 nd pc2)).set 9 (.int .i64 sm)).set 10 (.bool true)
        have hPz := ((hP2.setCell (p := ⟨g, 8, none⟩) hgW (.slice P2 nd pc2)).setCell (p := ⟨g, 9, none⟩) hgW (.int .i64 sm)).setCell (p := ⟨g, 10, none⟩) hgW (.bool true)
        have hoz : OffA g P2 nd := OffA.above hP2 hgW
        obtain ⟨wz, hwz⟩ : ∃ x, x = ((W2.setCell ⟨g, 8, none⟩ (.slice P2 nd pc2)).setCell ⟨g, 9, none⟩ (.int .i64 sm)).setCell ⟨g, 10, none⟩ (.bool true) := ⟨_, rfl⟩
        rw [← hwz] at kz hz hPz
        go_wp2
        rw [← hwz]
        clear hwz c1 f1 l1
        refine bodyPost_ret (v := .tuple #[]) (results_none rfl _ _ _) rfl ⟨rfl, ?_, hz⟩
        rw [hval.out]
        exact ⟨P2, nd, pc2, by show Blk wz g _ #[.int .i64 s.head, .slice A n c, .int .i64 s.lane.lo, .int .i64 s.lane.hi, .int .i64 s.bend, .slice O n co, .slice D nd cd, .slice C nc cc, .slice P2 nd pc2, .int .i64 (sumL (speedsOf ch plan)), .bool true]; rw [hsm.out]; exact kz, hPz.mono (Nat.zero_le _), hoz⟩
      | some q =>
        obtain rfl : is = true := his.symm
        by_cases hlt : wy < sm
        · replace hval : Hid (searchS s bs l ch 0 plan (some q) = some plan) := by show _ = _; rw [hval.out]; unfold updF; rw [if_pos (by dsimp only; exact hk)]; dsimp only; rw [if_pos (by rw [hsm, show sumL (speedsOf ch q) = wy from hwy]; exact hlt)]
          replace hk := Lib.hid hk
          replace hsm := Lib.hid hsm
          obtain ⟨c1, f1, l1⟩ := k.rules
          go_enter Tryz.func77, Tryz.ntmps77
          go_wp2_with fail
          clear c1 f1 l1
          refine (hsum _ hV).mono ?_
          rintro e w' ⟨rfl, rfl⟩
          go_wp2_with fail
          refine wp_held_np (fun w' : World => ∀ j, w'.cell? ⟨g, j, none⟩ = #[Value.int .i64 s.head, .slice A n c, .int .i64 s.lane.lo, .int .i64 s.lane.hi, .int .i64 s.bend, .slice O n co, .slice D nd cd, .slice C nc cc, .slice P np pc, .int .i64 wy, .bool true][j]?) (by kernel_rfl) ?_
          have hbel : Below w.heap.size w w.drew := (Below.refl _ _).drew
          replace k := k.below hbel
          replace hin := hin.below hbel
          replace hE := hE.below hbel
          replace hV := hV.below hbel
          replace hP := hP.below hbel
          have hap : Apart g w w.drew := Apart.of hbel (Nat.le_of_lt hgl)
          clear hbel
          generalize w.drew = W at *
          have hS : (fun w' : World => ∀ j, w'.cell? ⟨g, j, none⟩ = #[Value.int .i64 s.head, .slice A n c, .int .i64 s.lane.lo, .int .i64 s.lane.hi, .int .i64 s.bend, .slice O n co, .slice D nd cd, .slice C nc cc, .slice P np pc, .int .i64 wy, .bool true][j]?) W := k.cell
          refine held_take (i := 0) (v := ?_) 18 rfl rfl (by kernel_rfl) (by kernel_rfl) (by kernel_rfl) (fun _ _ _ h => h) (Or.inl ⟨by rfl, ?_⟩) hS ?_
          rotate_left 1
          · intro w' hSw
            try dsimp only at hSw
            obtain q1 := hSw
            go_simp
            all_goals with_reducible rfl
          try simp only [Act.put, List.setIfInBounds_toArray, List.set_cons_zero, List.set_cons_succ]
          refine held_take (i := 1) (v := ?_) 19 rfl rfl (by kernel_rfl) (by kernel_rfl) (by kernel_rfl) (fun _ _ _ h => h) (Or.inl ⟨by rfl, ?_⟩) hS ?_
          rotate_left 1
          · intro w' hSw
            try dsimp only at hSw
            obtain q1 := hSw
            go_simp
            all_goals with_reducible rfl
          try simp only [Act.put, List.setIfInBounds_toArray, List.set_cons_zero, List.set_cons_succ]
          refine held_take (i := 2) (v := ?_) 20 rfl rfl (by kernel_rfl) (by kernel_rfl) (by kernel_rfl) (fun _ _ _ h => h) (Or.inl ⟨by rfl, ?_⟩) hS ?_
          rotate_left 1
          · intro w' hSw
            try dsimp only at hSw
            obtain q1 := hSw
            go_simp
            all_goals with_reducible rfl
          try simp only [Act.put, List.setIfInBounds_toArray, List.set_cons_zero, List.set_cons_succ]
          refine held_take (i := 3) (v := ?_) 21 rfl rfl (by kernel_rfl) (by kernel_rfl) (by kernel_rfl) (fun _ _ _ h => h) (Or.inl ⟨by rfl, ?_⟩) hS ?_
          rotate_left 1
          · intro w' hSw
            try dsimp only at hSw
            obtain q1 := hSw
            go_simp
            all_goals with_reducible rfl
          try simp only [Act.put, List.setIfInBounds_toArray, List.set_cons_zero, List.set_cons_succ]
          refine held_take (i := 4) (v := ?_) 22 rfl rfl (by kernel_rfl) (by kernel_rfl) (by kernel_rfl) (fun _ _ _ h => h) (Or.inl ⟨by rfl, ?_⟩) hS ?_
          rotate_left 1
          · intro w' hSw
            try dsimp only at hSw
            obtain q1 := hSw
            go_simp
            all_goals with_reducible rfl
          try simp only [Act.put, List.setIfInBounds_toArray, List.set_cons_zero, List.set_cons_succ]
          refine held_take (i := 5) (v := ?_) 23 rfl rfl (by kernel_rfl) (by kernel_rfl) (by kernel_rfl) (fun _ _ _ h => h) (Or.inl ⟨by rfl, ?_⟩) hS ?_
          rotate_left 1
          · intro w' hSw
            try dsimp only at hSw
            obtain q1 := hSw
            go_simp
            all_goals with_reducible rfl
          try simp only [Act.put, List.setIfInBounds_toArray, List.set_cons_zero, List.set_cons_succ]
          refine held_take (i := 6) (v := ?_) 24 rfl rfl (by kernel_rfl) (by kernel_rfl) (by kernel_rfl) (fun _ _ _ h => h) (Or.inl ⟨by rfl, ?_⟩) hS ?_
          rotate_left 1
          · intro w' hSw
            try dsimp only at hSw
            obtain q1 := hSw
            go_simp
            all_goals with_reducible rfl
          try simp only [Act.put, List.setIfInBounds_toArray, List.set_cons_zero, List.set_cons_succ]
          refine held_take (i := 7) (v := ?_) 25 rfl rfl (by kernel_rfl) (by kernel_rfl) (by kernel_rfl) (fun _ _ _ h => h) (Or.inl ⟨by rfl, ?_⟩) hS ?_
          rotate_left 1
          · intro w' hSw
            try dsimp only at hSw
            obtain q1 := hSw
            go_simp
            all_goals with_reducible rfl
          try simp only [Act.put, List.setIfInBounds_toArray, List.set_cons_zero, List.set_cons_succ]
          refine held_take (i := 8) (v := ?_) 26 rfl rfl (by kernel_rfl) (by kernel_rfl) (by kernel_rfl) (fun _ _ _ h => h) (Or.inl ⟨by rfl, ?_⟩) hS ?_
          rotate_left 1
          · intro w' hSw
            try dsimp only at hSw
            obtain q1 := hSw
            go_simp
            all_goals with_reducible rfl
          try simp only [Act.put, List.setIfInBounds_toArray, List.set_cons_zero, List.set_cons_succ]
          refine held_take (i := 9) (v := ?_) 27 rfl rfl (by kernel_rfl) (by kernel_rfl) (by kernel_rfl) (fun _ _ _ h => h) (Or.inl ⟨by rfl, ?_⟩) hS ?_
          rotate_left 1
          · intro w' hSw
            try dsimp only at hSw
            obtain q1 := hSw
            go_simp
            all_goals with_reducible rfl
          try simp only [Act.put, List.setIfInBounds_toArray, List.set_cons_zero, List.set_cons_succ]
          refine held_take (i := 10) (v := ?_) 28 rfl rfl (by kernel_rfl) (by kernel_rfl) (by kernel_rfl) (fun _ _ _ h => h) (Or.inl ⟨by rfl, ?_⟩) hS ?_
          rotate_left 1
          · intro w' hSw
            try dsimp only at hSw
            obtain q1 := hSw
            go_simp
            all_goals with_reducible rfl
          try simp only [Act.put, List.setIfInBounds_toArray, List.set_cons_zero, List.set_cons_succ]
          refine held_take (i := 11) (v := ?_) 29 rfl rfl (by kernel_rfl) (by kernel_rfl) (by kernel_rfl) (fun _ _ _ h => h) (Or.inl ⟨by rfl, ?_⟩) hS ?_
          rotate_left 1
          · intro w' hSw
            try dsimp only at hSw
            obtain q1 := hSw
            go_simp
            all_goals with_reducible rfl
          try simp only [Act.put, List.setIfInBounds_toArray, List.set_cons_zero, List.set_cons_succ]
          refine held_take (i := 12) (v := ?_) 30 rfl rfl (by kernel_rfl) (by kernel_rfl) (by kernel_rfl) (fun _ _ _ h => h) (Or.inl ⟨by rfl, ?_⟩) hS ?_
          rotate_left 1
          · intro w' hSw
            try dsimp only at hSw
            obtain q1 := hSw
            go_simp
            all_goals with_reducible rfl
          try simp only [Act.put, List.setIfInBounds_toArray, List.set_cons_zero, List.set_cons_succ]
          refine held_one (i := 13) (by kernel_rfl) rfl rfl (fun K hK => ?_)
          go_simp
          refine (hkp _ hin.1.1 hin.2.1.1 hin.2.2.1.1 hV).mono ?_
          rintro e W1 ⟨rfl, hbel⟩
          clear hS
          replace hap := hap.trans (Apart.of hbel (Nat.le_of_lt k.lt))
          replace k := k.below hbel
          replace hin := hin.below hbel
          replace hE := hE.below hbel
          replace hP := hP.below hbel
          clear hbel hV hkp
          have hS : (fun w' : World => ∀ j, w'.cell? ⟨g, j, none⟩ = #[Value.int .i64 s.head, .slice A n c, .int .i64 s.lane.lo, .int .i64 s.lane.hi, .int .i64 s.bend, .slice O n co, .slice D nd cd, .slice C nc cc, .slice P np pc, .int .i64 wy, .bool true][j]?) W1 := k.cell
          refine hK _ _ hS ?_
          clear hK K
          try simp only [Act.put, List.setIfInBounds_toArray, List.set_cons_zero, List.set_cons_succ]
          refine held_take (i := 14) (v := ?_) 32 rfl rfl (by kernel_rfl) (by kernel_rfl) (by kernel_rfl) (fun _ _ _ h => h) (Or.inl ⟨by rfl, ?_⟩) hS ?_
          rotate_left 1
          · intro w' hSw
            try dsimp only at hSw
            obtain q1 := hSw
            go_simp
            all_goals with_reducible rfl
          try simp only [Act.put, List.setIfInBounds_toArray, List.set_cons_zero, List.set_cons_succ]
          refine held_take (i := 15) (v := ?_) 33 rfl rfl (by kernel_rfl) (by kernel_rfl) (by kernel_rfl) (fun _ _ _ h => h) (Or.inl ⟨by rfl, ?_⟩) hS ?_
          rotate_left 1
          · intro w' hSw
            try dsimp only at hSw
            obtain q1 := hSw
            go_simp
            all_goals with_reducible rfl
          try simp only [Act.put, List.setIfInBounds_toArray, List.set_cons_zero, List.set_cons_succ]
          refine held_take (i := 16) (v := ?_) 34 rfl rfl (by kernel_rfl) (by kernel_rfl) (by kernel_rfl) (fun _ _ _ h => h) (Or.inl ⟨by rfl, ?_⟩) hS ?_
          rotate_left 1
          · intro w' hSw
            try dsimp only at hSw
            obtain q1 := hSw
            go_simp
            all_goals with_reducible rfl
          try simp only [Act.put, List.setIfInBounds_toArray, List.set_cons_zero, List.set_cons_succ]
          refine held_take (i := 17) (v := ?_) 35 rfl rfl (by kernel_rfl) (by kernel_rfl) (by kernel_rfl) (fun _ _ _ h => h) (Or.inl ⟨by rfl, ?_⟩) hS ?_
          rotate_left 1
          · intro w' hSw
            try dsimp only at hSw
            obtain q1 := hSw
            go_simp
            all_goals with_reducible rfl
          try simp only [Act.put, List.setIfInBounds_toArray, List.set_cons_zero, List.set_cons_succ]
          refine held_take (i := 18) (v := ?_) 36 rfl rfl (by kernel_rfl) (by kernel_rfl) (by kernel_rfl) (fun _ _ _ h => h) (Or.inl ⟨by rfl, ?_⟩) hS ?_
          rotate_left 1
          · intro w' hSw
            try dsimp only at hSw
            obtain q1 := hSw
            go_simp
            all_goals with_reducible rfl
          try simp only [Act.put, List.setIfInBounds_toArray, List.set_cons_zero, List.set_cons_succ]
          refine held_take (i := 19) (v := ?_) 37 rfl rfl (by kernel_rfl) (by kernel_rfl) (by kernel_rfl) (fun _ _ _ h => h) (Or.inl ⟨by rfl, ?_⟩) hS ?_
          rotate_left 1
          · intro w' hSw
            try dsimp only at hSw
            obtain q1 := hSw
            go_simp
            all_goals with_reducible rfl
          try simp only [Act.put, List.setIfInBounds_toArray, List.set_cons_zero, List.set_cons_succ]
          refine held_take (i := 20) (v := ?_) 38 rfl rfl (by kernel_rfl) (by kernel_rfl) (by kernel_rfl) (fun _ _ _ h => h) (Or.inl ⟨by rfl, ?_⟩) hS ?_
          rotate_left 1
          · intro w' hSw
            try dsimp only at hSw
            obtain q1 := hSw
            go_simp
            all_goals with_reducible rfl
          try simp only [Act.put, List.setIfInBounds_toArray, List.set_cons_zero, List.set_cons_succ]
          refine held_take (i := 21) (v := ?_) 39 rfl rfl (by kernel_rfl) (by kernel_rfl) (by kernel_rfl) (fun _ _ _ h => h) (Or.inl ⟨by rfl, ?_⟩) hS ?_
          rotate_left 1
          · intro w' hSw
            try dsimp only at hSw
            obtain q1 := hSw
            go_simp
            all_goals with_reducible rfl
          try simp only [Act.put, List.setIfInBounds_toArray, List.set_cons_zero, List.set_cons_succ]
          refine held_take (i := 22) (v := ?_) 40 rfl rfl (by kernel_rfl) (by kernel_rfl) (by kernel_rfl) (fun _ _ _ h => h) (Or.inl ⟨by rfl, ?_⟩) hS ?_
          rotate_left 1
          · intro w' hSw
            try dsimp only at hSw
            obtain q1 := hSw
            go_simp
            all_goals with_reducible rfl
          try simp only [Act.put, List.setIfInBounds_toArray, List.set_cons_zero, List.set_cons_succ]
          refine held_take (i := 23) (v := ?_) 41 rfl rfl (by kernel_rfl) (by kernel_rfl) (by kernel_rfl) (fun _ _ _ h => h) (Or.inl ⟨by rfl, ?_⟩) hS ?_
          rotate_left 1
          · intro w' hSw
            try dsimp only at hSw
            obtain q1 := hSw
            go_simp
            all_goals with_reducible rfl
          try simp only [Act.put, List.setIfInBounds_toArray, List.set_cons_zero, List.set_cons_succ]
          refine held_take (i := 24) (v := ?_) 42 rfl rfl (by kernel_rfl) (by kernel_rfl) (by kernel_rfl) (fun _ _ _ h => h) (Or.inl ⟨by rfl, ?_⟩) hS ?_
          rotate_left 1
          · intro w' hSw
            try dsimp only at hSw
            obtain q1 := hSw
            go_simp
            all_goals with_reducible rfl
          try simp only [Act.put, List.setIfInBounds_toArray, List.set_cons_zero, List.set_cons_succ]
          refine held_take (i := 25) (v := ?_) 43 rfl rfl (by kernel_rfl) (by kernel_rfl) (by kernel_rfl) (fun _ _ _ h => h) (Or.inl ⟨by rfl, ?_⟩) hS ?_
          rotate_left 1
          · intro w' hSw
            try dsimp only at hSw
            obtain q1 := hSw
            go_simp
            all_goals with_reducible rfl
          try simp only [Act.put, List.setIfInBounds_toArray, List.set_cons_zero, List.set_cons_succ]
          refine held_take (i := 26) (v := ?_) 44 rfl rfl (by kernel_rfl) (by kernel_rfl) (by kernel_rfl) (fun _ _ _ h => h) (Or.inl ⟨by rfl, ?_⟩) hS ?_
          rotate_left 1
          · intro w' hSw
            try dsimp only at hSw
            obtain q1 := hSw
            go_simp
            all_goals with_reducible rfl
          try simp only [Act.put, List.setIfInBounds_toArray, List.set_cons_zero, List.set_cons_succ]
          refine held_take (i := 27) (v := ?_) 45 rfl rfl (by kernel_rfl) (by kernel_rfl) (by kernel_rfl) (fun _ _ _ h => h) (Or.inl ⟨by rfl, ?_⟩) hS ?_
          rotate_left 1
          · intro w' hSw
            try dsimp only at hSw
            obtain q1 := hSw
            go_simp
            all_goals with_reducible rfl
          try simp only [Act.put, List.setIfInBounds_toArray, List.set_cons_zero, List.set_cons_succ]
          refine held_take (i := 28) (v := ?_) 46 rfl rfl (by kernel_rfl) (by kernel_rfl) (by kernel_rfl) (fun _ _ _ h => h) (Or.inl ⟨by rfl, ?_⟩) hS ?_
          rotate_left 1
          · intro w' hSw
            try dsimp only at hSw
            obtain q1 := hSw
            go_simp
            all_goals with_reducible rfl
          try simp only [Act.put, List.setIfInBounds_toArray, List.set_cons_zero, List.set_cons_succ]
          refine wpAnyH_done (by kernel_rfl) (noPanic_normal ?_) _
          clear hS
          go_wp2_with fail
          refine (hown _ hE).mono ?_
          rintro e W2 ⟨v, rfl, own, hbel⟩
          replace hap := hap.trans (Apart.of hbel (Nat.le_of_lt k.lt))
          have hgW := k.lt
          replace k := k.below hbel
          obtain ⟨P2, pc2, rfl, hP2⟩ := SlAt.of_own (enc := ivs) own (by omega) plan (flatMap_ivs _).symm (fun _ => rfl) hm
          clear hbel own hown hE
          obtain ⟨c1, f1, l1⟩ := k.rules
          have kz := ((k.set_ 8 (.slice P2 nd pc2)).set_ 9 (.int .i64 sm)).set_ 10 (.bool true)
          simp only [List.setIfInBounds_toArray, List.set_cons_zero, List.set_cons_succ] at kz
          have hz := ((hap.set 8 (.slice P2 nd pc2)).set 9 (.int .i64 sm)).set 10 (.bool true)
          have hPz := ((hP2.setCell (p := ⟨g, 8, none⟩) hgW (.slice P2 nd pc2)).setCell (p := ⟨g, 9, none⟩) hgW (.int .i64 sm)).setCell (p := ⟨g, 10, none⟩) hgW (.bool true)
          have hoz : OffA g P2 nd := OffA.above hP2 hgW
          obtain ⟨wz, hwz⟩ : ∃ x, x = ((W2.setCell ⟨g, 8, none⟩ (.slice P2 nd pc2)).setCell ⟨g, 9, none⟩ (.int .i64 sm)).setCell ⟨g, 10, none⟩ (.bool true) := ⟨_, rfl⟩
          rw [← hwz] at kz hz hPz
          go_wp2
          rw [← hwz]
          clear hwz c1 f1 l1
          refine bodyPost_ret (v := .tuple #[]) (results_none rfl _ _ _) rfl ⟨rfl, ?_, hz⟩
          rw [hval.out]
          exact ⟨P2, nd, pc2, by show Blk wz g _ #[.int .i64 s.head, .slice A n c, .int .i64 s.lane.lo, .int .i64 s.lane.hi, .int .i64 s.bend, .slice O n co, .slice D nd cd, .slice C nc cc, .slice P2 nd pc2, .int .i64 (sumL (speedsOf ch plan)), .bool true]; rw [hsm.out]; exact kz, hPz.mono (Nat.zero_le _), hoz⟩
        · replace hval : Hid (searchS s bs l ch 0 plan (some q) = some q) := by show _ = _; rw [hval.out]; unfold updF; rw [if_pos (by dsimp only; exact hk)]; dsimp only; rw [if_neg (by rw [hsm, show sumL (speedsOf ch q) = wy from hwy]; exact hlt)]
          replace hk := Lib.hid hk
          replace hsm := Lib.hid hsm
          replace hown := Lib.hid hown
          obtain ⟨c1, f1, l1⟩ := k.rules
          go_enter Tryz.func77, Tryz.ntmps77
          go_wp2_with fail
          clear c1 f1 l1
          refine (hsum _ hV).mono ?_
          rintro e w' ⟨rfl, rfl⟩
          go_wp2_with fail
          refine wp_held_np (fun w' : World => ∀ j, w'.cell? ⟨g, j, none⟩ = #[Value.int .i64 s.head, .slice A n c, .int .i64 s.lane.lo, .int .i64 s.lane.hi, .int .i64 s.bend, .slice O n co, .slice D nd cd, .slice C nc cc, .slice P np pc, .int .i64 wy, .bool true][j]?) (by kernel_rfl) ?_
          have hbel : Below w.heap.size w w.drew := (Below.refl _ _).drew
          replace k := k.below hbel
          replace hin := hin.below hbel
          replace hE := hE.below hbel
          replace hV := hV.below hbel
          replace hP := hP.below hbel
          have hap : Apart g w w.drew := Apart.of hbel (Nat.le_of_lt hgl)
          clear hbel
          generalize w.drew = W at *
          have hS : (fun w' : World => ∀ j, w'.cell? ⟨g, j, none⟩ = #[Value.int .i64 s.head, .slice A n c, .int .i64 s.lane.lo, .int .i64 s.lane.hi, .int .i64 s.bend, .slice O n co, .slice D nd cd, .slice C nc cc, .slice P np pc, .int .i64 wy, .bool true][j]?) W := k.cell
          refine held_take (i := 0) (v := ?_) 18 rfl rfl (by kernel_rfl) (by kernel_rfl) (by kernel_rfl) (fun _ _ _ h => h) (Or.inl ⟨by rfl, ?_⟩) hS ?_
          rotate_left 1
          · intro w' hSw
            try dsimp only at hSw
            obtain q1 := hSw
            go_simp
            all_goals with_reducible rfl
          try simp only [Act.put, List.setIfInBounds_toArray, List.set_cons_zero, List.set_cons_succ]
          refine held_take (i := 1) (v := ?_) 19 rfl rfl (by kernel_rfl) (by kernel_rfl) (by kernel_rfl) (fun _ _ _ h => h) (Or.inl ⟨by rfl, ?_⟩) hS ?_
          rotate_left 1
          · intro w' hSw
            try dsimp only at hSw
            obtain q1 := hSw
            go_simp
            all_goals with_reducible rfl
          try simp only [Act.put, List.setIfInBounds_toArray, List.set_cons_zero, List.set_cons_succ]
          refine held_take (i := 2) (v := ?_) 20 rfl rfl (by kernel_rfl) (by kernel_rfl) (by kernel_rfl) (fun _ _ _ h => h) (Or.inl ⟨by rfl, ?_⟩) hS ?_
          rotate_left 1
          · intro w' hSw
            try dsimp only at hSw
            obtain q1 := hSw
            go_simp
            all_goals with_reducible rfl
          try simp only [Act.put, List.setIfInBounds_toArray, List.set_cons_zero, List.set_cons_succ]
          refine held_take (i := 3) (v := ?_) 21 rfl rfl (by kernel_rfl) (by kernel_rfl) (by kernel_rfl) (fun _ _ _ h => h) (Or.inl ⟨by rfl, ?_⟩) hS ?_
          rotate_left 1
          · intro w' hSw
            try dsimp only at hSw
            obtain q1 := hSw
            go_simp
            all_goals with_reducible rfl
          try simp only [Act.put, List.setIfInBounds_toArray, List.set_cons_zero, List.set_cons_succ]
          refine held_take (i := 4) (v := ?_) 22 rfl rfl (by kernel_rfl) (by kernel_rfl) (by kernel_rfl) (fun _ _ _ h => h) (Or.inl ⟨by rfl, ?_⟩) hS ?_
          rotate_left 1
          · intro w' hSw
            try dsimp only at hSw
            obtain q1 := hSw
            go_simp
            all_goals with_reducible rfl
          try simp only [Act.put, List.setIfInBounds_toArray, List.set_cons_zero, List.set_cons_succ]
          refine held_take (i := 5) (v := ?_) 23 rfl rfl (by kernel_rfl) (by kernel_rfl) (by kernel_rfl) (fun _ _ _ h => h) (Or.inl ⟨by rfl, ?_⟩) hS ?_
          rotate_left 1
          · intro w' hSw
            try dsimp only at hSw
            obtain q1 := hSw
            go_simp
            all_goals with_reducible rfl
          try simp only [Act.put, List.setIfInBounds_toArray, List.set_cons_zero, List.set_cons_succ]
          refine held_take (i := 6) (v := ?_) 24 rfl rfl (by kernel_rfl) (by kernel_rfl) (by kernel_rfl) (fun _ _ _ h => h) (Or.inl ⟨by rfl, ?_⟩) hS ?_
          rotate_left 1
          · intro w' hSw
            try dsimp only at hSw
            obtain q1 := hSw
            go_simp
            all_goals with_reducible rfl
          try simp only [Act.put, List.setIfInBounds_toArray, List.set_cons_zero, List.set_cons_succ]
          refine held_take (i := 7) (v := ?_) 25 rfl rfl (by kernel_rfl) (by kernel_rfl) (by kernel_rfl) (fun _ _ _ h => h) (Or.inl ⟨by rfl, ?_⟩) hS ?_
          rotate_left 1
          · intro w' hSw
            try dsimp only at hSw
            obtain q1 := hSw
            go_simp
            all_goals with_reducible rfl
          try simp only [Act.put, List.setIfInBounds_toArray, List.set_cons_zero, List.set_cons_succ]
          refine held_take (i := 8) (v := ?_) 26 rfl rfl (by kernel_rfl) (by kernel_rfl) (by kernel_rfl) (fun _ _ _ h => h) (Or.inl ⟨by rfl, ?_⟩) hS ?_
          rotate_left 1
          · intro w' hSw
            try dsimp only at hSw
            obtain q1 := hSw
            go_simp
            all_goals with_reducible rfl
          try simp only [Act.put, List.setIfInBounds_toArray, List.set_cons_zero, List.set_cons_succ]
          refine held_take (i := 9) (v := ?_) 27 rfl rfl (by kernel_rfl) (by kernel_rfl) (by kernel_rfl) (fun _ _ _ h => h) (Or.inl ⟨by rfl, ?_⟩) hS ?_
          rotate_left 1
          · intro w' hSw
            try dsimp only at hSw
            obtain q1 := hSw
            go_simp
            all_goals with_reducible rfl
          try simp only [Act.put, List.setIfInBounds_toArray, List.set_cons_zero, List.set_cons_succ]
          refine held_take (i := 10) (v := ?_) 28 rfl rfl (by kernel_rfl) (by kernel_rfl) (by kernel_rfl) (fun _ _ _ h => h) (Or.inl ⟨by rfl, ?_⟩) hS ?_
          rotate_left 1
          · intro w' hSw
            try dsimp only at hSw
            obtain q1 := hSw
            go_simp
            all_goals with_reducible rfl
          try simp only [Act.put, List.setIfInBounds_toArray, List.set_cons_zero, List.set_cons_succ]
          refine held_take (i := 11) (v := ?_) 29 rfl rfl (by kernel_rfl) (by kernel_rfl) (by kernel_rfl) (fun _ _ _ h => h) (Or.inl ⟨by rfl, ?_⟩) hS ?_
          rotate_left 1
          · intro w' hSw
            try dsimp only at hSw
            obtain q1 := hSw
            go_simp
            all_goals with_reducible rfl
          try simp only [Act.put, List.setIfInBounds_toArray, List.set_cons_zero, List.set_cons_succ]
          refine held_take (i := 12) (v := ?_) 30 rfl rfl (by kernel_rfl) (by kernel_rfl) (by kernel_rfl) (fun _ _ _ h => h) (Or.inl ⟨by rfl, ?_⟩) hS ?_
          rotate_left 1
          · intro w' hSw
            try dsimp only at hSw
            obtain q1 := hSw
            go_simp
            all_goals with_reducible rfl
          try simp only [Act.put, List.setIfInBounds_toArray, List.set_cons_zero, List.set_cons_succ]
          refine held_one (i := 13) (by kernel_rfl) rfl rfl (fun K hK => ?_)
          go_simp
          refine (hkp _ hin.1.1 hin.2.1.1 hin.2.2.1.1 hV).mono ?_
          rintro e W1 ⟨rfl, hbel⟩
          clear hS
          replace hap := hap.trans (Apart.of hbel (Nat.le_of_lt k.lt))
          replace k := k.below hbel
          replace hin := hin.below hbel
          replace hE := hE.below hbel
          replace hP := hP.below hbel
          clear hbel hV hkp
          have hS : (fun w' : World => ∀ j, w'.cell? ⟨g, j, none⟩ = #[Value.int .i64 s.head, .slice A n c, .int .i64 s.lane.lo, .int .i64 s.lane.hi, .int .i64 s.bend, .slice O n co, .slice D nd cd, .slice C nc cc, .slice P np pc, .int .i64 wy, .bool true][j]?) W1 := k.cell
          refine hK _ _ hS ?_
          clear hK K
          try simp only [Act.put, List.setIfInBounds_toArray, List.set_cons_zero, List.set_cons_succ]
          refine held_take (i := 14) (v := ?_) 32 rfl rfl (by kernel_rfl) (by kernel_rfl) (by kernel_rfl) (fun _ _ _ h => h) (Or.inl ⟨by rfl, ?_⟩) hS ?_
          rotate_left 1
          · intro w' hSw
            try dsimp only at hSw
            obtain q1 := hSw
            go_simp
            all_goals with_reducible rfl
          try simp only [Act.put, List.setIfInBounds_toArray, List.set_cons_zero, List.set_cons_succ]
          refine held_take (i := 15) (v := ?_) 33 rfl rfl (by kernel_rfl) (by kernel_rfl) (by kernel_rfl) (fun _ _ _ h => h) (Or.inl ⟨by rfl, ?_⟩) hS ?_
          rotate_left 1
          · intro w' hSw
            try dsimp only at hSw
            obtain q1 := hSw
            go_simp
            all_goals with_reducible rfl
          try simp only [Act.put, List.setIfInBounds_toArray, List.set_cons_zero, List.set_cons_succ]
          refine held_take (i := 16) (v := ?_) 34 rfl rfl (by kernel_rfl) (by kernel_rfl) (by kernel_rfl) (fun _ _ _ h => h) (Or.inl ⟨by rfl, ?_⟩) hS ?_
          rotate_left 1
          · intro w' hSw
            try dsimp only at hSw
            obtain q1 := hSw
            go_simp
            all_goals with_reducible rfl
          try simp only [Act.put, List.setIfInBounds_toArray, List.set_cons_zero, List.set_cons_succ]
          refine held_take (i := 17) (v := ?_) 35 rfl rfl (by kernel_rfl) (by kernel_rfl) (by kernel_rfl) (fun _ _ _ h => h) (Or.inl ⟨by rfl, ?_⟩) hS ?_
          rotate_left 1
          · intro w' hSw
            try dsimp only at hSw
            obtain q1 := hSw
            go_simp
            all_goals with_reducible rfl
          try simp only [Act.put, List.setIfInBounds_toArray, List.set_cons_zero, List.set_cons_succ]
          refine held_take (i := 18) (v := ?_) 36 rfl rfl (by kernel_rfl) (by kernel_rfl) (by kernel_rfl) (fun _ _ _ h => h) (Or.inl ⟨by rfl, ?_⟩) hS ?_
          rotate_left 1
          · intro w' hSw
            try dsimp only at hSw
            obtain q1 := hSw
            go_simp
            all_goals with_reducible rfl
          try simp only [Act.put, List.setIfInBounds_toArray, List.set_cons_zero, List.set_cons_succ]
          refine held_take (i := 19) (v := ?_) 37 rfl rfl (by kernel_rfl) (by kernel_rfl) (by kernel_rfl) (fun _ _ _ h => h) (Or.inl ⟨by rfl, ?_⟩) hS ?_
          rotate_left 1
          · intro w' hSw
            try dsimp only at hSw
            obtain q1 := hSw
            go_simp
            all_goals with_reducible rfl
          try simp only [Act.put, List.setIfInBounds_toArray, List.set_cons_zero, List.set_cons_succ]
          refine held_take (i := 20) (v := ?_) 38 rfl rfl (by kernel_rfl) (by kernel_rfl) (by kernel_rfl) (fun _ _ _ h => h) (Or.inl ⟨by rfl, ?_⟩) hS ?_
          rotate_left 1
          · intro w' hSw
            try dsimp only at hSw
            obtain q1 := hSw
            go_simp
            all_goals with_reducible rfl
          try simp only [Act.put, List.setIfInBounds_toArray, List.set_cons_zero, List.set_cons_succ]
          refine held_take (i := 21) (v := ?_) 39 rfl rfl (by kernel_rfl) (by kernel_rfl) (by kernel_rfl) (fun _ _ _ h => h) (Or.inl ⟨by rfl, ?_⟩) hS ?_
          rotate_left 1
          · intro w' hSw
            try dsimp only at hSw
            obtain q1 := hSw
            go_simp
            all_goals with_reducible rfl
          try simp only [Act.put, List.setIfInBounds_toArray, List.set_cons_zero, List.set_cons_succ]
          refine held_take (i := 22) (v := ?_) 40 rfl rfl (by kernel_rfl) (by kernel_rfl) (by kernel_rfl) (fun _ _ _ h => h) (Or.inl ⟨by rfl, ?_⟩) hS ?_
          rotate_left 1
          · intro w' hSw
            try dsimp only at hSw
            obtain q1 := hSw
            go_simp
            all_goals with_reducible rfl
          try simp only [Act.put, List.setIfInBounds_toArray, List.set_cons_zero, List.set_cons_succ]
          refine held_take (i := 23) (v := ?_) 41 rfl rfl (by kernel_rfl) (by kernel_rfl) (by kernel_rfl) (fun _ _ _ h => h) (Or.inl ⟨by rfl, ?_⟩) hS ?_
          rotate_left 1
          · intro w' hSw
            try dsimp only at hSw
            obtain q1 := hSw
            go_simp
            all_goals with_reducible rfl
          try simp only [Act.put, List.setIfInBounds_toArray, List.set_cons_zero, List.set_cons_succ]
          refine held_take (i := 24) (v := ?_) 42 rfl rfl (by kernel_rfl) (by kernel_rfl) (by kernel_rfl) (fun _ _ _ h => h) (Or.inl ⟨by rfl, ?_⟩) hS ?_
          rotate_left 1
          · intro w' hSw
            try dsimp only at hSw
            obtain q1 := hSw
            go_simp
            all_goals with_reducible rfl
          try simp only [Act.put, List.setIfInBounds_toArray, List.set_cons_zero, List.set_cons_succ]
          refine held_take (i := 25) (v := ?_) 43 rfl rfl (by kernel_rfl) (by kernel_rfl) (by kernel_rfl) (fun _ _ _ h => h) (Or.inl ⟨by rfl, ?_⟩) hS ?_
          rotate_left 1
          · intro w' hSw
            try dsimp only at hSw
            obtain q1 := hSw
            go_simp
            all_goals with_reducible rfl
          try simp only [Act.put, List.setIfInBounds_toArray, List.set_cons_zero, List.set_cons_succ]
          refine held_take (i := 26) (v := ?_) 44 rfl rfl (by kernel_rfl) (by kernel_rfl) (by kernel_rfl) (fun _ _ _ h => h) (Or.inl ⟨by rfl, ?_⟩) hS ?_
          rotate_left 1
          · intro w' hSw
            try dsimp only at hSw
            obtain q1 := hSw
            go_simp
            all_goals with_reducible rfl
          try simp only [Act.put, List.setIfInBounds_toArray, List.set_cons_zero, List.set_cons_succ]
          refine held_take (i := 27) (v := ?_) 45 rfl rfl (by kernel_rfl) (by kernel_rfl) (by kernel_rfl) (fun _ _ _ h => h) (Or.inl ⟨by rfl, ?_⟩) hS ?_
          rotate_left 1
          · intro w' hSw
            try dsimp only at hSw
            obtain q1 := hSw
            go_simp
            all_goals with_reducible rfl
          try simp only [Act.put, List.setIfInBounds_toArray, List.set_cons_zero, List.set_cons_succ]
          refine held_take (i := 28) (v := ?_) 46 rfl rfl (by kernel_rfl) (by kernel_rfl) (by kernel_rfl) (fun _ _ _ h => h) (Or.inl ⟨by rfl, ?_⟩) hS ?_
          rotate_left 1
          · intro w' hSw
            try dsimp only at hSw
            obtain q1 := hSw
            go_simp
            all_goals with_reducible rfl
          try simp only [Act.put, List.setIfInBounds_toArray, List.set_cons_zero, List.set_cons_succ]
          subst hwy
          refine wpAnyH_done (by kernel_rfl) (noPanic_normal ?_) _
          clear hS
          go_wp2
          refine bodyPost_ret (v := .tuple #[]) (results_none rfl _ _ _) rfl ⟨rfl, ?_, hap⟩
          rw [hval.out]
          exact ⟨P, np, pc, k, hP, hoff⟩
  | succ r ih =>
    intro m plan o E V ce cv w hm hmr hin hat hE hV hNE hNV hoE hoV
    have hgl := hat.lt
    have hne : ((m : Int) == (nd : Int)) = false := by rw [beq_eq_false_iff_ne]; omega
    have hm6 : m < 6 := by omega
    have hsl : Hid ((speedsOf ch plan).length = m) := by show _ = _; unfold speedsOf; rw [List.length_map, hm]
    have hcl : Hid (ch.length = nc) := Lib.hid hin.2.2.2.1.len
    have hval : Hid (searchS s bs l ch (r + 1) plan o = searchTo s bs l ch r plan nc o) := by show _ = _; rw [searchS_succ, hcl.out]
    have hO1 := fun W h => OwnG_any plan E m ce 0 W (by omega) hNE h
    have hO2 := fun W h => OwnG_any (speedsOf ch plan) V m cv 0 W (by omega) hNV h
    replace hm := Lib.hid hm
    have hat0 := hat
    obtain ⟨P, np, pc, k, hP, hoff⟩ := hat
    obtain ⟨c1, f1, l1⟩ := k.rules
    replace ih := Lib.hid ih
    replace hO1 := Lib.hid hO1
    replace hO2 := Lib.hid hO2
    replace hmr := Lib.hid hmr
    go_enter Tryz.func77, Tryz.ntmps77
    go_wp2_with fail
    clear c1 f1 l1 hP k
    go_loopw [7] (fun i wr => ∃ k : Nat, i = .int .i64 k ∧ k ≤ nc ∧ RaceAt s A O D C n c co nd cd nc cc g ch (searchTo s bs l ch r plan k o) wr ∧ Apart g w wr) (fun i wr => nc - (intOf i).toNat)
    case atStart => exact ⟨0, rfl, Nat.zero_le _, hat0, Apart.refl _ _⟩
    case round =>
      clear hat0 hoff
      obtain ⟨k, rfl, hk, hat, hap⟩ := hrel
      have hgr := hat.lt
      replace hin := hin.apart hap
      replace hE := hE.apart hap hoE
      replace hV := hV.apart hap hoV
      by_cases hlt : k < nc
      · have hk0 : (0 : Int) ≤ (k : Int) := by omega
        have hk1 : (k : Int) < (nc : Int) := by omega
        obtain ⟨x, hx⟩ := some_of_lt hcl.out hlt
        obtain ⟨bC, oC, hC, -, hbC, z0⟩ := hin.2.2.2.1.int hx
        subst hC
        have hsp : Hid (speedsOf ch (plan ++ [(k : Int)]) = speedsOf ch plan ++ [x]) := by
          show _ = _
          rw [speedsOf_app]
          congr 2
          rw [Int.toNat_natCast]; exact getD_of _ hx
        replace hx := Lib.hid hx
        have hT : Hid (∀ (W : World) (E' V' : Option Addr) (ce' cv' : Nat), Below wr.heap.size wr W → SlAt W wr.heap.size 1 ivs E' (m + 1) ce' (plan ++ [(k : Int)]) → SlAt W wr.heap.size 1 ivs V' (m + 1) cv' (speedsOf ch plan ++ [x]) →
            Calls Tryz.prog 77 #[.pointer (some ⟨g, 0, none⟩), .slice E' (m + 1) ce', .slice V' (m + 1) cv'] W fun e w' => e = .returned (.tuple #[]) ∧ RaceAt s A O D (some ⟨bC, oC, none⟩) n c co nd cd nc cc g ch (searchTo s bs l ch r plan (k + 1) o) w' ∧ Apart g W w') := by
          show ∀ _, _
          intro W E' V' ce' cv' hbw h1 h2
          rw [searchTo_succ]
          exact ih.out (m + 1) (plan ++ [(k : Int)]) _ E' V' ce' cv' W (by rw [List.length_append, hm.out]; rfl) (by have := hmr.out; omega) (hin.below hbw) (hat.below hbw) (h1.mono (Nat.zero_le _)) (by rw [hsp.out]; exact h2.mono (Nat.zero_le _)) (Or.inl (by omega)) (Or.inl (by omega)) (OffA.above h1 hgr) (OffA.above h2 hgr)
        have hOwP : Hid (∀ W, Below wr.heap.size wr W → Calls Tryz.prog 124 #[.slice E m ce] W fun e w' => ∃ v, e = .returned v ∧ w'.ownsRow W.heap.size 3 1 v m (plan.map (.int .i64 ·)) ∧ Below W.heap.size W w') := fun W h => hO1.out W (hE.below h)
        have hOwV : Hid (∀ W, Below wr.heap.size wr W → Calls Tryz.prog 124 #[.slice V m cv] W fun e w' => ∃ v, e = .returned v ∧ w'.ownsRow W.heap.size 3 1 v m ((speedsOf ch plan).map (.int .i64 ·)) ∧ Below W.heap.size W w') := fun W h => hO2.out W (hV.below h)
        have hSa : Hid (∀ o W W', Below wr.heap.size wr W → RaceAt s A O D (some ⟨bC, oC, none⟩) n c co nd cd nc cc g ch o W' → Apart g W W' → (fun w' : World => w'.cell? ⟨g, 7, none⟩ = some (.slice (some ⟨bC, oC, none⟩) nc cc) ∧ w'.cell? ⟨bC, oC + k, none⟩ = some (.int .i64 x)) W') := by
          show ∀ _, _
          intro o W W' hbw ha hap2
          obtain ⟨P, np, pc, kk, -, -⟩ := ha
          refine ⟨kk.cell 7, ?_⟩
          have hne2 := hin.2.2.2.2 (show 0 < nc by omega) bC oC rfl
          have h5 := (hbw.cell (p := ⟨bC, oC + k, none⟩) hbC).trans z0
          rw [← h5]
          apply cell_eq
          have hbl : bC < W.heap.size := Nat.lt_of_lt_of_le hbC hbw.size
          rcases Nat.lt_or_gt_of_ne hne2 with h1 | h1
          · exact hap2.low.block bC h1
          · exact hap2.far bC h1 hbl
        have hSb : Hid (∀ W', Below wr.heap.size wr W' → (fun w' : World => w'.cell? ⟨g, 7, none⟩ = some (.slice (some ⟨bC, oC, none⟩) nc cc) ∧ w'.cell? ⟨bC, oC + k, none⟩ = some (.int .i64 x)) W') := by
          show ∀ _, _
          intro W' hbw
          exact hSa.out _ W' W' hbw (hat.below hbw) (Apart.refl _ _)
        obtain ⟨i0, hi0, hz0, hz1, hz2⟩ := info_parts Tryz.infoInt
        have hbig1 : Hid (m + 1 ≤ maxLen) := by show m + 1 ≤ maxLen; unfold maxLen; omega
        have hbig2 : Hid ((m + 1) * 8 ≤ 140737488355328) := by show (m + 1) * 8 ≤ 140737488355328; omega
        obtain ⟨P, np, pc, kk, hP, hoff⟩ := hat
        obtain ⟨c1, f1, l1⟩ := kk.rules
        go_wp2_with fail
        clear c1 f1 l1 kk hP hoff z0 ih hO1 hO2
        refine wp_held_np (fun w' : World => w'.cell? ⟨g, 7, none⟩ = some (.slice (some ⟨bC, oC, none⟩) nc cc) ∧ w'.cell? ⟨bC, oC + k, none⟩ = some (.int .i64 x)) (by kernel_rfl) ?_
        have hb9 : Below wr.heap.size wr wr.drew := (Below.refl _ _).drew
        have hS := hSb.out _ hb9
        have sb0 := hb9.size
        generalize wr.drew = wd at *
        refine held_take (i := 0) (v := ?_) 68 rfl rfl (by kernel_rfl) (by kernel_rfl) (by kernel_rfl) (fun _ _ _ h => h) (Or.inl ⟨by rfl, ?_⟩) hS ?_
        rotate_left 1
        · intro w' hSw
          try dsimp only at hSw
          obtain ⟨q1, q2⟩ := hSw
          go_simp
          all_goals with_reducible rfl
        try simp only [Act.put, List.setIfInBounds_toArray, List.set_cons_zero, List.set_cons_succ]
        refine held_take (i := 1) (v := ?_) 69 rfl rfl (by kernel_rfl) (by kernel_rfl) (by kernel_rfl) (fun _ _ _ h => h) (Or.inl ⟨by rfl, ?_⟩) hS ?_
        rotate_left 1
        · intro w' hSw
          try dsimp only at hSw
          obtain ⟨q1, q2⟩ := hSw
          go_simp
          all_goals with_reducible rfl
        try simp only [Act.put, List.setIfInBounds_toArray, List.set_cons_zero, List.set_cons_succ]
        refine held_take (i := 3) (v := ?_) 71 rfl rfl (by kernel_rfl) (by kernel_rfl) (by kernel_rfl) (fun _ _ _ h => h) (Or.inl ⟨by rfl, ?_⟩) hS ?_
        rotate_left 1
        · intro w' hSw
          try dsimp only at hSw
          obtain ⟨q1, q2⟩ := hSw
          go_simp
          all_goals with_reducible rfl
        try simp only [Act.put, List.setIfInBounds_toArray, List.set_cons_zero, List.set_cons_succ]
        refine held_take (i := 6) (v := ?_) 74 rfl rfl (by kernel_rfl) (by kernel_rfl) (by kernel_rfl) (fun _ _ _ h => h) (Or.inl ⟨by rfl, ?_⟩) hS ?_
        rotate_left 1
        · intro w' hSw
          try dsimp only at hSw
          obtain ⟨q1, q2⟩ := hSw
          go_simp
          all_goals with_reducible rfl
        try simp only [Act.put, List.setIfInBounds_toArray, List.set_cons_zero, List.set_cons_succ]
        refine held_take (i := 8) (v := ?_) 76 rfl rfl (by kernel_rfl) (by kernel_rfl) (by kernel_rfl) (fun _ _ _ h => h) (Or.inl ⟨by rfl, ?_⟩) hS ?_
        rotate_left 1
        · intro w' hSw
          try dsimp only at hSw
          obtain ⟨q1, q2⟩ := hSw
          go_simp
          all_goals with_reducible rfl
        try simp only [Act.put, List.setIfInBounds_toArray, List.set_cons_zero, List.set_cons_succ]
        refine held_take (i := 9) (v := ?_) 77 rfl rfl (by kernel_rfl) (by kernel_rfl) (by kernel_rfl) (fun _ _ _ h => h) (Or.inl ⟨by rfl, ?_⟩) hS ?_
        rotate_left 1
        · intro w' hSw
          try dsimp only at hSw
          obtain ⟨q1, q2⟩ := hSw
          go_simp
          all_goals with_reducible rfl
        try simp only [Act.put, List.setIfInBounds_toArray, List.set_cons_zero, List.set_cons_succ]
        refine held_take (i := 10) (v := ?_) 78 rfl rfl (by kernel_rfl) (by kernel_rfl) (by kernel_rfl) (fun _ _ _ h => h) (Or.inl ⟨by rfl, ?_⟩) hS ?_
        rotate_left 1
        · intro w' hSw
          try dsimp only at hSw
          obtain ⟨q1, q2⟩ := hSw
          go_simp
          all_goals with_reducible rfl
        try simp only [Act.put, List.setIfInBounds_toArray, List.set_cons_zero, List.set_cons_succ]
        refine held_take (i := 11) (v := ?_) 79 rfl rfl (by kernel_rfl) (by kernel_rfl) (by kernel_rfl) (fun _ _ _ h => h) (Or.inl ⟨by rfl, ?_⟩) hS ?_
        rotate_left 1
        · intro w' hSw
          try dsimp only at hSw
          obtain ⟨q1, q2⟩ := hSw
          go_simp
          all_goals with_reducible rfl
        try simp only [Act.put, List.setIfInBounds_toArray, List.set_cons_zero, List.set_cons_succ]
        refine held_take (i := 12) (v := ?_) 80 rfl rfl (by kernel_rfl) (by kernel_rfl) (by kernel_rfl) (fun _ _ _ h => h) (Or.inl ⟨by rfl, ?_⟩) hS ?_
        rotate_left 1
        · intro w' hSw
          try dsimp only at hSw
          obtain ⟨q1, q2⟩ := hSw
          go_simp
          all_goals with_reducible rfl
        try simp only [Act.put, List.setIfInBounds_toArray, List.set_cons_zero, List.set_cons_succ]
        refine held_take (i := 13) (v := ?_) 81 rfl rfl (by kernel_rfl) (by kernel_rfl) (by kernel_rfl) (fun _ _ _ h => h) (Or.inl ⟨by rfl, ?_⟩) hS ?_
        rotate_left 1
        · intro w' hSw
          try dsimp only at hSw
          obtain ⟨q1, q2⟩ := hSw
          go_simp
          all_goals with_reducible rfl
        try simp only [Act.put, List.setIfInBounds_toArray, List.set_cons_zero, List.set_cons_succ]
        refine held_take (i := 14) (v := ?_) 82 rfl rfl (by kernel_rfl) (by kernel_rfl) (by kernel_rfl) (fun _ _ _ h => h) (Or.inl ⟨by rfl, ?_⟩) hS ?_
        rotate_left 1
        · intro w' hSw
          try dsimp only at hSw
          obtain ⟨q1, q2⟩ := hSw
          go_simp
          all_goals with_reducible rfl
        try simp only [Act.put, List.setIfInBounds_toArray, List.set_cons_zero, List.set_cons_succ]
        clear hS
        refine wpAnyH_fin (f := fun a (q : Value × Value × Value × Value × Value × Value) => ((((((a.put (some 70) q.1).put (some 72) q.2.1).put (some 73) q.2.2.1).put (some 75) q.2.2.2.1).put (some 83) q.2.2.2.2.1).put (some 84) q.2.2.2.2.2).put (some 85) (.tuple #[])) (B := fun _ W' => RaceAt s A O D (some ⟨bC, oC, none⟩) n c co nd cd nc cc g ch (searchTo s bs l ch r plan (k + 1) o) W' ∧ Apart g wr W') ?_ (fun hrest => ?_)
        · rintro ⟨v70, v72, v73, v75, v83, v84⟩ W3 ⟨ha1, ha2⟩
          try simp only [Act.put, List.setIfInBounds_toArray, List.set_cons_zero, List.set_cons_succ]
          refine noPanic_normal ?_
          clear hSa hSb hb9
          go_wp2_with fail
          go_roundw
          case rel => exact ⟨k + 1, by go_num, by omega, ha1, hap.trans ha2⟩
          case measure => simp [intOf]; omega
        · try simp only [Act.put, List.setIfInBounds_toArray, List.set_cons_zero, List.set_cons_succ] at hrest
          refine held_three (i := 2) (j := 4) (k := 15) (by kernel_rfl) rfl rfl rfl rfl rfl rfl (fun K hK => ?_) (fun K hK => ?_) (fun K hK => ?_)
          · skip
            go_simp
            refine (hOwP.out wd hb9).mono ?_
            rintro e X1 ⟨v70, rfl, own70, hbel⟩
            have hx70 : ∀ g, v70.ownBlock = some g → wd.heap.size ≤ g ∧ g < X1.heap.size := fun g e => own70.lt _ e
            replace own70 := ownsRow_mono own70 hb9.size
            have szX1 := hbel.size
            try replace n4 := n4.below hbel
            try replace n15 := n15.below hbel
            try replace own70 := ownsRow_below own70 hbel
            try replace own73 := ownsRow_below own73 hbel
            try replace own75 := ownsRow_below own75 hbel
            try replace own84 := ownsRow_below own84 hbel
            replace hb9 := hb9.trans (hbel.mono hb9.size)
            clear hbel
            have sbX1 := hb9.size
            refine hK _ _ (hSb.out _ hb9) ?_
            clear hK K
            try simp only [Act.put, List.setIfInBounds_toArray, List.set_cons_zero, List.set_cons_succ]
            refine held_two (i := 4) (j := 15) (by kernel_rfl) rfl rfl rfl rfl (fun K hK => ?_) (fun K hK => ?_)
            · skip
              go_simp
              have n4 := Blk.new X1 3 #[.int .i64 (k : Int)]
              have hbel := (Below.refl X1.heap.size X1).alloc (Nat.le_refl _) (.cells #[.int .i64 (k : Int)] 3)
              have su4 : X1.heap.size < (X1.alloc (.cells #[.int .i64 (k : Int)] 3)).heap.size := by rw [World.size_alloc]; omega
              have szX2 := hbel.size
              try replace n4 := n4.below hbel
              try replace n15 := n15.below hbel
              try replace own70 := ownsRow_below own70 hbel
              try replace own73 := ownsRow_below own73 hbel
              try replace own75 := ownsRow_below own75 hbel
              try replace own84 := ownsRow_below own84 hbel
              replace hb9 := hb9.trans (hbel.mono hb9.size)
              clear hbel
              have sbX2 := hb9.size
              refine hK _ _ (hSb.out _ hb9) ?_
              clear hK K
              try simp only [Act.put, List.setIfInBounds_toArray, List.set_cons_zero, List.set_cons_succ]
              generalize X1.alloc (.cells #[.int .i64 (k : Int)] 3) = X2 at *
              generalize X1.heap.size = g4 at *
              refine held_two (i := 5) (j := 15) (by kernel_rfl) rfl rfl rfl rfl (fun K hK => ?_) (fun K hK => ?_)
              · skip
                refine wp_append_lies _ _ _ 31 (by rfl) wr.heap.size 3 i0 (.int .i64 0) 1 8 Tryz.underlying31 hi0 hz0 hz1 hz2 rfl (by omega) v70 m (plan.map (.int .i64 ·)) (by rfl) own70 ⟨g4, 0, none⟩ 1 1 [.int .i64 (k : Int)] (by rfl) rfl (World.news_of_block (cs := #[.int .i64 (k : Int)]) n4) (by simp [Value.oneCell']) (by omega) hbig1.out hbig2.out hb9.size X2.heap.size rfl ?_
                intro g73 c73 X3 own73 hgrow hlies hlt
                have hbx : Below wr.heap.size X2 X3 := ⟨hgrow.os, hgrow.tape, hgrow.output, hgrow.size, fun b hb2 => hgrow.block b (Nat.lt_of_lt_of_le hb2 hb9.size) (fun e => by have := hx70 _ e.symm; omega)⟩
                try (replace n15 := n15.grown hgrow (fun e => by have := hx70 _ e.symm; omega))
                have szX3 := hgrow.size
                replace hb9 := hb9.trans hbx
                clear hbx hgrow hlies hlt own70
                have sbX3 := hb9.size
                refine hK _ _ (hSb.out _ hb9) ?_
                clear hK K
                try simp only [Act.put, List.setIfInBounds_toArray, List.set_cons_zero, List.set_cons_succ]
                have hy73 := own73.lt g73 rfl
                refine held_two (i := 7) (j := 15) (by kernel_rfl) rfl rfl rfl rfl (fun K hK => ?_) (fun K hK => ?_)
                · skip
                  go_simp
                  refine (hOwV.out X3 hb9).mono ?_
                  rintro e X4 ⟨v75, rfl, own75, hbel⟩
                  have hx75 : ∀ g, v75.ownBlock = some g → X3.heap.size ≤ g ∧ g < X4.heap.size := fun g e => own75.lt _ e
                  replace own75 := ownsRow_mono own75 hb9.size
                  have szX4 := hbel.size
                  try replace n4 := n4.below hbel
                  try replace n15 := n15.below hbel
                  try replace own70 := ownsRow_below own70 hbel
                  try replace own73 := ownsRow_below own73 hbel
                  try replace own75 := ownsRow_below own75 hbel
                  try replace own84 := ownsRow_below own84 hbel
                  replace hb9 := hb9.trans (hbel.mono hb9.size)
                  clear hbel
                  have sbX4 := hb9.size
                  refine hK _ _ (hSb.out _ hb9) ?_
                  clear hK K
                  try simp only [Act.put, List.setIfInBounds_toArray, List.set_cons_zero, List.set_cons_succ]
                  refine held_one (i := 15) (by kernel_rfl) rfl rfl (fun K hK => ?_)
                  go_simp
                  have n15 := Blk.new X4 3 #[.int .i64 x]
                  have hbel := (Below.refl X4.heap.size X4).alloc (Nat.le_refl _) (.cells #[.int .i64 x] 3)
                  have su15 : X4.heap.size < (X4.alloc (.cells #[.int .i64 x] 3)).heap.size := by rw [World.size_alloc]; omega
                  have szX5 := hbel.size
                  try replace n4 := n4.below hbel
                  try replace n15 := n15.below hbel
                  try replace own70 := ownsRow_below own70 hbel
                  try replace own73 := ownsRow_below own73 hbel
                  try replace own75 := ownsRow_below own75 hbel
                  try replace own84 := ownsRow_below own84 hbel
                  replace hb9 := hb9.trans (hbel.mono hb9.size)
                  clear hbel
                  have sbX5 := hb9.size
                  refine hK _ _ (hSb.out _ hb9) ?_
                  clear hK K
                  try simp only [Act.put, List.setIfInBounds_toArray, List.set_cons_zero, List.set_cons_succ]
                  generalize X4.alloc (.cells #[.int .i64 x] 3) = X5 at *
                  generalize X4.heap.size = g15 at *
                  refine held_one (i := 16) (by kernel_rfl) rfl rfl (fun K hK => ?_)
                  refine wp_append_lies _ _ _ 31 (by rfl) wr.heap.size 3 i0 (.int .i64 0) 1 8 Tryz.underlying31 hi0 hz0 hz1 hz2 rfl (by omega) v75 m ((speedsOf ch plan).map (.int .i64 ·)) (by rfl) own75 ⟨g15, 0, none⟩ 1 1 [.int .i64 x] (by rfl) rfl (World.news_of_block (cs := #[.int .i64 x]) n15) (by simp [Value.oneCell']) (by omega) hbig1.out hbig2.out hb9.size X5.heap.size rfl ?_
                  intro g84 c84 X6 own84 hgrow hlies hlt
                  have hbx : Below wr.heap.size X5 X6 := ⟨hgrow.os, hgrow.tape, hgrow.output, hgrow.size, fun b hb2 => hgrow.block b (Nat.lt_of_lt_of_le hb2 hb9.size) (fun e => by have := hx75 _ e.symm; omega)⟩
                  replace own73 := own73.kept hgrow (.inr (fun e => by have := hx75 g73 e.symm; omega))
                  have szX6 := hgrow.size
                  replace hb9 := hb9.trans hbx
                  clear hbx hgrow hlies hlt own75
                  have sbX6 := hb9.size
                  refine hK _ _ (hSb.out _ hb9) ?_
                  clear hK K
                  try simp only [Act.put, List.setIfInBounds_toArray, List.set_cons_zero, List.set_cons_succ]
                  refine held_one (i := 17) (by kernel_rfl) rfl rfl (fun K hK => ?_)
                  go_simp
                  have r1 := SlAt.own (enc := ivs) own73 (by omega) (plan ++ [(k : Int)]) (by rw [flatMap_ivs, List.map_append]; rfl) (fun _ => rfl) (by rw [List.length_append, hm]; rfl)
                  have r2 := SlAt.own (enc := ivs) own84 (by omega) (speedsOf ch plan ++ [x]) (by rw [flatMap_ivs, List.map_append]; rfl) (fun _ => rfl) (by rw [List.length_append, hsl.out]; rfl)
                  refine (hT.out X6 _ _ _ _ hb9 r1 r2).mono ?_
                  rintro e X7 ⟨rfl, ha1, ha2⟩
                  refine hK _ _ (hSa.out _ _ _ hb9 ha1 ha2) ?_
                  clear hK K
                  try simp only [Act.put, List.setIfInBounds_toArray, List.set_cons_zero, List.set_cons_succ]
                  refine wpAnyH_done (by kernel_rfl) (hrest (_, _, _, _, _, _) _ ⟨ha1, (Apart.of hb9 (Nat.le_of_lt hgr)).trans ha2⟩) _
                · skip
                  go_simp
                  have n15 := Blk.new X3 3 #[.int .i64 x]
                  have hbel := (Below.refl X3.heap.size X3).alloc (Nat.le_refl _) (.cells #[.int .i64 x] 3)
                  have su15 : X3.heap.size < (X3.alloc (.cells #[.int .i64 x] 3)).heap.size := by rw [World.size_alloc]; omega
                  have szX8 := hbel.size
                  try replace n4 := n4.below hbel
                  try replace n15 := n15.below hbel
                  try replace own70 := ownsRow_below own70 hbel
                  try replace own73 := ownsRow_below own73 hbel
                  try replace own75 := ownsRow_below own75 hbel
                  try replace own84 := ownsRow_below own84 hbel
                  replace hb9 := hb9.trans (hbel.mono hb9.size)
                  clear hbel
                  have sbX8 := hb9.size
                  refine hK _ _ (hSb.out _ hb9) ?_
                  clear hK K
                  try simp only [Act.put, List.setIfInBounds_toArray, List.set_cons_zero, List.set_cons_succ]
                  generalize X3.alloc (.cells #[.int .i64 x] 3) = X8 at *
                  generalize X3.heap.size = g15 at *
                  refine held_one (i := 7) (by kernel_rfl) rfl rfl (fun K hK => ?_)
                  go_simp
                  refine (hOwV.out X8 hb9).mono ?_
                  rintro e X9 ⟨v75, rfl, own75, hbel⟩
                  have hx75 : ∀ g, v75.ownBlock = some g → X8.heap.size ≤ g ∧ g < X9.heap.size := fun g e => own75.lt _ e
                  replace own75 := ownsRow_mono own75 hb9.size
                  have szX9 := hbel.size
                  try replace n4 := n4.below hbel
                  try replace n15 := n15.below hbel
                  try replace own70 := ownsRow_below own70 hbel
                  try replace own73 := ownsRow_below own73 hbel
                  try replace own75 := ownsRow_below own75 hbel
                  try replace own84 := ownsRow_below own84 hbel
                  replace hb9 := hb9.trans (hbel.mono hb9.size)
                  clear hbel
                  have sbX9 := hb9.size
                  refine hK _ _ (hSb.out _ hb9) ?_
                  clear hK K
                  try simp only [Act.put, List.setIfInBounds_toArray, List.set_cons_zero, List.set_cons_succ]
                  refine held_one (i := 16) (by kernel_rfl) rfl rfl (fun K hK => ?_)
                  refine wp_append_lies _ _ _ 31 (by rfl) wr.heap.size 3 i0 (.int .i64 0) 1 8 Tryz.underlying31 hi0 hz0 hz1 hz2 rfl (by omega) v75 m ((speedsOf ch plan).map (.int .i64 ·)) (by rfl) own75 ⟨g15, 0, none⟩ 1 1 [.int .i64 x] (by rfl) rfl (World.news_of_block (cs := #[.int .i64 x]) n15) (by simp [Value.oneCell']) (by omega) hbig1.out hbig2.out hb9.size X9.heap.size rfl ?_
                  intro g84 c84 X10 own84 hgrow hlies hlt
                  have hbx : Below wr.heap.size X9 X10 := ⟨hgrow.os, hgrow.tape, hgrow.output, hgrow.size, fun b hb2 => hgrow.block b (Nat.lt_of_lt_of_le hb2 hb9.size) (fun e => by have := hx75 _ e.symm; omega)⟩
                  replace own73 := own73.kept hgrow (.inr (fun e => by have := hx75 g73 e.symm; omega))
                  have szX10 := hgrow.size
                  replace hb9 := hb9.trans hbx
                  clear hbx hgrow hlies hlt own75
                  have sbX10 := hb9.size
                  refine hK _ _ (hSb.out _ hb9) ?_
                  clear hK K
                  try simp only [Act.put, List.setIfInBounds_toArray, List.set_cons_zero, List.set_cons_succ]
                  refine held_one (i := 17) (by kernel_rfl) rfl rfl (fun K hK => ?_)
                  go_simp
                  have r1 := SlAt.own (enc := ivs) own73 (by omega) (plan ++ [(k : Int)]) (by rw [flatMap_ivs, List.map_append]; rfl) (fun _ => rfl) (by rw [List.length_append, hm]; rfl)
                  have r2 := SlAt.own (enc := ivs) own84 (by omega) (speedsOf ch plan ++ [x]) (by rw [flatMap_ivs, List.map_append]; rfl) (fun _ => rfl) (by rw [List.length_append, hsl.out]; rfl)
                  refine (hT.out X10 _ _ _ _ hb9 r1 r2).mono ?_
                  rintro e X11 ⟨rfl, ha1, ha2⟩
                  refine hK _ _ (hSa.out _ _ _ hb9 ha1 ha2) ?_
                  clear hK K
                  try simp only [Act.put, List.setIfInBounds_toArray, List.set_cons_zero, List.set_cons_succ]
                  refine wpAnyH_done (by kernel_rfl) (hrest (_, _, _, _, _, _) _ ⟨ha1, (Apart.of hb9 (Nat.le_of_lt hgr)).trans ha2⟩) _
              · skip
                go_simp
                have n15 := Blk.new X2 3 #[.int .i64 x]
                have hbel := (Below.refl X2.heap.size X2).alloc (Nat.le_refl _) (.cells #[.int .i64 x] 3)
                have su15 : X2.heap.size < (X2.alloc (.cells #[.int .i64 x] 3)).heap.size := by rw [World.size_alloc]; omega
                have szX12 := hbel.size
                try replace n4 := n4.below hbel
                try replace n15 := n15.below hbel
                try replace own70 := ownsRow_below own70 hbel
                try replace own73 := ownsRow_below own73 hbel
                try replace own75 := ownsRow_below own75 hbel
                try replace own84 := ownsRow_below own84 hbel
                replace hb9 := hb9.trans (hbel.mono hb9.size)
                clear hbel
                have sbX12 := hb9.size
                refine hK _ _ (hSb.out _ hb9) ?_
                clear hK K
                try simp only [Act.put, List.setIfInBounds_toArray, List.set_cons_zero, List.set_cons_succ]
                generalize X2.alloc (.cells #[.int .i64 x] 3) = X12 at *
                generalize X2.heap.size = g15 at *
                refine held_one (i := 5) (by kernel_rfl) rfl rfl (fun K hK => ?_)
                refine wp_append_lies _ _ _ 31 (by rfl) wr.heap.size 3 i0 (.int .i64 0) 1 8 Tryz.underlying31 hi0 hz0 hz1 hz2 rfl (by omega) v70 m (plan.map (.int .i64 ·)) (by rfl) own70 ⟨g4, 0, none⟩ 1 1 [.int .i64 (k : Int)] (by rfl) rfl (World.news_of_block (cs := #[.int .i64 (k : Int)]) n4) (by simp [Value.oneCell']) (by omega) hbig1.out hbig2.out hb9.size X12.heap.size rfl ?_
                intro g73 c73 X13 own73 hgrow hlies hlt
                have hbx : Below wr.heap.size X12 X13 := ⟨hgrow.os, hgrow.tape, hgrow.output, hgrow.size, fun b hb2 => hgrow.block b (Nat.lt_of_lt_of_le hb2 hb9.size) (fun e => by have := hx70 _ e.symm; omega)⟩
                try (replace n15 := n15.grown hgrow (fun e => by have := hx70 _ e.symm; omega))
                have szX13 := hgrow.size
                replace hb9 := hb9.trans hbx
                clear hbx hgrow hlies hlt own70
                have sbX13 := hb9.size
                refine hK _ _ (hSb.out _ hb9) ?_
                clear hK K
                try simp only [Act.put, List.setIfInBounds_toArray, List.set_cons_zero, List.set_cons_succ]
                have hy73 := own73.lt g73 rfl
                refine held_one (i := 7) (by kernel_rfl) rfl rfl (fun K hK => ?_)
                go_simp
                refine (hOwV.out X13 hb9).mono ?_
                rintro e X14 ⟨v75, rfl, own75, hbel⟩
                have hx75 : ∀ g, v75.ownBlock = some g → X13.heap.size ≤ g ∧ g < X14.heap.size := fun g e => own75.lt _ e
                replace own75 := ownsRow_mono own75 hb9.size
                have szX14 := hbel.size
                try replace n4 := n4.below hbel
                try replace n15 := n15.below hbel
                try replace own70 := ownsRow_below own70 hbel
                try replace own73 := ownsRow_below own73 hbel
                try replace own75 := ownsRow_below own75 hbel
                try replace own84 := ownsRow_below own84 hbel
                replace hb9 := hb9.trans (hbel.mono hb9.size)
                clear hbel
                have sbX14 := hb9.size
                refine hK _ _ (hSb.out _ hb9) ?_
                clear hK K
                try simp only [Act.put, List.setIfInBounds_toArray, List.set_cons_zero, List.set_cons_succ]
                refine held_one (i := 16) (by kernel_rfl) rfl rfl (fun K hK => ?_)
                refine wp_append_lies _ _ _ 31 (by rfl) wr.heap.size 3 i0 (.int .i64 0) 1 8 Tryz.underlying31 hi0 hz0 hz1 hz2 rfl (by omega) v75 m ((speedsOf ch plan).map (.int .i64 ·)) (by rfl) own75 ⟨g15, 0, none⟩ 1 1 [.int .i64 x] (by rfl) rfl (World.news_of_block (cs := #[.int .i64 x]) n15) (by simp [Value.oneCell']) (by omega) hbig1.out hbig2.out hb9.size X14.heap.size rfl ?_
                intro g84 c84 X15 own84 hgrow hlies hlt
                have hbx : Below wr.heap.size X14 X15 := ⟨hgrow.os, hgrow.tape, hgrow.output, hgrow.size, fun b hb2 => hgrow.block b (Nat.lt_of_lt_of_le hb2 hb9.size) (fun e => by have := hx75 _ e.symm; omega)⟩
                replace own73 := own73.kept hgrow (.inr (fun e => by have := hx75 g73 e.symm; omega))
                have szX15 := hgrow.size
                replace hb9 := hb9.trans hbx
                clear hbx hgrow hlies hlt own75
                have sbX15 := hb9.size
                refine hK _ _ (hSb.out _ hb9) ?_
                clear hK K
                try simp only [Act.put, List.setIfInBounds_toArray, List.set_cons_zero, List.set_cons_succ]
                refine held_one (i := 17) (by kernel_rfl) rfl rfl (fun K hK => ?_)
                go_simp
                have r1 := SlAt.own (enc := ivs) own73 (by omega) (plan ++ [(k : Int)]) (by rw [flatMap_ivs, List.map_append]; rfl) (fun _ => rfl) (by rw [List.length_append, hm]; rfl)
                have r2 := SlAt.own (enc := ivs) own84 (by omega) (speedsOf ch plan ++ [x]) (by rw [flatMap_ivs, List.map_append]; rfl) (fun _ => rfl) (by rw [List.length_append, hsl.out]; rfl)
                refine (hT.out X15 _ _ _ _ hb9 r1 r2).mono ?_
                rintro e X16 ⟨rfl, ha1, ha2⟩
                refine hK _ _ (hSa.out _ _ _ hb9 ha1 ha2) ?_
                clear hK K
                try simp only [Act.put, List.setIfInBounds_toArray, List.set_cons_zero, List.set_cons_succ]
                refine wpAnyH_done (by kernel_rfl) (hrest (_, _, _, _, _, _) _ ⟨ha1, (Apart.of hb9 (Nat.le_of_lt hgr)).trans ha2⟩) _
            · skip
              go_simp
              have n15 := Blk.new X1 3 #[.int .i64 x]
              have hbel := (Below.refl X1.heap.size X1).alloc (Nat.le_refl _) (.cells #[.int .i64 x] 3)
              have su15 : X1.heap.size < (X1.alloc (.cells #[.int .i64 x] 3)).heap.size := by rw [World.size_alloc]; omega
              have szX17 := hbel.size
              try replace n4 := n4.below hbel
              try replace n15 := n15.below hbel
              try replace own70 := ownsRow_below own70 hbel
              try replace own73 := ownsRow_below own73 hbel
              try replace own75 := ownsRow_below own75 hbel
              try replace own84 := ownsRow_below own84 hbel
              replace hb9 := hb9.trans (hbel.mono hb9.size)
              clear hbel
              have sbX17 := hb9.size
              refine hK _ _ (hSb.out _ hb9) ?_
              clear hK K
              try simp only [Act.put, List.setIfInBounds_toArray, List.set_cons_zero, List.set_cons_succ]
              generalize X1.alloc (.cells #[.int .i64 x] 3) = X17 at *
              generalize X1.heap.size = g15 at *
              refine held_one (i := 4) (by kernel_rfl) rfl rfl (fun K hK => ?_)
              go_simp
              have n4 := Blk.new X17 3 #[.int .i64 (k : Int)]
              have hbel := (Below.refl X17.heap.size X17).alloc (Nat.le_refl _) (.cells #[.int .i64 (k : Int)] 3)
              have su4 : X17.heap.size < (X17.alloc (.cells #[.int .i64 (k : Int)] 3)).heap.size := by rw [World.size_alloc]; omega
              have szX18 := hbel.size
              try replace n4 := n4.below hbel
              try replace n15 := n15.below hbel
              try replace own70 := ownsRow_below own70 hbel
              try replace own73 := ownsRow_below own73 hbel
              try replace own75 := ownsRow_below own75 hbel
              try replace own84 := ownsRow_below own84 hbel
              replace hb9 := hb9.trans (hbel.mono hb9.size)
              clear hbel
              have sbX18 := hb9.size
              refine hK _ _ (hSb.out _ hb9) ?_
              clear hK K
              try simp only [Act.put, List.setIfInBounds_toArray, List.set_cons_zero, List.set_cons_succ]
              generalize X17.alloc (.cells #[.int .i64 (k : Int)] 3) = X18 at *
              generalize X17.heap.size = g4 at *
              refine held_one (i := 5) (by kernel_rfl) rfl rfl (fun K hK => ?_)
              refine wp_append_lies _ _ _ 31 (by rfl) wr.heap.size 3 i0 (.int .i64 0) 1 8 Tryz.underlying31 hi0 hz0 hz1 hz2 rfl (by omega) v70 m (plan.map (.int .i64 ·)) (by rfl) own70 ⟨g4, 0, none⟩ 1 1 [.int .i64 (k : Int)] (by rfl) rfl (World.news_of_block (cs := #[.int .i64 (k : Int)]) n4) (by simp [Value.oneCell']) (by omega) hbig1.out hbig2.out hb9.size X18.heap.size rfl ?_
              intro g73 c73 X19 own73 hgrow hlies hlt
              have hbx : Below wr.heap.size X18 X19 := ⟨hgrow.os, hgrow.tape, hgrow.output, hgrow.size, fun b hb2 => hgrow.block b (Nat.lt_of_lt_of_le hb2 hb9.size) (fun e => by have := hx70 _ e.symm; omega)⟩
              try (replace n15 := n15.grown hgrow (fun e => by have := hx70 _ e.symm; omega))
              have szX19 := hgrow.size
              replace hb9 := hb9.trans hbx
              clear hbx hgrow hlies hlt own70
              have sbX19 := hb9.size
              refine hK _ _ (hSb.out _ hb9) ?_
              clear hK K
              try simp only [Act.put, List.setIfInBounds_toArray, List.set_cons_zero, List.set_cons_succ]
              have hy73 := own73.lt g73 rfl
              refine held_one (i := 7) (by kernel_rfl) rfl rfl (fun K hK => ?_)
              go_simp
              refine (hOwV.out X19 hb9).mono ?_
              rintro e X20 ⟨v75, rfl, own75, hbel⟩
              have hx75 : ∀ g, v75.ownBlock = some g → X19.heap.size ≤ g ∧ g < X20.heap.size := fun g e => own75.lt _ e
              replace own75 := ownsRow_mono own75 hb9.size
              have szX20 := hbel.size
              try replace n4 := n4.below hbel
              try replace n15 := n15.below hbel
              try replace own70 := ownsRow_below own70 hbel
              try replace own73 := ownsRow_below own73 hbel
              try replace own75 := ownsRow_below own75 hbel
              try replace own84 := ownsRow_below own84 hbel
              replace hb9 := hb9.trans (hbel.mono hb9.size)
              clear hbel
              have sbX20 := hb9.size
              refine hK _ _ (hSb.out _ hb9) ?_
              clear hK K
              try simp only [Act.put, List.setIfInBounds_toArray, List.set_cons_zero, List.set_cons_succ]
              refine held_one (i := 16) (by kernel_rfl) rfl rfl (fun K hK => ?_)
              refine wp_append_lies _ _ _ 31 (by rfl) wr.heap.size 3 i0 (.int .i64 0) 1 8 Tryz.underlying31 hi0 hz0 hz1 hz2 rfl (by omega) v75 m ((speedsOf ch plan).map (.int .i64 ·)) (by rfl) own75 ⟨g15, 0, none⟩ 1 1 [.int .i64 x] (by rfl) rfl (World.news_of_block (cs := #[.int .i64 x]) n15) (by simp [Value.oneCell']) (by omega) hbig1.out hbig2.out hb9.size X20.heap.size rfl ?_
              intro g84 c84 X21 own84 hgrow hlies hlt
              have hbx : Below wr.heap.size X20 X21 := ⟨hgrow.os, hgrow.tape, hgrow.output, hgrow.size, fun b hb2 => hgrow.block b (Nat.lt_of_lt_of_le hb2 hb9.size) (fun e => by have := hx75 _ e.symm; omega)⟩
              replace own73 := own73.kept hgrow (.inr (fun e => by have := hx75 g73 e.symm; omega))
              have szX21 := hgrow.size
              replace hb9 := hb9.trans hbx
              clear hbx hgrow hlies hlt own75
              have sbX21 := hb9.size
              refine hK _ _ (hSb.out _ hb9) ?_
              clear hK K
              try simp only [Act.put, List.setIfInBounds_toArray, List.set_cons_zero, List.set_cons_succ]
              refine held_one (i := 17) (by kernel_rfl) rfl rfl (fun K hK => ?_)
              go_simp
              have r1 := SlAt.own (enc := ivs) own73 (by omega) (plan ++ [(k : Int)]) (by rw [flatMap_ivs, List.map_append]; rfl) (fun _ => rfl) (by rw [List.length_append, hm]; rfl)
              have r2 := SlAt.own (enc := ivs) own84 (by omega) (speedsOf ch plan ++ [x]) (by rw [flatMap_ivs, List.map_append]; rfl) (fun _ => rfl) (by rw [List.length_append, hsl.out]; rfl)
              refine (hT.out X21 _ _ _ _ hb9 r1 r2).mono ?_
              rintro e X22 ⟨rfl, ha1, ha2⟩
              refine hK _ _ (hSa.out _ _ _ hb9 ha1 ha2) ?_
              clear hK K
              try simp only [Act.put, List.setIfInBounds_toArray, List.set_cons_zero, List.set_cons_succ]
              refine wpAnyH_done (by kernel_rfl) (hrest (_, _, _, _, _, _) _ ⟨ha1, (Apart.of hb9 (Nat.le_of_lt hgr)).trans ha2⟩) _
          · skip
            go_simp
            have n4 := Blk.new wd 3 #[.int .i64 (k : Int)]
            have hbel := (Below.refl wd.heap.size wd).alloc (Nat.le_refl _) (.cells #[.int .i64 (k : Int)] 3)
            have su4 : wd.heap.size < (wd.alloc (.cells #[.int .i64 (k : Int)] 3)).heap.size := by rw [World.size_alloc]; omega
            have szX23 := hbel.size
            try replace n4 := n4.below hbel
            try replace n15 := n15.below hbel
            try replace own70 := ownsRow_below own70 hbel
            try replace own73 := ownsRow_below own73 hbel
            try replace own75 := ownsRow_below own75 hbel
            try replace own84 := ownsRow_below own84 hbel
            replace hb9 := hb9.trans (hbel.mono hb9.size)
            clear hbel
            have sbX23 := hb9.size
            refine hK _ _ (hSb.out _ hb9) ?_
            clear hK K
            try simp only [Act.put, List.setIfInBounds_toArray, List.set_cons_zero, List.set_cons_succ]
            generalize wd.alloc (.cells #[.int .i64 (k : Int)] 3) = X23 at *
            generalize wd.heap.size = g4 at *
            refine held_two (i := 2) (j := 15) (by kernel_rfl) rfl rfl rfl rfl (fun K hK => ?_) (fun K hK => ?_)
            · skip
              go_simp
              refine (hOwP.out X23 hb9).mono ?_
              rintro e X24 ⟨v70, rfl, own70, hbel⟩
              have hx70 : ∀ g, v70.ownBlock = some g → X23.heap.size ≤ g ∧ g < X24.heap.size := fun g e => own70.lt _ e
              replace own70 := ownsRow_mono own70 hb9.size
              have szX24 := hbel.size
              try replace n4 := n4.below hbel
              try replace n15 := n15.below hbel
              try replace own70 := ownsRow_below own70 hbel
              try replace own73 := ownsRow_below own73 hbel
              try replace own75 := ownsRow_below own75 hbel
              try replace own84 := ownsRow_below own84 hbel
              replace hb9 := hb9.trans (hbel.mono hb9.size)
              clear hbel
              have sbX24 := hb9.size
              refine hK _ _ (hSb.out _ hb9) ?_
              clear hK K
              try simp only [Act.put, List.setIfInBounds_toArray, List.set_cons_zero, List.set_cons_succ]
              refine held_two (i := 5) (j := 15) (by kernel_rfl) rfl rfl rfl rfl (fun K hK => ?_) (fun K hK => ?_)
              · skip
                refine wp_append_lies _ _ _ 31 (by rfl) wr.heap.size 3 i0 (.int .i64 0) 1 8 Tryz.underlying31 hi0 hz0 hz1 hz2 rfl (by omega) v70 m (plan.map (.int .i64 ·)) (by rfl) own70 ⟨g4, 0, none⟩ 1 1 [.int .i64 (k : Int)] (by rfl) rfl (World.news_of_block (cs := #[.int .i64 (k : Int)]) n4) (by simp [Value.oneCell']) (by omega) hbig1.out hbig2.out hb9.size X24.heap.size rfl ?_
                intro g73 c73 X25 own73 hgrow hlies hlt
                have hbx : Below wr.heap.size X24 X25 := ⟨hgrow.os, hgrow.tape, hgrow.output, hgrow.size, fun b hb2 => hgrow.block b (Nat.lt_of_lt_of_le hb2 hb9.size) (fun e => by have := hx70 _ e.symm; omega)⟩
                try (replace n15 := n15.grown hgrow (fun e => by have := hx70 _ e.symm; omega))
                have szX25 := hgrow.size
                replace hb9 := hb9.trans hbx
                clear hbx hgrow hlies hlt own70
                have sbX25 := hb9.size
                refine hK _ _ (hSb.out _ hb9) ?_
                clear hK K
                try simp only [Act.put, List.setIfInBounds_toArray, List.set_cons_zero, List.set_cons_succ]
                have hy73 := own73.lt g73 rfl
                refine held_two (i := 7) (j := 15) (by kernel_rfl) rfl rfl rfl rfl (fun K hK => ?_) (fun K hK => ?_)
                · skip
                  go_simp
                  refine (hOwV.out X25 hb9).mono ?_
                  rintro e X26 ⟨v75, rfl, own75, hbel⟩
                  have hx75 : ∀ g, v75.ownBlock = some g → X25.heap.size ≤ g ∧ g < X26.heap.size := fun g e => own75.lt _ e
                  replace own75 := ownsRow_mono own75 hb9.size
                  have szX26 := hbel.size
                  try replace n4 := n4.below hbel
                  try replace n15 := n15.below hbel
                  try replace own70 := ownsRow_below own70 hbel
                  try replace own73 := ownsRow_below own73 hbel
                  try replace own75 := ownsRow_below own75 hbel
                  try replace own84 := ownsRow_below own84 hbel
                  replace hb9 := hb9.trans (hbel.mono hb9.size)
                  clear hbel
                  have sbX26 := hb9.size
                  refine hK _ _ (hSb.out _ hb9) ?_
                  clear hK K
                  try simp only [Act.put, List.setIfInBounds_toArray, List.set_cons_zero, List.set_cons_succ]
                  refine held_one (i := 15) (by kernel_rfl) rfl rfl (fun K hK => ?_)
                  go_simp
                  have n15 := Blk.new X26 3 #[.int .i64 x]
                  have hbel := (Below.refl X26.heap.size X26).alloc (Nat.le_refl _) (.cells #[.int .i64 x] 3)
                  have su15 : X26.heap.size < (X26.alloc (.cells #[.int .i64 x] 3)).heap.size := by rw [World.size_alloc]; omega
                  have szX27 := hbel.size
                  try replace n4 := n4.below hbel
                  try replace n15 := n15.below hbel
                  try replace own70 := ownsRow_below own70 hbel
                  try replace own73 := ownsRow_below own73 hbel
                  try replace own75 := ownsRow_below own75 hbel
                  try replace own84 := ownsRow_below own84 hbel
                  replace hb9 := hb9.trans (hbel.mono hb9.size)
                  clear hbel
                  have sbX27 := hb9.size
                  refine hK _ _ (hSb.out _ hb9) ?_
                  clear hK K
                  try simp only [Act.put, List.setIfInBounds_toArray, List.set_cons_zero, List.set_cons_succ]
                  generalize X26.alloc (.cells #[.int .i64 x] 3) = X27 at *
                  generalize X26.heap.size = g15 at *
                  refine held_one (i := 16) (by kernel_rfl) rfl rfl (fun K hK => ?_)
                  refine wp_append_lies _ _ _ 31 (by rfl) wr.heap.size 3 i0 (.int .i64 0) 1 8 Tryz.underlying31 hi0 hz0 hz1 hz2 rfl (by omega) v75 m ((speedsOf ch plan).map (.int .i64 ·)) (by rfl) own75 ⟨g15, 0, none⟩ 1 1 [.int .i64 x] (by rfl) rfl (World.news_of_block (cs := #[.int .i64 x]) n15) (by simp [Value.oneCell']) (by omega) hbig1.out hbig2.out hb9.size X27.heap.size rfl ?_
                  intro g84 c84 X28 own84 hgrow hlies hlt
                  have hbx : Below wr.heap.size X27 X28 := ⟨hgrow.os, hgrow.tape, hgrow.output, hgrow.size, fun b hb2 => hgrow.block b (Nat.lt_of_lt_of_le hb2 hb9.size) (fun e => by have := hx75 _ e.symm; omega)⟩
                  replace own73 := own73.kept hgrow (.inr (fun e => by have := hx75 g73 e.symm; omega))
                  have szX28 := hgrow.size
                  replace hb9 := hb9.trans hbx
                  clear hbx hgrow hlies hlt own75
                  have sbX28 := hb9.size
                  refine hK _ _ (hSb.out _ hb9) ?_
                  clear hK K
                  try simp only [Act.put, List.setIfInBounds_toArray, List.set_cons_zero, List.set_cons_succ]
                  refine held_one (i := 17) (by kernel_rfl) rfl rfl (fun K hK => ?_)
                  go_simp
                  have r1 := SlAt.own (enc := ivs) own73 (by omega) (plan ++ [(k : Int)]) (by rw [flatMap_ivs, List.map_append]; rfl) (fun _ => rfl) (by rw [List.length_append, hm]; rfl)
                  have r2 := SlAt.own (enc := ivs) own84 (by omega) (speedsOf ch plan ++ [x]) (by rw [flatMap_ivs, List.map_append]; rfl) (fun _ => rfl) (by rw [List.length_append, hsl.out]; rfl)
                  refine (hT.out X28 _ _ _ _ hb9 r1 r2).mono ?_
                  rintro e X29 ⟨rfl, ha1, ha2⟩
                  refine hK _ _ (hSa.out _ _ _ hb9 ha1 ha2) ?_
                  clear hK K
                  try simp only [Act.put, List.setIfInBounds_toArray, List.set_cons_zero, List.set_cons_succ]
                  refine wpAnyH_done (by kernel_rfl) (hrest (_, _, _, _, _, _) _ ⟨ha1, (Apart.of hb9 (Nat.le_of_lt hgr)).trans ha2⟩) _
                · skip
                  go_simp
                  have n15 := Blk.new X25 3 #[.int .i64 x]
                  have hbel := (Below.refl X25.heap.size X25).alloc (Nat.le_refl _) (.cells #[.int .i64 x] 3)
                  have su15 : X25.heap.size < (X25.alloc (.cells #[.int .i64 x] 3)).heap.size := by rw [World.size_alloc]; omega
                  have szX30 := hbel.size
                  try replace n4 := n4.below hbel
                  try replace n15 := n15.below hbel
                  try replace own70 := ownsRow_below own70 hbel
                  try replace own73 := ownsRow_below own73 hbel
                  try replace own75 := ownsRow_below own75 hbel
                  try replace own84 := ownsRow_below own84 hbel
                  replace hb9 := hb9.trans (hbel.mono hb9.size)
                  clear hbel
                  have sbX30 := hb9.size
                  refine hK _ _ (hSb.out _ hb9) ?_
                  clear hK K
                  try simp only [Act.put, List.setIfInBounds_toArray, List.set_cons_zero, List.set_cons_succ]
                  generalize X25.alloc (.cells #[.int .i64 x] 3) = X30 at *
                  generalize X25.heap.size = g15 at *
                  refine held_one (i := 7) (by kernel_rfl) rfl rfl (fun K hK => ?_)
                  go_simp
                  refine (hOwV.out X30 hb9).mono ?_
                  rintro e X31 ⟨v75, rfl, own75, hbel⟩
                  have hx75 : ∀ g, v75.ownBlock = some g → X30.heap.size ≤ g ∧ g < X31.heap.size := fun g e => own75.lt _ e
                  replace own75 := ownsRow_mono own75 hb9.size
                  have szX31 := hbel.size
                  try replace n4 := n4.below hbel
                  try replace n15 := n15.below hbel
                  try replace own70 := ownsRow_below own70 hbel
                  try replace own73 := ownsRow_below own73 hbel
                  try replace own75 := ownsRow_below own75 hbel
                  try replace own84 := ownsRow_below own84 hbel
                  replace hb9 := hb9.trans (hbel.mono hb9.size)
                  clear hbel
                  have sbX31 := hb9.size
                  refine hK _ _ (hSb.out _ hb9) ?_
                  clear hK K
                  try simp only [Act.put, List.setIfInBounds_toArray, List.set_cons_zero, List.set_cons_succ]
                  refine held_one (i := 16) (by kernel_rfl) rfl rfl (fun K hK => ?_)
                  refine wp_append_lies _ _ _ 31 (by rfl) wr.heap.size 3 i0 (.int .i64 0) 1 8 Tryz.underlying31 hi0 hz0 hz1 hz2 rfl (by omega) v75 m ((speedsOf ch plan).map (.int .i64 ·)) (by rfl) own75 ⟨g15, 0, none⟩ 1 1 [.int .i64 x] (by rfl) rfl (World.news_of_block (cs := #[.int .i64 x]) n15) (by simp [Value.oneCell']) (by omega) hbig1.out hbig2.out hb9.size X31.heap.size rfl ?_
                  intro g84 c84 X32 own84 hgrow hlies hlt
                  have hbx : Below wr.heap.size X31 X32 := ⟨hgrow.os, hgrow.tape, hgrow.output, hgrow.size, fun b hb2 => hgrow.block b (Nat.lt_of_lt_of_le hb2 hb9.size) (fun e => by have := hx75 _ e.symm; omega)⟩
                  replace own73 := own73.kept hgrow (.inr (fun e => by have := hx75 g73 e.symm; omega))
                  have szX32 := hgrow.size
                  replace hb9 := hb9.trans hbx
                  clear hbx hgrow hlies hlt own75
                  have sbX32 := hb9.size
                  refine hK _ _ (hSb.out _ hb9) ?_
                  clear hK K
                  try simp only [Act.put, List.setIfInBounds_toArray, List.set_cons_zero, List.set_cons_succ]
                  refine held_one (i := 17) (by kernel_rfl) rfl rfl (fun K hK => ?_)
                  go_simp
                  have r1 := SlAt.own (enc := ivs) own73 (by omega) (plan ++ [(k : Int)]) (by rw [flatMap_ivs, List.map_append]; rfl) (fun _ => rfl) (by rw [List.length_append, hm]; rfl)
                  have r2 := SlAt.own (enc := ivs) own84 (by omega) (speedsOf ch plan ++ [x]) (by rw [flatMap_ivs, List.map_append]; rfl) (fun _ => rfl) (by rw [List.length_append, hsl.out]; rfl)
                  refine (hT.out X32 _ _ _ _ hb9 r1 r2).mono ?_
                  rintro e X33 ⟨rfl, ha1, ha2⟩
                  refine hK _ _ (hSa.out _ _ _ hb9 ha1 ha2) ?_
                  clear hK K
                  try simp only [Act.put, List.setIfInBounds_toArray, List.set_cons_zero, List.set_cons_succ]
                  refine wpAnyH_done (by kernel_rfl) (hrest (_, _, _, _, _, _) _ ⟨ha1, (Apart.of hb9 (Nat.le_of_lt hgr)).trans ha2⟩) _
              · skip
                go_simp
                have n15 := Blk.new X24 3 #[.int .i64 x]
                have hbel := (Below.refl X24.heap.size X24).alloc (Nat.le_refl _) (.cells #[.int .i64 x] 3)
                have su15 : X24.heap.size < (X24.alloc (.cells #[.int .i64 x] 3)).heap.size := by rw [World.size_alloc]; omega
                have szX34 := hbel.size
                try replace n4 := n4.below hbel
                try replace n15 := n15.below hbel
                try replace own70 := ownsRow_below own70 hbel
                try replace own73 := ownsRow_below own73 hbel
                try replace own75 := ownsRow_below own75 hbel
                try replace own84 := ownsRow_below own84 hbel
                replace hb9 := hb9.trans (hbel.mono hb9.size)
                clear hbel
                have sbX34 := hb9.size
                refine hK _ _ (hSb.out _ hb9) ?_
                clear hK K
                try simp only [Act.put, List.setIfInBounds_toArray, List.set_cons_zero, List.set_cons_succ]
                generalize X24.alloc (.cells #[.int .i64 x] 3) = X34 at *
                generalize X24.heap.size = g15 at *
                refine held_one (i := 5) (by kernel_rfl) rfl rfl (fun K hK => ?_)
                refine wp_append_lies _ _ _ 31 (by rfl) wr.heap.size 3 i0 (.int .i64 0) 1 8 Tryz.underlying31 hi0 hz0 hz1 hz2 rfl (by omega) v70 m (plan.map (.int .i64 ·)) (by rfl) own70 ⟨g4, 0, none⟩ 1 1 [.int .i64 (k : Int)] (by rfl) rfl (World.news_of_block (cs := #[.int .i64 (k : Int)]) n4) (by simp [Value.oneCell']) (by omega) hbig1.out hbig2.out hb9.size X34.heap.size rfl ?_
                intro g73 c73 X35 own73 hgrow hlies hlt
                have hbx : Below wr.heap.size X34 X35 := ⟨hgrow.os, hgrow.tape, hgrow.output, hgrow.size, fun b hb2 => hgrow.block b (Nat.lt_of_lt_of_le hb2 hb9.size) (fun e => by have := hx70 _ e.symm; omega)⟩
                try (replace n15 := n15.grown hgrow (fun e => by have := hx70 _ e.symm; omega))
                have szX35 := hgrow.size
                replace hb9 := hb9.trans hbx
                clear hbx hgrow hlies hlt own70
                have sbX35 := hb9.size
                refine hK _ _ (hSb.out _ hb9) ?_
                clear hK K
                try simp only [Act.put, List.setIfInBounds_toArray, List.set_cons_zero, List.set_cons_succ]
                have hy73 := own73.lt g73 rfl
                refine held_one (i := 7) (by kernel_rfl) rfl rfl (fun K hK => ?_)
                go_simp
                refine (hOwV.out X35 hb9).mono ?_
                rintro e X36 ⟨v75, rfl, own75, hbel⟩
                have hx75 : ∀ g, v75.ownBlock = some g → X35.heap.size ≤ g ∧ g < X36.heap.size := fun g e => own75.lt _ e
                replace own75 := ownsRow_mono own75 hb9.size
                have szX36 := hbel.size
                try replace n4 := n4.below hbel
                try replace n15 := n15.below hbel
                try replace own70 := ownsRow_below own70 hbel
                try replace own73 := ownsRow_below own73 hbel
                try replace own75 := ownsRow_below own75 hbel
                try replace own84 := ownsRow_below own84 hbel
                replace hb9 := hb9.trans (hbel.mono hb9.size)
                clear hbel
                have sbX36 := hb9.size
                refine hK _ _ (hSb.out _ hb9) ?_
                clear hK K
                try simp only [Act.put, List.setIfInBounds_toArray, List.set_cons_zero, List.set_cons_succ]
                refine held_one (i := 16) (by kernel_rfl) rfl rfl (fun K hK => ?_)
                refine wp_append_lies _ _ _ 31 (by rfl) wr.heap.size 3 i0 (.int .i64 0) 1 8 Tryz.underlying31 hi0 hz0 hz1 hz2 rfl (by omega) v75 m ((speedsOf ch plan).map (.int .i64 ·)) (by rfl) own75 ⟨g15, 0, none⟩ 1 1 [.int .i64 x] (by rfl) rfl (World.news_of_block (cs := #[.int .i64 x]) n15) (by simp [Value.oneCell']) (by omega) hbig1.out hbig2.out hb9.size X36.heap.size rfl ?_
                intro g84 c84 X37 own84 hgrow hlies hlt
                have hbx : Below wr.heap.size X36 X37 := ⟨hgrow.os, hgrow.tape, hgrow.output, hgrow.size, fun b hb2 => hgrow.block b (Nat.lt_of_lt_of_le hb2 hb9.size) (fun e => by have := hx75 _ e.symm; omega)⟩
                replace own73 := own73.kept hgrow (.inr (fun e => by have := hx75 g73 e.symm; omega))
                have szX37 := hgrow.size
                replace hb9 := hb9.trans hbx
                clear hbx hgrow hlies hlt own75
                have sbX37 := hb9.size
                refine hK _ _ (hSb.out _ hb9) ?_
                clear hK K
                try simp only [Act.put, List.setIfInBounds_toArray, List.set_cons_zero, List.set_cons_succ]
                refine held_one (i := 17) (by kernel_rfl) rfl rfl (fun K hK => ?_)
                go_simp
                have r1 := SlAt.own (enc := ivs) own73 (by omega) (plan ++ [(k : Int)]) (by rw [flatMap_ivs, List.map_append]; rfl) (fun _ => rfl) (by rw [List.length_append, hm]; rfl)
                have r2 := SlAt.own (enc := ivs) own84 (by omega) (speedsOf ch plan ++ [x]) (by rw [flatMap_ivs, List.map_append]; rfl) (fun _ => rfl) (by rw [List.length_append, hsl.out]; rfl)
                refine (hT.out X37 _ _ _ _ hb9 r1 r2).mono ?_
                rintro e X38 ⟨rfl, ha1, ha2⟩
                refine hK _ _ (hSa.out _ _ _ hb9 ha1 ha2) ?_
                clear hK K
                try simp only [Act.put, List.setIfInBounds_toArray, List.set_cons_zero, List.set_cons_succ]
                refine wpAnyH_done (by kernel_rfl) (hrest (_, _, _, _, _, _) _ ⟨ha1, (Apart.of hb9 (Nat.le_of_lt hgr)).trans ha2⟩) _
            · skip
              go_simp
              have n15 := Blk.new X23 3 #[.int .i64 x]
              have hbel := (Below.refl X23.heap.size X23).alloc (Nat.le_refl _) (.cells #[.int .i64 x] 3)
              have su15 : X23.heap.size < (X23.alloc (.cells #[.int .i64 x] 3)).heap.size := by rw [World.size_alloc]; omega
              have szX39 := hbel.size
              try replace n4 := n4.below hbel
              try replace n15 := n15.below hbel
              try replace own70 := ownsRow_below own70 hbel
              try replace own73 := ownsRow_below own73 hbel
              try replace own75 := ownsRow_below own75 hbel
              try replace own84 := ownsRow_below own84 hbel
              replace hb9 := hb9.trans (hbel.mono hb9.size)
              clear hbel
              have sbX39 := hb9.size
              refine hK _ _ (hSb.out _ hb9) ?_
              clear hK K
              try simp only [Act.put, List.setIfInBounds_toArray, List.set_cons_zero, List.set_cons_succ]
              generalize X23.alloc (.cells #[.int .i64 x] 3) = X39 at *
              generalize X23.heap.size = g15 at *
              refine held_one (i := 2) (by kernel_rfl) rfl rfl (fun K hK => ?_)
              go_simp
              refine (hOwP.out X39 hb9).mono ?_
              rintro e X40 ⟨v70, rfl, own70, hbel⟩
              have hx70 : ∀ g, v70.ownBlock = some g → X39.heap.size ≤ g ∧ g < X40.heap.size := fun g e => own70.lt _ e
              replace own70 := ownsRow_mono own70 hb9.size
              have szX40 := hbel.size
              try replace n4 := n4.below hbel
              try replace n15 := n15.below hbel
              try replace own70 := ownsRow_below own70 hbel
              try replace own73 := ownsRow_below own73 hbel
              try replace own75 := ownsRow_below own75 hbel
              try replace own84 := ownsRow_below own84 hbel
              replace hb9 := hb9.trans (hbel.mono hb9.size)
              clear hbel
              have sbX40 := hb9.size
              refine hK _ _ (hSb.out _ hb9) ?_
              clear hK K
              try simp only [Act.put, List.setIfInBounds_toArray, List.set_cons_zero, List.set_cons_succ]
              refine held_one (i := 5) (by kernel_rfl) rfl rfl (fun K hK => ?_)
              refine wp_append_lies _ _ _ 31 (by rfl) wr.heap.size 3 i0 (.int .i64 0) 1 8 Tryz.underlying31 hi0 hz0 hz1 hz2 rfl (by omega) v70 m (plan.map (.int .i64 ·)) (by rfl) own70 ⟨g4, 0, none⟩ 1 1 [.int .i64 (k : Int)] (by rfl) rfl (World.news_of_block (cs := #[.int .i64 (k : Int)]) n4) (by simp [Value.oneCell']) (by omega) hbig1.out hbig2.out hb9.size X40.heap.size rfl ?_
              intro g73 c73 X41 own73 hgrow hlies hlt
              have hbx : Below wr.heap.size X40 X41 := ⟨hgrow.os, hgrow.tape, hgrow.output, hgrow.size, fun b hb2 => hgrow.block b (Nat.lt_of_lt_of_le hb2 hb9.size) (fun e => by have := hx70 _ e.symm; omega)⟩
              try (replace n15 := n15.grown hgrow (fun e => by have := hx70 _ e.symm; omega))
              have szX41 := hgrow.size
              replace hb9 := hb9.trans hbx
              clear hbx hgrow hlies hlt own70
              have sbX41 := hb9.size
              refine hK _ _ (hSb.out _ hb9) ?_
              clear hK K
              try simp only [Act.put, List.setIfInBounds_toArray, List.set_cons_zero, List.set_cons_succ]
              have hy73 := own73.lt g73 rfl
              refine held_one (i := 7) (by kernel_rfl) rfl rfl (fun K hK => ?_)
              go_simp
              refine (hOwV.out X41 hb9).mono ?_
              rintro e X42 ⟨v75, rfl, own75, hbel⟩
              have hx75 : ∀ g, v75.ownBlock = some g → X41.heap.size ≤ g ∧ g < X42.heap.size := fun g e => own75.lt _ e
              replace own75 := ownsRow_mono own75 hb9.size
              have szX42 := hbel.size
              try replace n4 := n4.below hbel
              try replace n15 := n15.below hbel
              try replace own70 := ownsRow_below own70 hbel
              try replace own73 := ownsRow_below own73 hbel
              try replace own75 := ownsRow_below own75 hbel
              try replace own84 := ownsRow_below own84 hbel
              replace hb9 := hb9.trans (hbel.mono hb9.size)
              clear hbel
              have sbX42 := hb9.size
              refine hK _ _ (hSb.out _ hb9) ?_
              clear hK K
              try simp only [Act.put, List.setIfInBounds_toArray, List.set_cons_zero, List.set_cons_succ]
              refine held_one (i := 16) (by kernel_rfl) rfl rfl (fun K hK => ?_)
              refine wp_append_lies _ _ _ 31 (by rfl) wr.heap.size 3 i0 (.int .i64 0) 1 8 Tryz.underlying31 hi0 hz0 hz1 hz2 rfl (by omega) v75 m ((speedsOf ch plan).map (.int .i64 ·)) (by rfl) own75 ⟨g15, 0, none⟩ 1 1 [.int .i64 x] (by rfl) rfl (World.news_of_block (cs := #[.int .i64 x]) n15) (by simp [Value.oneCell']) (by omega) hbig1.out hbig2.out hb9.size X42.heap.size rfl ?_
              intro g84 c84 X43 own84 hgrow hlies hlt
              have hbx : Below wr.heap.size X42 X43 := ⟨hgrow.os, hgrow.tape, hgrow.output, hgrow.size, fun b hb2 => hgrow.block b (Nat.lt_of_lt_of_le hb2 hb9.size) (fun e => by have := hx75 _ e.symm; omega)⟩
              replace own73 := own73.kept hgrow (.inr (fun e => by have := hx75 g73 e.symm; omega))
              have szX43 := hgrow.size
              replace hb9 := hb9.trans hbx
              clear hbx hgrow hlies hlt own75
              have sbX43 := hb9.size
              refine hK _ _ (hSb.out _ hb9) ?_
              clear hK K
              try simp only [Act.put, List.setIfInBounds_toArray, List.set_cons_zero, List.set_cons_succ]
              refine held_one (i := 17) (by kernel_rfl) rfl rfl (fun K hK => ?_)
              go_simp
              have r1 := SlAt.own (enc := ivs) own73 (by omega) (plan ++ [(k : Int)]) (by rw [flatMap_ivs, List.map_append]; rfl) (fun _ => rfl) (by rw [List.length_append, hm]; rfl)
              have r2 := SlAt.own (enc := ivs) own84 (by omega) (speedsOf ch plan ++ [x]) (by rw [flatMap_ivs, List.map_append]; rfl) (fun _ => rfl) (by rw [List.length_append, hsl.out]; rfl)
              refine (hT.out X43 _ _ _ _ hb9 r1 r2).mono ?_
              rintro e X44 ⟨rfl, ha1, ha2⟩
              refine hK _ _ (hSa.out _ _ _ hb9 ha1 ha2) ?_
              clear hK K
              try simp only [Act.put, List.setIfInBounds_toArray, List.set_cons_zero, List.set_cons_succ]
              refine wpAnyH_done (by kernel_rfl) (hrest (_, _, _, _, _, _) _ ⟨ha1, (Apart.of hb9 (Nat.le_of_lt hgr)).trans ha2⟩) _
          · skip
            go_simp
            have n15 := Blk.new wd 3 #[.int .i64 x]
            have hbel := (Below.refl wd.heap.size wd).alloc (Nat.le_refl _) (.cells #[.int .i64 x] 3)
            have su15 : wd.heap.size < (wd.alloc (.cells #[.int .i64 x] 3)).heap.size := by rw [World.size_alloc]; omega
            have szX45 := hbel.size
            try replace n4 := n4.below hbel
            try replace n15 := n15.below hbel
            try replace own70 := ownsRow_below own70 hbel
            try replace own73 := ownsRow_below own73 hbel
            try replace own75 := ownsRow_below own75 hbel
            try replace own84 := ownsRow_below own84 hbel
            replace hb9 := hb9.trans (hbel.mono hb9.size)
            clear hbel
            have sbX45 := hb9.size
            refine hK _ _ (hSb.out _ hb9) ?_
            clear hK K
            try simp only [Act.put, List.setIfInBounds_toArray, List.set_cons_zero, List.set_cons_succ]
            generalize wd.alloc (.cells #[.int .i64 x] 3) = X45 at *
            generalize wd.heap.size = g15 at *
            refine held_two (i := 2) (j := 4) (by kernel_rfl) rfl rfl rfl rfl (fun K hK => ?_) (fun K hK => ?_)
            · skip
              go_simp
              refine (hOwP.out X45 hb9).mono ?_
              rintro e X46 ⟨v70, rfl, own70, hbel⟩
              have hx70 : ∀ g, v70.ownBlock = some g → X45.heap.size ≤ g ∧ g < X46.heap.size := fun g e => own70.lt _ e
              replace own70 := ownsRow_mono own70 hb9.size
              have szX46 := hbel.size
              try replace n4 := n4.below hbel
              try replace n15 := n15.below hbel
              try replace own70 := ownsRow_below own70 hbel
              try replace own73 := ownsRow_below own73 hbel
              try replace own75 := ownsRow_below own75 hbel
              try replace own84 := ownsRow_below own84 hbel
              replace hb9 := hb9.trans (hbel.mono hb9.size)
              clear hbel
              have sbX46 := hb9.size
              refine hK _ _ (hSb.out _ hb9) ?_
              clear hK K
              try simp only [Act.put, List.setIfInBounds_toArray, List.set_cons_zero, List.set_cons_succ]
              refine held_one (i := 4) (by kernel_rfl) rfl rfl (fun K hK => ?_)
              go_simp
              have n4 := Blk.new X46 3 #[.int .i64 (k : Int)]
              have hbel := (Below.refl X46.heap.size X46).alloc (Nat.le_refl _) (.cells #[.int .i64 (k : Int)] 3)
              have su4 : X46.heap.size < (X46.alloc (.cells #[.int .i64 (k : Int)] 3)).heap.size := by rw [World.size_alloc]; omega
              have szX47 := hbel.size
              try replace n4 := n4.below hbel
              try replace n15 := n15.below hbel
              try replace own70 := ownsRow_below own70 hbel
              try replace own73 := ownsRow_below own73 hbel
              try replace own75 := ownsRow_below own75 hbel
              try replace own84 := ownsRow_below own84 hbel
              replace hb9 := hb9.trans (hbel.mono hb9.size)
              clear hbel
              have sbX47 := hb9.size
              refine hK _ _ (hSb.out _ hb9) ?_
              clear hK K
              try simp only [Act.put, List.setIfInBounds_toArray, List.set_cons_zero, List.set_cons_succ]
              generalize X46.alloc (.cells #[.int .i64 (k : Int)] 3) = X47 at *
              generalize X46.heap.size = g4 at *
              refine held_one (i := 5) (by kernel_rfl) rfl rfl (fun K hK => ?_)
              refine wp_append_lies _ _ _ 31 (by rfl) wr.heap.size 3 i0 (.int .i64 0) 1 8 Tryz.underlying31 hi0 hz0 hz1 hz2 rfl (by omega) v70 m (plan.map (.int .i64 ·)) (by rfl) own70 ⟨g4, 0, none⟩ 1 1 [.int .i64 (k : Int)] (by rfl) rfl (World.news_of_block (cs := #[.int .i64 (k : Int)]) n4) (by simp [Value.oneCell']) (by omega) hbig1.out hbig2.out hb9.size X47.heap.size rfl ?_
              intro g73 c73 X48 own73 hgrow hlies hlt
              have hbx : Below wr.heap.size X47 X48 := ⟨hgrow.os, hgrow.tape, hgrow.output, hgrow.size, fun b hb2 => hgrow.block b (Nat.lt_of_lt_of_le hb2 hb9.size) (fun e => by have := hx70 _ e.symm; omega)⟩
              try (replace n15 := n15.grown hgrow (fun e => by have := hx70 _ e.symm; omega))
              have szX48 := hgrow.size
              replace hb9 := hb9.trans hbx
              clear hbx hgrow hlies hlt own70
              have sbX48 := hb9.size
              refine hK _ _ (hSb.out _ hb9) ?_
              clear hK K
              try simp only [Act.put, List.setIfInBounds_toArray, List.set_cons_zero, List.set_cons_succ]
              have hy73 := own73.lt g73 rfl
              refine held_one (i := 7) (by kernel_rfl) rfl rfl (fun K hK => ?_)
              go_simp
              refine (hOwV.out X48 hb9).mono ?_
              rintro e X49 ⟨v75, rfl, own75, hbel⟩
              have hx75 : ∀ g, v75.ownBlock = some g → X48.heap.size ≤ g ∧ g < X49.heap.size := fun g e => own75.lt _ e
              replace own75 := ownsRow_mono own75 hb9.size
              have szX49 := hbel.size
              try replace n4 := n4.below hbel
              try replace n15 := n15.below hbel
              try replace own70 := ownsRow_below own70 hbel
              try replace own73 := ownsRow_below own73 hbel
              try replace own75 := ownsRow_below own75 hbel
              try replace own84 := ownsRow_below own84 hbel
              replace hb9 := hb9.trans (hbel.mono hb9.size)
              clear hbel
              have sbX49 := hb9.size
              refine hK _ _ (hSb.out _ hb9) ?_
              clear hK K
              try simp only [Act.put, List.setIfInBounds_toArray, List.set_cons_zero, List.set_cons_succ]
              refine held_one (i := 16) (by kernel_rfl) rfl rfl (fun K hK => ?_)
              refine wp_append_lies _ _ _ 31 (by rfl) wr.heap.size 3 i0 (.int .i64 0) 1 8 Tryz.underlying31 hi0 hz0 hz1 hz2 rfl (by omega) v75 m ((speedsOf ch plan).map (.int .i64 ·)) (by rfl) own75 ⟨g15, 0, none⟩ 1 1 [.int .i64 x] (by rfl) rfl (World.news_of_block (cs := #[.int .i64 x]) n15) (by simp [Value.oneCell']) (by omega) hbig1.out hbig2.out hb9.size X49.heap.size rfl ?_
              intro g84 c84 X50 own84 hgrow hlies hlt
              have hbx : Below wr.heap.size X49 X50 := ⟨hgrow.os, hgrow.tape, hgrow.output, hgrow.size, fun b hb2 => hgrow.block b (Nat.lt_of_lt_of_le hb2 hb9.size) (fun e => by have := hx75 _ e.symm; omega)⟩
              replace own73 := own73.kept hgrow (.inr (fun e => by have := hx75 g73 e.symm; omega))
              have szX50 := hgrow.size
              replace hb9 := hb9.trans hbx
              clear hbx hgrow hlies hlt own75
              have sbX50 := hb9.size
              refine hK _ _ (hSb.out _ hb9) ?_
              clear hK K
              try simp only [Act.put, List.setIfInBounds_toArray, List.set_cons_zero, List.set_cons_succ]
              refine held_one (i := 17) (by kernel_rfl) rfl rfl (fun K hK => ?_)
              go_simp
              have r1 := SlAt.own (enc := ivs) own73 (by omega) (plan ++ [(k : Int)]) (by rw [flatMap_ivs, List.map_append]; rfl) (fun _ => rfl) (by rw [List.length_append, hm]; rfl)
              have r2 := SlAt.own (enc := ivs) own84 (by omega) (speedsOf ch plan ++ [x]) (by rw [flatMap_ivs, List.map_append]; rfl) (fun _ => rfl) (by rw [List.length_append, hsl.out]; rfl)
              refine (hT.out X50 _ _ _ _ hb9 r1 r2).mono ?_
              rintro e X51 ⟨rfl, ha1, ha2⟩
              refine hK _ _ (hSa.out _ _ _ hb9 ha1 ha2) ?_
              clear hK K
              try simp only [Act.put, List.setIfInBounds_toArray, List.set_cons_zero, List.set_cons_succ]
              refine wpAnyH_done (by kernel_rfl) (hrest (_, _, _, _, _, _) _ ⟨ha1, (Apart.of hb9 (Nat.le_of_lt hgr)).trans ha2⟩) _
            · skip
              go_simp
              have n4 := Blk.new X45 3 #[.int .i64 (k : Int)]
              have hbel := (Below.refl X45.heap.size X45).alloc (Nat.le_refl _) (.cells #[.int .i64 (k : Int)] 3)
              have su4 : X45.heap.size < (X45.alloc (.cells #[.int .i64 (k : Int)] 3)).heap.size := by rw [World.size_alloc]; omega
              have szX52 := hbel.size
              try replace n4 := n4.below hbel
              try replace n15 := n15.below hbel
              try replace own70 := ownsRow_below own70 hbel
              try replace own73 := ownsRow_below own73 hbel
              try replace own75 := ownsRow_below own75 hbel
              try replace own84 := ownsRow_below own84 hbel
              replace hb9 := hb9.trans (hbel.mono hb9.size)
              clear hbel
              have sbX52 := hb9.size
              refine hK _ _ (hSb.out _ hb9) ?_
              clear hK K
              try simp only [Act.put, List.setIfInBounds_toArray, List.set_cons_zero, List.set_cons_succ]
              generalize X45.alloc (.cells #[.int .i64 (k : Int)] 3) = X52 at *
              generalize X45.heap.size = g4 at *
              refine held_one (i := 2) (by kernel_rfl) rfl rfl (fun K hK => ?_)
              go_simp
              refine (hOwP.out X52 hb9).mono ?_
              rintro e X53 ⟨v70, rfl, own70, hbel⟩
              have hx70 : ∀ g, v70.ownBlock = some g → X52.heap.size ≤ g ∧ g < X53.heap.size := fun g e => own70.lt _ e
              replace own70 := ownsRow_mono own70 hb9.size
              have szX53 := hbel.size
              try replace n4 := n4.below hbel
              try replace n15 := n15.below hbel
              try replace own70 := ownsRow_below own70 hbel
              try replace own73 := ownsRow_below own73 hbel
              try replace own75 := ownsRow_below own75 hbel
              try replace own84 := ownsRow_below own84 hbel
              replace hb9 := hb9.trans (hbel.mono hb9.size)
              clear hbel
              have sbX53 := hb9.size
              refine hK _ _ (hSb.out _ hb9) ?_
              clear hK K
              try simp only [Act.put, List.setIfInBounds_toArray, List.set_cons_zero, List.set_cons_succ]
              refine held_one (i := 5) (by kernel_rfl) rfl rfl (fun K hK => ?_)
              refine wp_append_lies _ _ _ 31 (by rfl) wr.heap.size 3 i0 (.int .i64 0) 1 8 Tryz.underlying31 hi0 hz0 hz1 hz2 rfl (by omega) v70 m (plan.map (.int .i64 ·)) (by rfl) own70 ⟨g4, 0, none⟩ 1 1 [.int .i64 (k : Int)] (by rfl) rfl (World.news_of_block (cs := #[.int .i64 (k : Int)]) n4) (by simp [Value.oneCell']) (by omega) hbig1.out hbig2.out hb9.size X53.heap.size rfl ?_
              intro g73 c73 X54 own73 hgrow hlies hlt
              have hbx : Below wr.heap.size X53 X54 := ⟨hgrow.os, hgrow.tape, hgrow.output, hgrow.size, fun b hb2 => hgrow.block b (Nat.lt_of_lt_of_le hb2 hb9.size) (fun e => by have := hx70 _ e.symm; omega)⟩
              try (replace n15 := n15.grown hgrow (fun e => by have := hx70 _ e.symm; omega))
              have szX54 := hgrow.size
              replace hb9 := hb9.trans hbx
              clear hbx hgrow hlies hlt own70
              have sbX54 := hb9.size
              refine hK _ _ (hSb.out _ hb9) ?_
              clear hK K
              try simp only [Act.put, List.setIfInBounds_toArray, List.set_cons_zero, List.set_cons_succ]
              have hy73 := own73.lt g73 rfl
              refine held_one (i := 7) (by kernel_rfl) rfl rfl (fun K hK => ?_)
              go_simp
              refine (hOwV.out X54 hb9).mono ?_
              rintro e X55 ⟨v75, rfl, own75, hbel⟩
              have hx75 : ∀ g, v75.ownBlock = some g → X54.heap.size ≤ g ∧ g < X55.heap.size := fun g e => own75.lt _ e
              replace own75 := ownsRow_mono own75 hb9.size
              have szX55 := hbel.size
              try replace n4 := n4.below hbel
              try replace n15 := n15.below hbel
              try replace own70 := ownsRow_below own70 hbel
              try replace own73 := ownsRow_below own73 hbel
              try replace own75 := ownsRow_below own75 hbel
              try replace own84 := ownsRow_below own84 hbel
              replace hb9 := hb9.trans (hbel.mono hb9.size)
              clear hbel
              have sbX55 := hb9.size
              refine hK _ _ (hSb.out _ hb9) ?_
              clear hK K
              try simp only [Act.put, List.setIfInBounds_toArray, List.set_cons_zero, List.set_cons_succ]
              refine held_one (i := 16) (by kernel_rfl) rfl rfl (fun K hK => ?_)
              refine wp_append_lies _ _ _ 31 (by rfl) wr.heap.size 3 i0 (.int .i64 0) 1 8 Tryz.underlying31 hi0 hz0 hz1 hz2 rfl (by omega) v75 m ((speedsOf ch plan).map (.int .i64 ·)) (by rfl) own75 ⟨g15, 0, none⟩ 1 1 [.int .i64 x] (by rfl) rfl (World.news_of_block (cs := #[.int .i64 x]) n15) (by simp [Value.oneCell']) (by omega) hbig1.out hbig2.out hb9.size X55.heap.size rfl ?_
              intro g84 c84 X56 own84 hgrow hlies hlt
              have hbx : Below wr.heap.size X55 X56 := ⟨hgrow.os, hgrow.tape, hgrow.output, hgrow.size, fun b hb2 => hgrow.block b (Nat.lt_of_lt_of_le hb2 hb9.size) (fun e => by have := hx75 _ e.symm; omega)⟩
              replace own73 := own73.kept hgrow (.inr (fun e => by have := hx75 g73 e.symm; omega))
              have szX56 := hgrow.size
              replace hb9 := hb9.trans hbx
              clear hbx hgrow hlies hlt own75
              have sbX56 := hb9.size
              refine hK _ _ (hSb.out _ hb9) ?_
              clear hK K
              try simp only [Act.put, List.setIfInBounds_toArray, List.set_cons_zero, List.set_cons_succ]
              refine held_one (i := 17) (by kernel_rfl) rfl rfl (fun K hK => ?_)
              go_simp
              have r1 := SlAt.own (enc := ivs) own73 (by omega) (plan ++ [(k : Int)]) (by rw [flatMap_ivs, List.map_append]; rfl) (fun _ => rfl) (by rw [List.length_append, hm]; rfl)
              have r2 := SlAt.own (enc := ivs) own84 (by omega) (speedsOf ch plan ++ [x]) (by rw [flatMap_ivs, List.map_append]; rfl) (fun _ => rfl) (by rw [List.length_append, hsl.out]; rfl)
              refine (hT.out X56 _ _ _ _ hb9 r1 r2).mono ?_
              rintro e X57 ⟨rfl, ha1, ha2⟩
              refine hK _ _ (hSa.out _ _ _ hb9 ha1 ha2) ?_
              clear hK K
              try simp only [Act.put, List.setIfInBounds_toArray, List.set_cons_zero, List.set_cons_succ]
              refine wpAnyH_done (by kernel_rfl) (hrest (_, _, _, _, _, _) _ ⟨ha1, (Apart.of hb9 (Nat.le_of_lt hgr)).trans ha2⟩) _
      · obtain rfl : nc = k := by omega
        obtain ⟨P, np, pc, kk, hP, hoff⟩ := hat
        obtain ⟨c1, f1, l1⟩ := kk.rules
        go_wp2
        refine bodyPost_end (results_none rfl _ _ _) rfl ⟨rfl, ?_, hap⟩
        rw [hval.out]
        exact ⟨P, np, pc, kk, hP, hoff⟩
end Go.Proofs.YtjiaepphnddpoaaGreat
