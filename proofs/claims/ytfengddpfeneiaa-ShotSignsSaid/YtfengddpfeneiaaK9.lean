/-
  The law ShotSigns.
-/
import Derived.Test.YtfengddpfeneiaaS28
import Derived.Test.YtfengddpfeneiaaS44
namespace Go.Proofs.Ytfengddpfeneiaa
open Go.RowKit Go.Shelf
set_option linter.unusedSimpArgs false
set_option linter.unusedVariables false

theorem Alike_same (A C : Option Addr) (na ca nb cb B1 B2 : Nat) (xs : List Int) (w : World) (h1 : SlAt w B1 1 ivs A na ca xs) (h2 : SlAt w B2 1 ivs C nb cb xs) :
    Calls Try.prog 23 #[.slice A na ca, .slice C nb cb] w fun e w' => e = .returned (.bool true) ∧ Below w.heap.size w w' := by
  have := Alike_any A C na ca nb cb B1 B2 xs xs w h1 h2
  rwa [decide_eq_true rfl] at this
theorem alikeB_sameA (A C : Option Addr) (na ca nb cb B1 B2 : Nat) (xs : List Bnd) (w : World) (h1 : SlAt w B1 2 Bnd.cells A na ca xs) (h2 : SlAt w B2 2 Bnd.cells C nb cb xs) :
    Calls Try.prog 37 #[.slice A na ca, .slice C nb cb] w fun e w' => e = .returned (.bool true) ∧ Below w.heap.size w w' := by
  have := alikeB_any A C na ca nb cb B1 B2 xs xs w h1 h2
  rwa [decide_eq_true rfl] at this
set_option maxRecDepth 100000 in
set_option maxHeartbeats 4000000 in
theorem ShotSigns_any (a : Arr) (S G D : Option Addr) (ns cs ng cg nd cd : Nat) (ds : List Int) (w : World) (hS : SlAt w 0 1 ivs S ns cs a.sh) (hG : SlAt w 0 4 Gun.cells G ng cg a.gs) (hD : SlAt w 0 1 ivs D nd cd ds) :
    Calls Try.prog 16 #[.agg #[.slice S ns cs, .slice G ng cg], .slice D nd cd] w fun e w' => e = .returned (.bool true) ∧ Below w.heap.size w w' := by
  have h1 := fun W h h' h'' => Signature_any a S G D ns cs ng cg nd cd ds W h h' h''
  have h2 := fun W h h' h'' => RSignature_any a S G D ns cs ng cg nd cd ds W h h' h''
  have h3 := fun W h h' => sCheck_any a S G ns cs ng cg W h h'
  have h4 := fun W h h' => RCheckA_any a S G ns cs ng cg W h h'
  have h5 := fun W h h' => sEnclose_any a S G ns cs ng cg W h h'
  have h6 := fun W h h' => REnclose_any a S G ns cs ng cg W h h'
  have h7 := fun W h h' h'' => Misfit_any a S G D ns cs ng cg nd cd ds W h h' h''
  have h8 := fun W h h' h'' => RMisfit_any a S G D ns cs ng cg nd cd ds W h h' h''
  unfold RetSignature at h2
  unfold RetMisfit at h8
  unfold RetSl at h1 h2 h5 h6
  generalize sigR a ds = r1 at *
  generalize chkArr a = r2 at *
  generalize encAR a = r3 at *
  generalize misR a ds = r4 at *
  obtain ⟨w1, hw1⟩ : ∃ w1, w1 = w.alloc (.cells #[.slice S ns cs, .slice G ng cg] 25) := ⟨_, rfl⟩
  have k3 : Blk w1 w.heap.size 25 #[.slice S ns cs, .slice G ng cg] := by rw [hw1]; exact Blk.new _ _ _
  have b : Below w.heap.size w w1 := by rw [hw1]; exact (Below.refl _ _).alloc (Nat.le_refl _) _
  have hS1 : SlAt w1 0 1 ivs S ns cs a.sh := by rw [hw1]; exact hS.alloc _
  have hG1 : SlAt w1 0 4 Gun.cells G ng cg a.gs := by rw [hw1]; exact hG.alloc _
  have hD1 : SlAt w1 0 1 ivs D nd cd ds := by rw [hw1]; exact hD.alloc _
  clear hS hG hD
  go_enter Try.func16, Try.ntmps16
  go_wp2_with fail
  rw [← hw1]
  clear hw1
  obtain ⟨c3, f3, l3⟩ := k3.rules
  go_wp2_with fail
  refine (h1 _ hS1 hG1 hD1).mono ?_
  rintro e W ⟨T, n1, ct, rfl, hT, hb⟩
  clear c3 f3 l3
  replace hT := hT.mono (Nat.zero_le _)
  replace k3 := k3.below hb
  replace b := b.trans (hb.mono b.size)
  replace hS1 := hS1.below hb
  replace hG1 := hG1.below hb
  replace hD1 := hD1.below hb
  clear hb
  obtain ⟨c3, f3, l3⟩ := k3.rules
  go_wp2_with fail
  refine (h2 _ hS1 hG1 hD1).mono ?_
  rintro e W2 ⟨U, n2, cu, rfl, hU, hb⟩
  clear c3 f3 l3
  (replace hU := hU.mono (Nat.zero_le _)); (replace hT := hT.below hb)
  replace k3 := k3.below hb
  replace b := b.trans (hb.mono b.size)
  replace hS1 := hS1.below hb
  replace hG1 := hG1.below hb
  replace hD1 := hD1.below hb
  clear hb
  clear h1 h2
  go_wp2_with fail
  refine wp_held_np (fun w' : World => (∀ j, w'.cell? ⟨w.heap.size, j, none⟩ = #[Value.slice S ns cs, .slice G ng cg][j]?) ∧ True) (by kernel_rfl) ?_
  replace k3 := k3.drew
  replace b := b.drew
  replace hS1 := hS1.drew
  replace hG1 := hG1.drew
  replace hD1 := hD1.drew
  replace hT := hT.drew
  replace hU := hU.drew
  generalize W2.drew = wd at *
  have hS : (fun w' : World => (∀ j, w'.cell? ⟨w.heap.size, j, none⟩ = #[Value.slice S ns cs, .slice G ng cg][j]?) ∧ True) wd := ⟨k3.cell, trivial⟩
  refine held_take (i := 0) (v := ?_) 25 rfl rfl (by kernel_rfl) (by kernel_rfl) (by kernel_rfl) (fun _ _ _ h => h) (Or.inl ⟨by rfl, ?_⟩) hS ?_
  rotate_left 1
  · intro w' hSw
    try dsimp only at hSw
    obtain ⟨q1, q2⟩ := hSw
    go_simp
    all_goals with_reducible rfl
  try simp only [Act.put, List.setIfInBounds_toArray, List.set_cons_zero, List.set_cons_succ]
  refine held_take (i := 1) (v := ?_) 26 rfl rfl (by kernel_rfl) (by kernel_rfl) (by kernel_rfl) (fun _ _ _ h => h) (Or.inl ⟨by rfl, ?_⟩) hS ?_
  rotate_left 1
  · intro w' hSw
    try dsimp only at hSw
    obtain ⟨q1, q2⟩ := hSw
    go_simp
    all_goals with_reducible rfl
  try simp only [Act.put, List.setIfInBounds_toArray, List.set_cons_zero, List.set_cons_succ]
  clear hS
  refine held_one (i := 2) (by kernel_rfl) rfl rfl (fun K hK => ?_)
  go_simp
  refine (Alike_same _ _ _ _ _ _ _ _ _ _ hT hU).mono ?_
  rintro e W3 ⟨rfl, hb⟩
  replace k3 := k3.below hb
  replace b := b.trans (hb.mono b.size)
  replace hS1 := hS1.below hb
  replace hG1 := hG1.below hb
  replace hD1 := hD1.below hb
  clear hb
  refine hK _ _ ⟨k3.cell, trivial⟩ ?_
  clear hK K
  try simp only [Act.put, List.setIfInBounds_toArray, List.set_cons_zero, List.set_cons_succ]
  have hS : (fun w' : World => (∀ j, w'.cell? ⟨w.heap.size, j, none⟩ = #[Value.slice S ns cs, .slice G ng cg][j]?) ∧ True) W3 := ⟨k3.cell, trivial⟩
  clear hT hU
  refine held_take (i := 3) (v := ?_) 28 rfl rfl (by kernel_rfl) (by kernel_rfl) (by kernel_rfl) (fun _ _ _ h => h) (Or.inl ⟨by rfl, ?_⟩) hS ?_
  rotate_left 1
  · intro w' hSw
    try dsimp only at hSw
    obtain ⟨q1, q2⟩ := hSw
    go_simp
    all_goals with_reducible rfl
  try simp only [Act.put, List.setIfInBounds_toArray, List.set_cons_zero, List.set_cons_succ]
  refine held_take (i := 4) (v := ?_) 29 rfl rfl (by kernel_rfl) (by kernel_rfl) (by kernel_rfl) (fun _ _ _ h => h) (Or.inl ⟨by rfl, ?_⟩) hS ?_
  rotate_left 1
  · intro w' hSw
    try dsimp only at hSw
    obtain ⟨q1, q2⟩ := hSw
    go_simp
    all_goals with_reducible rfl
  try simp only [Act.put, List.setIfInBounds_toArray, List.set_cons_zero, List.set_cons_succ]
  refine held_take (i := 5) (v := ?_) 30 rfl rfl (by kernel_rfl) (by kernel_rfl) (by kernel_rfl) (fun _ _ _ h => h) (Or.inl ⟨by rfl, ?_⟩) hS ?_
  rotate_left 1
  · intro w' hSw
    try dsimp only at hSw
    obtain ⟨q1, q2⟩ := hSw
    go_simp
    all_goals with_reducible rfl
  try simp only [Act.put, List.setIfInBounds_toArray, List.set_cons_zero, List.set_cons_succ]
  refine held_take (i := 6) (v := ?_) 31 rfl rfl (by kernel_rfl) (by kernel_rfl) (by kernel_rfl) (fun _ _ _ h => h) (Or.inl ⟨by rfl, ?_⟩) hS ?_
  rotate_left 1
  · intro w' hSw
    try dsimp only at hSw
    obtain ⟨q1, q2⟩ := hSw
    go_simp
    all_goals with_reducible rfl
  try simp only [Act.put, List.setIfInBounds_toArray, List.set_cons_zero, List.set_cons_succ]
  refine held_take (i := 7) (v := ?_) 32 rfl rfl (by kernel_rfl) (by kernel_rfl) (by kernel_rfl) (fun _ _ _ h => h) (Or.inl ⟨by rfl, ?_⟩) hS ?_
  rotate_left 1
  · intro w' hSw
    try dsimp only at hSw
    obtain ⟨q1, q2⟩ := hSw
    go_simp
    all_goals with_reducible rfl
  try simp only [Act.put, List.setIfInBounds_toArray, List.set_cons_zero, List.set_cons_succ]
  refine held_take (i := 8) (v := ?_) 33 rfl rfl (by kernel_rfl) (by kernel_rfl) (by kernel_rfl) (fun _ _ _ h => h) (Or.inl ⟨by rfl, ?_⟩) hS ?_
  rotate_left 1
  · intro w' hSw
    try dsimp only at hSw
    obtain ⟨q1, q2⟩ := hSw
    go_simp
    all_goals with_reducible rfl
  try simp only [Act.put, List.setIfInBounds_toArray, List.set_cons_zero, List.set_cons_succ]
  refine held_take (i := 9) (v := ?_) 34 rfl rfl (by kernel_rfl) (by kernel_rfl) (by kernel_rfl) (fun _ _ _ h => h) (Or.inl ⟨by rfl, ?_⟩) hS ?_
  rotate_left 1
  · intro w' hSw
    try dsimp only at hSw
    obtain ⟨q1, q2⟩ := hSw
    go_simp
    all_goals with_reducible rfl
  try simp only [Act.put, List.setIfInBounds_toArray, List.set_cons_zero, List.set_cons_succ]
  refine held_take (i := 10) (v := ?_) 35 rfl rfl (by kernel_rfl) (by kernel_rfl) (by kernel_rfl) (fun _ _ _ h => h) (Or.inl ⟨by rfl, ?_⟩) hS ?_
  rotate_left 1
  · intro w' hSw
    try dsimp only at hSw
    obtain ⟨q1, q2⟩ := hSw
    go_simp
    all_goals with_reducible rfl
  try simp only [Act.put, List.setIfInBounds_toArray, List.set_cons_zero, List.set_cons_succ]
  refine held_take (i := 12) (v := ?_) 37 rfl rfl (by kernel_rfl) (by kernel_rfl) (by kernel_rfl) (fun _ _ _ h => h) (Or.inl ⟨by rfl, ?_⟩) hS ?_
  rotate_left 1
  · intro w' hSw
    try dsimp only at hSw
    obtain ⟨q1, q2⟩ := hSw
    go_simp
    all_goals with_reducible rfl
  try simp only [Act.put, List.setIfInBounds_toArray, List.set_cons_zero, List.set_cons_succ]
  clear hS
  refine held_one (i := 11) (by kernel_rfl) rfl rfl (fun K hK => ?_)
  go_simp
  refine (h3 _ hS1 hG1).mono ?_
  rintro e W4 ⟨rfl, hb⟩
  replace k3 := k3.below hb
  replace b := b.trans (hb.mono b.size)
  replace hS1 := hS1.below hb
  replace hG1 := hG1.below hb
  replace hD1 := hD1.below hb
  clear hb
  refine hK _ _ ⟨k3.cell, trivial⟩ ?_
  clear hK K
  try simp only [Act.put, List.setIfInBounds_toArray, List.set_cons_zero, List.set_cons_succ]
  have hS : (fun w' : World => (∀ j, w'.cell? ⟨w.heap.size, j, none⟩ = #[Value.slice S ns cs, .slice G ng cg][j]?) ∧ True) W4 := ⟨k3.cell, trivial⟩
  clear hS
  refine held_one (i := 13) (by kernel_rfl) rfl rfl (fun K hK => ?_)
  go_simp
  refine (h4 _ hS1 hG1).mono ?_
  rintro e W5 ⟨rfl, hb⟩
  replace k3 := k3.below hb
  replace b := b.trans (hb.mono b.size)
  replace hS1 := hS1.below hb
  replace hG1 := hG1.below hb
  replace hD1 := hD1.below hb
  clear hb
  refine hK _ _ ⟨k3.cell, trivial⟩ ?_
  clear hK K
  try simp only [Act.put, List.setIfInBounds_toArray, List.set_cons_zero, List.set_cons_succ]
  have hS : (fun w' : World => (∀ j, w'.cell? ⟨w.heap.size, j, none⟩ = #[Value.slice S ns cs, .slice G ng cg][j]?) ∧ True) W5 := ⟨k3.cell, trivial⟩
  refine held_take (i := 14) (v := ?_) 39 rfl rfl (by kernel_rfl) (by kernel_rfl) (by kernel_rfl) (fun _ _ _ h => h) (Or.inl ⟨by rfl, ?_⟩) hS ?_
  rotate_left 1
  · intro w' hSw
    try dsimp only at hSw
    obtain ⟨q1, q2⟩ := hSw
    go_simp
    all_goals with_reducible rfl
  try simp only [Act.put, List.setIfInBounds_toArray, List.set_cons_zero, List.set_cons_succ]
  refine held_take (i := 15) (v := ?_) 40 rfl rfl (by kernel_rfl) (by kernel_rfl) (by kernel_rfl) (fun _ _ _ h => h) (Or.inl ⟨by rfl, ?_⟩) hS ?_
  rotate_left 1
  · intro w' hSw
    try dsimp only at hSw
    obtain ⟨q1, q2⟩ := hSw
    go_simp
    all_goals with_reducible rfl
  try simp only [Act.put, List.setIfInBounds_toArray, List.set_cons_zero, List.set_cons_succ]
  refine wpAnyH_done (by kernel_rfl) (noPanic_normal ?_) _
  clear hS h3 h4
  try simp only [Act.put, List.setIfInBounds_toArray, List.set_cons_zero, List.set_cons_succ]
  obtain ⟨c3, f3, l3⟩ := k3.rules
  go_wp2_with fail
  refine (h5 _ hS1 hG1).mono ?_
  rintro e W6 ⟨T, n1, ct, rfl, hT, hb⟩
  clear c3 f3 l3
  replace hT := hT.mono (Nat.zero_le _)
  replace k3 := k3.below hb
  replace b := b.trans (hb.mono b.size)
  replace hS1 := hS1.below hb
  replace hG1 := hG1.below hb
  replace hD1 := hD1.below hb
  clear hb
  obtain ⟨c3, f3, l3⟩ := k3.rules
  go_wp2_with fail
  refine (h6 _ hS1 hG1).mono ?_
  rintro e W7 ⟨U, n2, cu, rfl, hU, hb⟩
  clear c3 f3 l3
  (replace hU := hU.mono (Nat.zero_le _)); (replace hT := hT.below hb)
  replace k3 := k3.below hb
  replace b := b.trans (hb.mono b.size)
  replace hS1 := hS1.below hb
  replace hG1 := hG1.below hb
  replace hD1 := hD1.below hb
  clear hb
  clear h5 h6
  go_wp2_with fail
  refine (alikeB_sameA _ _ _ _ _ _ _ _ _ _ hT hU).mono ?_
  rintro e W8 ⟨rfl, hb⟩
  clear hT hU
  replace k3 := k3.below hb
  replace b := b.trans (hb.mono b.size)
  replace hS1 := hS1.below hb
  replace hG1 := hG1.below hb
  replace hD1 := hD1.below hb
  clear hb
  obtain ⟨c3, f3, l3⟩ := k3.rules
  go_wp2_with fail
  refine (h7 _ hS1 hG1 hD1).mono ?_
  rintro e W9 ⟨rfl, hb⟩
  clear c3 f3 l3
  skip
  replace k3 := k3.below hb
  replace b := b.trans (hb.mono b.size)
  replace hS1 := hS1.below hb
  replace hG1 := hG1.below hb
  replace hD1 := hD1.below hb
  clear hb
  obtain ⟨c3, f3, l3⟩ := k3.rules
  go_wp2_with fail
  refine (h8 _ hS1 hG1 hD1).mono ?_
  rintro e W10 ⟨rfl, hb⟩
  clear c3 f3 l3
  skip
  replace k3 := k3.below hb
  replace b := b.trans (hb.mono b.size)
  replace hS1 := hS1.below hb
  replace hG1 := hG1.below hb
  replace hD1 := hD1.below hb
  clear hb
  go_wp2_with fail
  refine (works_any _).mono ?_
  rintro e W11 ⟨rfl, hb⟩
  go_wp2_with fail
  go_ret
  exact ⟨rfl, b.trans (hb.mono b.size)⟩
end Go.Proofs.Ytfengddpfeneiaa
