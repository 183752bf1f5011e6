/-
  Courses, walks: the iterators over lines, and over when they may end: at the example.
-/
import Derived.Test.YtcmbmmpihiekhaaGreatC14
import Derived.Sort.CutIn
set_option maxRecDepth 100000
set_option maxHeartbeats 16000000
set_option linter.unusedSimpArgs false
set_option linter.unusedVariables false
namespace Go.Proofs.YtcmbmmpihiekhaaGreat
open Go.RowKit Go.Shelf
attribute [local go_sem] Oper.semAt_some

structure ShoL (p : Pl) (gp gs : Nat) (st : Int) (w : World) : Prop where
  inv : InvC p w
  kp : Blk w gp 214 #[.pointer (some ⟨p.c, 0, none⟩), .map (some p.m2)]
  ks : Blk w gs 3 #[.int .i64 st]
theorem ShoL.calm {p : Pl} {gp gs : Nat} {st : Int} {w0 w w' : World} (h : ShoL p gp gs st w) (h0 : InvC p w0) (hb : Calm w0.heap.size w w') : ShoL p gp gs st w' := ⟨h.inv.calm h0 hb, calm_blk hb h.kp, calm_blk hb h.ks⟩
theorem ShoL.below {p : Pl} {gp gs : Nat} {st : Int} {w w' : World} (h : ShoL p gp gs st w) (hb : Below w.heap.size w w') : ShoL p gp gs st w' := ⟨h.inv.below hb, h.kp.below hb, h.ks.below hb⟩
theorem ShoL.next {p : Pl} {gp gs : Nat} {st : Int} {w w' : World} (h : ShoL p gp gs st w) (hI : InvC p w') (hb : BelowH (HM p) w.heap.size w w') : ShoL p gp gs st w' :=
  ⟨hI, hb.blk h.kp h.kp.lt (h.inv.off h.kp), hb.blk h.ks h.ks.lt (h.inv.off h.ks)⟩
def ShoG (k : Nat) (vs : Array Value) (_ : World) : Prop := vs = #[.agg #[.int .i64 0, .int .i64 (k : Int)]]
theorem eg_sho : Enters Tryz.prog 142 := enters_of Tryz.func142 (by kernel_rfl) rfl
theorem sho0_iter (m : Nat) (p : Pl) (gp gs : Nat) :
    IterH Fence.wide m Tryz.prog (HM p) 142 #[.pointer (some ⟨gp, 0, none⟩), .pointer (some ⟨gs, 0, none⟩)] 0 ShoG (ShoL p gp gs 0) := by
  intro l J Jx W hJ hJx hY hL h0
  clear hY
  refine callsIn_of_wp Tryz.func142 rfl trivial ?_ rfl
  simp only [Tryz.ntmps142, List.size_toArray, List.length_cons, List.length_nil, Nat.reduceAdd, Nat.reduceSub, Array.replicate_succ, Array.replicate_zero, List.push_toArray, List.append_toArray, List.nil_append, List.cons_append]
  obtain ⟨cp, fp, lp⟩ := hL.kp.rules
  obtain ⟨cc, fc, lc⟩ := hL.inv.kc.rules
  gi_wp2_with fail
  clear cp fp lp cc fc lc
  refine wpIn_loop_rounds 2 ?_
  rw [roundsIn_succ]
  gi_wp2_with fail
  refine wpIn_loop_rounds 3 ?_
  rw [roundsIn_succ]
  gi_wp2_with fail
  refine wpIn_heldI (fun w' : World => ∀ j, w'.cell? ⟨gs, j, none⟩ = #[Value.int .i64 0][j]?) (by kernel_rfl) ?_
  have hd : Below W.heap.size W W.drew := (Below.refl _ _).drew
  replace hL := hL.below hd
  replace h0 := hJ _ _ _ h0 (calmH_of (belowH_of hd) (Nat.le_refl _))
  have hsz : W.heap.size ≤ W.drew.heap.size := Nat.le_refl _
  have hS : (fun w' : World => ∀ j, w'.cell? ⟨gs, j, none⟩ = #[Value.int .i64 0][j]?) W.drew := hL.ks.cell
  clear hd
  generalize W.drew = V0 at *
  refine hTkI 0 19 ?_
  refine hTkI 1 20 ?_
  refine hTkI 2 21 ?_
  refine hTkI 3 22 ?_
  refine hTkI 4 23 ?_
  refine hTkI 5 24 ?_
  refine heldI_take (i := 6) (v := undef) 25 rfl rfl (by kernel_rfl) (by kernel_rfl) (by kernel_rfl) (fun _ _ _ h => h) (Or.inr ⟨by rfl, rfl⟩) hS ?_
  try simp only [Act.put, sA, sZ, sS]
  refine heldI_take (i := 7) (v := undef) 26 rfl rfl (by kernel_rfl) (by kernel_rfl) (by kernel_rfl) (fun _ _ _ h => h) (Or.inr ⟨by rfl, rfl⟩) hS ?_
  try simp only [Act.put, sA, sZ, sS]
  refine heldI_take (i := 8) (v := undef) 27 rfl rfl (by kernel_rfl) (by kernel_rfl) (by kernel_rfl) (fun _ _ _ h => h) (Or.inr ⟨by rfl, rfl⟩) hS ?_
  try simp only [Act.put, sA, sZ, sS]
  refine heldI_take (i := 9) (v := undef) 28 rfl rfl (by kernel_rfl) (by kernel_rfl) (by kernel_rfl) (fun _ _ _ h => h) (Or.inr ⟨by rfl, rfl⟩) hS ?_
  try simp only [Act.put, sA, sZ, sS]
  refine heldI_take (i := 10) (v := undef) 29 rfl rfl (by kernel_rfl) (by kernel_rfl) (by kernel_rfl) (fun _ _ _ h => h) (Or.inr ⟨by rfl, rfl⟩) hS ?_
  try simp only [Act.put, sA, sZ, sS]
  refine heldI_take (i := 11) (v := undef) 30 rfl rfl (by kernel_rfl) (by kernel_rfl) (by kernel_rfl) (fun _ _ _ h => h) (Or.inr ⟨by rfl, rfl⟩) hS ?_
  try simp only [Act.put, sA, sZ, sS]
  refine hTkI 12 31 ?_
  refine heldI_done (by kernel_rfl) (noPanic_normal ?_) _
  clear hS
  gi_wp2_with fail
  rw [roundsIn_succ]
  gi_wp2_with fail
  refine wpIn_heldI (fun w' : World => ∀ j, w'.cell? ⟨gs, j, none⟩ = #[Value.int .i64 0][j]?) (by kernel_rfl) ?_
  have hd : Below V0.heap.size V0 V0.drew := (Below.refl _ _).drew
  replace hL := hL.below hd
  replace h0 := hJ _ _ _ h0 (calmH_of (belowH_of hd) hsz)
  have hsz2 : W.heap.size ≤ V0.drew.heap.size := hsz
  have hS : (fun w' : World => ∀ j, w'.cell? ⟨gs, j, none⟩ = #[Value.int .i64 0][j]?) V0.drew := hL.ks.cell
  clear hd
  generalize V0.drew = V1 at *
  refine hTkI 0 19 ?_
  refine hTkI 1 20 ?_
  refine hTkI 2 21 ?_
  refine hTkI 3 22 ?_
  refine hTkI 4 23 ?_
  refine hTkI 5 24 ?_
  refine heldI_take (i := 6) (v := undef) 25 rfl rfl (by kernel_rfl) (by kernel_rfl) (by kernel_rfl) (fun _ _ _ h => h) (Or.inr ⟨by rfl, rfl⟩) hS ?_
  try simp only [Act.put, sA, sZ, sS]
  refine heldI_take (i := 7) (v := undef) 26 rfl rfl (by kernel_rfl) (by kernel_rfl) (by kernel_rfl) (fun _ _ _ h => h) (Or.inr ⟨by rfl, rfl⟩) hS ?_
  try simp only [Act.put, sA, sZ, sS]
  refine heldI_take (i := 8) (v := undef) 27 rfl rfl (by kernel_rfl) (by kernel_rfl) (by kernel_rfl) (fun _ _ _ h => h) (Or.inr ⟨by rfl, rfl⟩) hS ?_
  try simp only [Act.put, sA, sZ, sS]
  refine heldI_take (i := 9) (v := undef) 28 rfl rfl (by kernel_rfl) (by kernel_rfl) (by kernel_rfl) (fun _ _ _ h => h) (Or.inr ⟨by rfl, rfl⟩) hS ?_
  try simp only [Act.put, sA, sZ, sS]
  refine heldI_take (i := 10) (v := undef) 29 rfl rfl (by kernel_rfl) (by kernel_rfl) (by kernel_rfl) (fun _ _ _ h => h) (Or.inr ⟨by rfl, rfl⟩) hS ?_
  try simp only [Act.put, sA, sZ, sS]
  refine heldI_take (i := 11) (v := undef) 30 rfl rfl (by kernel_rfl) (by kernel_rfl) (by kernel_rfl) (fun _ _ _ h => h) (Or.inr ⟨by rfl, rfl⟩) hS ?_
  try simp only [Act.put, sA, sZ, sS]
  refine hTkI 12 31 ?_
  refine heldI_done (by kernel_rfl) (noPanic_normal ?_) _
  clear hS
  gi_wp2_with fail
  rw [roundsIn_succ]
  gi_wp2_with fail
  rw [roundsIn_succ]
  gi_wp2_with fail
  go_end0
  exact ⟨⟨_, rfl⟩, .inl ⟨h0, hL⟩⟩
theorem sho1_iter (m : Nat) (p : Pl) (gp gs : Nat) :
    IterH Fence.wide m Tryz.prog (HM p) 142 #[.pointer (some ⟨gp, 0, none⟩), .pointer (some ⟨gs, 0, none⟩)] 2 ShoG (ShoL p gp gs 1) := by
  intro l J Jx W hJ hJx hY hL h0
  refine callsIn_of_wp Tryz.func142 rfl trivial ?_ rfl
  simp only [Tryz.ntmps142, List.size_toArray, List.length_cons, List.length_nil, Nat.reduceAdd, Nat.reduceSub, Array.replicate_succ, Array.replicate_zero, List.push_toArray, List.append_toArray, List.nil_append, List.cons_append]
  obtain ⟨cp, fp, lp⟩ := hL.kp.rules
  obtain ⟨cc, fc, lc⟩ := hL.inv.kc.rules
  gi_wp2_with fail
  clear cp fp lp cc fc lc
  refine wpIn_loop_rounds 2 ?_
  rw [roundsIn_succ]
  gi_wp2_with fail
  refine wpIn_loop_rounds 3 ?_
  rw [roundsIn_succ]
  have hsz : W.heap.size ≤ W.heap.size := Nat.le_refl _
  gi_wp2_with fail
  refine wpIn_heldI (fun w' : World => ∀ j, w'.cell? ⟨gs, j, none⟩ = #[Value.int .i64 1][j]?) (by kernel_rfl) ?_
  have hd : Below W.heap.size W W.drew := (Below.refl _ _).drew
  replace hL := hL.below hd
  replace h0 := hJ _ _ _ h0 (calmH_of (belowH_of hd) hsz)
  replace hsz : W.heap.size ≤ W.drew.heap.size := hsz
  have hS : (fun w' : World => ∀ j, w'.cell? ⟨gs, j, none⟩ = #[Value.int .i64 1][j]?) W.drew := hL.ks.cell
  clear hd
  generalize hV0 : W.drew = V0 at *
  clear hV0
  refine hTkI 0 19 ?_
  refine hTkI 1 20 ?_
  refine hTkI 2 21 ?_
  refine hTkI 3 22 ?_
  refine hTkI 4 23 ?_
  refine hTkI 5 24 ?_
  refine hTkI 6 25 ?_
  refine hTkI 7 26 ?_
  refine hTkI 8 27 ?_
  refine hTkI 9 28 ?_
  obtain ⟨fn, tmps, assign, body, hy, hR⟩ := hY 0 #[.agg #[.int .i64 0, .int .i64 0]] V0 (by decide) h0 hL rfl
  refine heldI_yield (i := 10) (by kernel_rfl) rfl rfl (fun K hK => ?_)
  refine ⟨fun _ _ => trivial, ?_⟩
  rw [show Fence.wide.round = none from rfl, Oper.semAt_none]
  go_simp
  refine ⟨fun h => (by cases h), (RoundIn.anyn hR).mono ?_⟩
  clear hR hy hL h0 hS
  rintro e X0 (⟨rfl, h0, hL, hn⟩ | ⟨rfl, h0, hL, hn⟩)
  rotate_left 1
  · have hS : (fun w' : World => ∀ j, w'.cell? ⟨gs, j, none⟩ = #[Value.int .i64 1][j]?) X0 := hL.ks.cell
    refine hK _ _ hS ?_
    clear hK K
    try simp only [Act.put, sA, sZ, sS]
    refine hTkI 11 30 ?_
    refine hTkI 12 31 ?_
    refine heldI_done (by kernel_rfl) (noPanic_normal ?_) _
    clear hS
    gi_wp2_with fail
    refine bodyPost_ret (results_none rfl _ _ _) rfl ?_
    exact ⟨⟨_, rfl⟩, .inr ⟨h0, hL⟩⟩
  have hS : (fun w' : World => ∀ j, w'.cell? ⟨gs, j, none⟩ = #[Value.int .i64 1][j]?) X0 := hL.ks.cell
  refine hK _ _ hS ?_
  clear hK K
  try simp only [Act.put, sA, sZ, sS]
  refine hTkI 11 30 ?_
  refine hTkI 12 31 ?_
  refine heldI_done (by kernel_rfl) (noPanic_normal ?_) _
  clear hS
  replace hsz := Nat.le_trans hsz hn.1
  clear hn
  gi_wp2_with fail
  rw [roundsIn_succ]
  gi_wp2_with fail
  refine wpIn_heldI (fun w' : World => ∀ j, w'.cell? ⟨gs, j, none⟩ = #[Value.int .i64 1][j]?) (by kernel_rfl) ?_
  have hd : Below X0.heap.size X0 X0.drew := (Below.refl _ _).drew
  replace hL := hL.below hd
  replace h0 := hJ _ _ _ h0 (calmH_of (belowH_of hd) hsz)
  replace hsz : W.heap.size ≤ X0.drew.heap.size := hsz
  have hS : (fun w' : World => ∀ j, w'.cell? ⟨gs, j, none⟩ = #[Value.int .i64 1][j]?) X0.drew := hL.ks.cell
  clear hd
  generalize X0.drew = V1 at *
  refine hTkI 0 19 ?_
  refine hTkI 1 20 ?_
  refine hTkI 2 21 ?_
  refine hTkI 3 22 ?_
  refine hTkI 4 23 ?_
  refine hTkI 5 24 ?_
  refine hTkI 6 25 ?_
  refine hTkI 7 26 ?_
  refine hTkI 8 27 ?_
  refine hTkI 9 28 ?_
  obtain ⟨fn, tmps, assign, body, hy, hR⟩ := hY 1 #[.agg #[.int .i64 0, .int .i64 1]] V1 (by decide) h0 hL rfl
  refine heldI_yield (i := 10) (by kernel_rfl) rfl rfl (fun K hK => ?_)
  refine ⟨fun _ _ => trivial, ?_⟩
  rw [show Fence.wide.round = none from rfl, Oper.semAt_none]
  go_simp
  refine ⟨fun h => (by cases h), (RoundIn.anyn hR).mono ?_⟩
  clear hR hy hL h0 hS
  rintro e X1 (⟨rfl, h0, hL, hn⟩ | ⟨rfl, h0, hL, hn⟩)
  rotate_left 1
  · have hS : (fun w' : World => ∀ j, w'.cell? ⟨gs, j, none⟩ = #[Value.int .i64 1][j]?) X1 := hL.ks.cell
    refine hK _ _ hS ?_
    clear hK K
    try simp only [Act.put, sA, sZ, sS]
    refine hTkI 11 30 ?_
    refine hTkI 12 31 ?_
    refine heldI_done (by kernel_rfl) (noPanic_normal ?_) _
    clear hS
    gi_wp2_with fail
    refine bodyPost_ret (results_none rfl _ _ _) rfl ?_
    exact ⟨⟨_, rfl⟩, .inr ⟨h0, hL⟩⟩
  have hS : (fun w' : World => ∀ j, w'.cell? ⟨gs, j, none⟩ = #[Value.int .i64 1][j]?) X1 := hL.ks.cell
  refine hK _ _ hS ?_
  clear hK K
  try simp only [Act.put, sA, sZ, sS]
  refine hTkI 11 30 ?_
  refine hTkI 12 31 ?_
  refine heldI_done (by kernel_rfl) (noPanic_normal ?_) _
  clear hS
  replace hsz := Nat.le_trans hsz hn.1
  clear hn
  gi_wp2_with fail
  rw [roundsIn_succ]
  gi_wp2_with fail
  rw [roundsIn_succ]
  gi_wp2_with fail
  go_end0
  exact ⟨⟨_, rfl⟩, .inl ⟨h0, hL⟩⟩
theorem shoots_any (p : Pl) (st : Int) (w : World) : Calls Tryz.prog 113 #[.agg #[.pointer (some ⟨p.c, 0, none⟩), .map (some p.m2)], .int .i64 st] w fun e w' => e = .returned (.func (.func 142) #[] #[.pointer (some ⟨w.heap.size, 0, none⟩), .pointer (some ⟨w.heap.size + 1, 0, none⟩)]) ∧ w' = (w.alloc (.cells #[.pointer (some ⟨p.c, 0, none⟩), .map (some p.m2)] 214)).alloc (.cells #[.int .i64 st] 3) := by
  have hmf := @hmfT Tryz.prog
  go_enter Tryz.func113, Tryz.ntmps113
  go_wp2
  go_ret
  exact ⟨rfl, rfl⟩
end Go.Proofs.YtcmbmmpihiekhaaGreat
