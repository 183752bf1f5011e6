/-
  Courses, walks: passages at the example: how they go on.
-/
import Derived.Test.YtcmbmmpihiekhaaGreatC10
import Derived.LoopNIn
set_option maxRecDepth 100000
set_option maxHeartbeats 16000000
set_option linter.unusedSimpArgs false
set_option linter.unusedVariables false
namespace Go.Proofs.YtcmbmmpihiekhaaGreat
open Go.RowKit Go.Shelf

theorem own_base {w : World} {base base' : Nat} {e : TypeId} {s : Nat} {v : Value} {n : Nat} {ys : List Value} (h : w.ownsRow base e s v n ys) (hb : base' ≤ base) : w.ownsRow base' e s v n ys := by
  refine ⟨h.1, ?_⟩
  rcases h.2 with h2 | ⟨g, cap, cur, h1, h2, h3⟩
  · exact .inl h2
  · exact .inr ⟨g, cap, cur, h1, Nat.le_trans hb h2, h3⟩
theorem nextA_any (p : Pl) (A : Option Addr) (c g3 g4 g5 gY gO gN : Nat) (w : World) (hI : InvC p w) (k3 : Blk w g3 211 #[.pointer (some ⟨p.c, 0, none⟩)]) (k4 : Blk w g4 227 #[.int .i64 0, .int .i64 0, .int .i64 0]) (k5 : Blk w g5 227 #[.int .i64 0, .int .i64 0, .int .i64 0]) (kO : Blk w gO 306 #[.func (.func 174) #[] #[.pointer (some ⟨g3, 0, none⟩), .pointer (some ⟨g4, 0, none⟩), .pointer (some ⟨g5, 0, none⟩), .pointer (some ⟨gY, 0, none⟩)]]) (hs : SlAt w 0 2 Pnt.cells A 1 c [⟨0, 0⟩]) :
    Calls Tryz.prog 177 #[.slice A 1 c, .int .i64 0, .pointer (some ⟨gO, 0, none⟩), .pointer (some ⟨g5, 0, none⟩), .pointer (some ⟨g3, 0, none⟩), .pointer (some ⟨gN, 0, none⟩)] w fun e w' => e = .returned (.bool true) ∧ InvC p w' ∧ BelowH (HM p) w.heap.size w w' := by
  go_enter Tryz.func177, Tryz.ntmps177
  go_wp2_with fail
  refine hOpn (fun w' : World => (∀ j, w'.cell? ⟨gO, j, none⟩ = #[Value.func (.func 174) #[] #[.pointer (some ⟨g3, 0, none⟩), .pointer (some ⟨g4, 0, none⟩), .pointer (some ⟨g5, 0, none⟩), .pointer (some ⟨gY, 0, none⟩)]][j]?) ∧ (∀ j, w'.cell? ⟨g5, j, none⟩ = #[Value.int .i64 0, .int .i64 0, .int .i64 0][j]?)) (fun W' hbb => ⟨(kO.below hbb).cell, (k5.below hbb).cell⟩) fun hSb hb9 hS hg9 => ?_
  generalize w.drew = wd at *
  refine hTk 0 11 ?_
  refine hTk 1 12 ?_
  refine hTk 3 14 ?_
  refine hTk 4 15 ?_
  clear hS
  refine wpAnyH_fin (f := fun a (q : Nat × Nat × Nat × Nat × Nat) => (((((a.put (some 13) (.slice (some ⟨q.1, 0, none⟩) 1 q.2.1)).put (some 16) (.slice (some ⟨q.2.2.1, 0, none⟩) 1 1)).put (some 17) (.slice (some ⟨q.2.2.2.1, 0, none⟩) 2 q.2.2.2.2)).put (some 18) (.bool true)).put (some 19) (.bool false))) (B := fun q W' => InvC p W' ∧ BelowH (HM p) w.heap.size w W') ?_ (fun hrest => ?_)
  rotate_left 1
  · try simp only [Act.put, sA, sZ, sS] at hrest
    refine held_two (i := 2) (j := 5) (by kernel_rfl) rfl rfl rfl rfl (fun K hK => ?_) (fun K hK => ?_)
    · skip
      go_simp
      refine (ClonePt_any _ _ 1 c 0 _ (by decide) (by decide) (hs.below hb9)).mono ?_
      rintro e X1 ⟨gc, pc, rfl, hcl, hbel⟩
      replace hcl := own_base hcl (Nat.le_trans hb9.size (Nat.le_refl _))
      try replace hcl := ownsRow_below hcl hbel
      try replace ks := ks.below hbel
      replace hb9 := hb9.trans (hbel.mono hb9.size)
      refine hK _ _ (hSb.out _ hb9) ?_
      clear hK K hbel
      try simp only [Act.put, sA, sZ, sS]
      refine hOne 5 fun K hK => ?_
      go_simp
      have ks := Blk.new X1 48 #[Value.int .i64 0, .int .i64 0]
      have hbel : Below X1.heap.size X1 (X1.alloc (.cells #[Value.int .i64 0, .int .i64 0] 48)) := (Below.refl _ _).alloc (Nat.le_refl _) _
      generalize X1.alloc (.cells #[Value.int .i64 0, .int .i64 0] 48) = X2 at *
      generalize X1.heap.size = gs at ks ⊢
      try replace hcl := ownsRow_below hcl hbel
      try replace ks := ks.below hbel
      replace hb9 := hb9.trans (hbel.mono hb9.size)
      refine hK _ _ (hSb.out _ hb9) ?_
      clear hK K hbel
      try simp only [Act.put, sA, sZ, sS]
      refine hOne 6 fun K hK => ?_
      obtain ⟨i0, hi0, hz0, hz1, hz2⟩ := info_parts Tryz.infoPntC
      refine wp_append_lies _ _ _ 63 (by rfl) w.heap.size 48 i0 (.agg #[.int .i64 0, .int .i64 0]) 2 16 Tryz.underlying63 hi0 hz0 hz1 hz2 rfl (by omega) (.slice (some ⟨gc, 0, none⟩) 1 pc) 1 [.int .i64 0, .int .i64 0] (by rfl) hcl ⟨gs, 0, none⟩ 1 1 [.int .i64 0, .int .i64 0] (by rfl) rfl (World.news_of_block (cs := #[Value.int .i64 0, .int .i64 0]) ks) (by simp [Value.oneCell']) (by omega) (by decide) (by decide) hb9.size X2.heap.size rfl ?_
      intro g2 c2 X3 hown2 hgrow hlies hlt2
      have hbel : Below w.heap.size X2 X3 := ⟨hgrow.os, hgrow.tape, hgrow.output, hgrow.size, fun b hb2 => hgrow.block b (Nat.lt_of_lt_of_le hb2 hb9.size) (fun e => by have := (hcl.lt _ e.symm).1; omega)⟩
      replace hb9 := hb9.trans hbel
      refine hK _ _ (hSb.out _ hb9) ?_
      clear hK K hbel hgrow hlies
      try simp only [Act.put, sA, sZ, sS]
      obtain ⟨A2, c9, hA9, hs2⟩ := SlAt.of_own (enc := Pnt.cells) hown2 (by decide) [⟨0, 0⟩, ⟨0, 0⟩] rfl (fun _ => rfl) rfl
      simp only [Value.slice.injEq, true_and] at hA9
      obtain ⟨rfl, rfl⟩ := hA9
      replace hs2 := hs2.mono (Nat.zero_le _)
      refine hOne 7 fun K hK => ?_
      go_simp
      refine (offerB_any p _ c2 g3 g4 g5 gY _ (hI.below hb9) (k3.below hb9) (k4.below hb9) (k5.below hb9) hs2).mono ?_
      rintro e Y9 ⟨rfl, hJ9, hbH⟩
      have hS9 : (fun w' : World => (∀ j, w'.cell? ⟨gO, j, none⟩ = #[Value.func (.func 174) #[] #[.pointer (some ⟨g3, 0, none⟩), .pointer (some ⟨g4, 0, none⟩), .pointer (some ⟨g5, 0, none⟩), .pointer (some ⟨gY, 0, none⟩)]][j]?) ∧ (∀ j, w'.cell? ⟨g5, j, none⟩ = #[Value.int .i64 0, .int .i64 0, .int .i64 0][j]?)) Y9 := ⟨(hbH.blk (kO.below hb9) (kO.below hb9).lt ((hI.below hb9).off (kO.below hb9))).cell, (hbH.blk (k5.below hb9) (k5.below hb9).lt ((hI.below hb9).off (k5.below hb9))).cell⟩
      refine hK _ _ hS9 ?_
      clear hK K
      try simp only [Act.put, sA, sZ, sS]
      refine hTk 8 19 ?_
      refine wpAnyH_done (by kernel_rfl) (hrest (gc, pc, gs, g2, c2) _ ⟨hJ9, (belowH_of hb9).trans (hbH.mono hb9.size)⟩) _
    · skip
      go_simp
      have ks := Blk.new wd 48 #[Value.int .i64 0, .int .i64 0]
      have hbel : Below wd.heap.size wd (wd.alloc (.cells #[Value.int .i64 0, .int .i64 0] 48)) := (Below.refl _ _).alloc (Nat.le_refl _) _
      generalize wd.alloc (.cells #[Value.int .i64 0, .int .i64 0] 48) = X4 at *
      generalize wd.heap.size = gs at ks ⊢
      try replace hcl := ownsRow_below hcl hbel
      try replace ks := ks.below hbel
      replace hb9 := hb9.trans (hbel.mono hb9.size)
      refine hK _ _ (hSb.out _ hb9) ?_
      clear hK K hbel
      try simp only [Act.put, sA, sZ, sS]
      refine hOne 2 fun K hK => ?_
      go_simp
      refine (ClonePt_any _ _ 1 c 0 _ (by decide) (by decide) (hs.below hb9)).mono ?_
      rintro e X5 ⟨gc, pc, rfl, hcl, hbel⟩
      replace hcl := own_base hcl (Nat.le_trans hb9.size (Nat.le_refl _))
      try replace hcl := ownsRow_below hcl hbel
      try replace ks := ks.below hbel
      replace hb9 := hb9.trans (hbel.mono hb9.size)
      refine hK _ _ (hSb.out _ hb9) ?_
      clear hK K hbel
      try simp only [Act.put, sA, sZ, sS]
      refine hOne 6 fun K hK => ?_
      obtain ⟨i0, hi0, hz0, hz1, hz2⟩ := info_parts Tryz.infoPntC
      refine wp_append_lies _ _ _ 63 (by rfl) w.heap.size 48 i0 (.agg #[.int .i64 0, .int .i64 0]) 2 16 Tryz.underlying63 hi0 hz0 hz1 hz2 rfl (by omega) (.slice (some ⟨gc, 0, none⟩) 1 pc) 1 [.int .i64 0, .int .i64 0] (by rfl) hcl ⟨gs, 0, none⟩ 1 1 [.int .i64 0, .int .i64 0] (by rfl) rfl (World.news_of_block (cs := #[Value.int .i64 0, .int .i64 0]) ks) (by simp [Value.oneCell']) (by omega) (by decide) (by decide) hb9.size X5.heap.size rfl ?_
      intro g2 c2 X6 hown2 hgrow hlies hlt2
      have hbel : Below w.heap.size X5 X6 := ⟨hgrow.os, hgrow.tape, hgrow.output, hgrow.size, fun b hb2 => hgrow.block b (Nat.lt_of_lt_of_le hb2 hb9.size) (fun e => by have := (hcl.lt _ e.symm).1; omega)⟩
      replace hb9 := hb9.trans hbel
      refine hK _ _ (hSb.out _ hb9) ?_
      clear hK K hbel hgrow hlies
      try simp only [Act.put, sA, sZ, sS]
      obtain ⟨A2, c9, hA9, hs2⟩ := SlAt.of_own (enc := Pnt.cells) hown2 (by decide) [⟨0, 0⟩, ⟨0, 0⟩] rfl (fun _ => rfl) rfl
      simp only [Value.slice.injEq, true_and] at hA9
      obtain ⟨rfl, rfl⟩ := hA9
      replace hs2 := hs2.mono (Nat.zero_le _)
      refine hOne 7 fun K hK => ?_
      go_simp
      refine (offerB_any p _ c2 g3 g4 g5 gY _ (hI.below hb9) (k3.below hb9) (k4.below hb9) (k5.below hb9) hs2).mono ?_
      rintro e Y9 ⟨rfl, hJ9, hbH⟩
      have hS9 : (fun w' : World => (∀ j, w'.cell? ⟨gO, j, none⟩ = #[Value.func (.func 174) #[] #[.pointer (some ⟨g3, 0, none⟩), .pointer (some ⟨g4, 0, none⟩), .pointer (some ⟨g5, 0, none⟩), .pointer (some ⟨gY, 0, none⟩)]][j]?) ∧ (∀ j, w'.cell? ⟨g5, j, none⟩ = #[Value.int .i64 0, .int .i64 0, .int .i64 0][j]?)) Y9 := ⟨(hbH.blk (kO.below hb9) (kO.below hb9).lt ((hI.below hb9).off (kO.below hb9))).cell, (hbH.blk (k5.below hb9) (k5.below hb9).lt ((hI.below hb9).off (k5.below hb9))).cell⟩
      refine hK _ _ hS9 ?_
      clear hK K
      try simp only [Act.put, sA, sZ, sS]
      refine hTk 8 19 ?_
      refine wpAnyH_done (by kernel_rfl) (hrest (gc, pc, gs, g2, c2) _ ⟨hJ9, (belowH_of hb9).trans (hbH.mono hb9.size)⟩) _
  · rintro ⟨gc, pc, gs, g2, c2⟩ W9 ⟨hJ, hb⟩
    try simp only [Act.put, sA, sZ, sS]
    refine noPanic_normal ?_
    clear hSb hb9 hg9
    have k3z := hb.blk k3 k3.lt (hI.off k3)
    obtain ⟨c3, f3, l3⟩ := k3z.rules
    obtain ⟨cc, fc, lc⟩ := hJ.kc.rules
    go_wp2_with fail
    refine wp_loop_rounds 1 ?_
    rw [rounds_succ]
    go_wp2
    go_ret
    exact ⟨rfl, hJ, hb⟩
theorem nextC_any (m l : Nat) (p : Pl) (A : Option Addr) (c g3 g4 g5 gY gO gN : Nat) (w : World) (hI : InvC p w) (k3 : Blk w g3 211 #[.pointer (some ⟨p.c, 0, none⟩)]) (k4 : Blk w g4 227 #[.int .i64 0, .int .i64 0, .int .i64 0]) (k5 : Blk w g5 227 #[.int .i64 10, .int .i64 0, .int .i64 3]) (kO : Blk w gO 306 #[.func (.func 174) #[] #[.pointer (some ⟨g3, 0, none⟩), .pointer (some ⟨g4, 0, none⟩), .pointer (some ⟨g5, 0, none⟩), .pointer (some ⟨gY, 0, none⟩)]]) (hs : SlAt w 0 2 Pnt.cells A 1 c [⟨0, 0⟩]) (kY : Blk w gY 292 #[.func (.yield l) #[] #[]]) (Jt Jf : World → Prop) (hKt : ∀ W', Jt W' → InvC p W' ∧ Blk W' gY 292 #[.func (.yield l) #[] #[]] ∧ Blk W' g3 211 #[.pointer (some ⟨p.c, 0, none⟩)]) (hKf : ∀ W', Jf W' → Blk W' gY 292 #[.func (.yield l) #[] #[]])
    (hSt : ∀ W', Jt W' ∨ Jf W' → (∀ j, W'.cell? ⟨gO, j, none⟩ = #[Value.func (.func 174) #[] #[.pointer (some ⟨g3, 0, none⟩), .pointer (some ⟨g4, 0, none⟩), .pointer (some ⟨g5, 0, none⟩), .pointer (some ⟨gY, 0, none⟩)]][j]?) ∧ (∀ j, W'.cell? ⟨g5, j, none⟩ = #[Value.int .i64 10, .int .i64 0, .int .i64 3][j]?))
    (hY : ∀ (vs : Array Value) (W1 : World), (∃ B n k, vs = #[.agg #[.slice B n k, .int .i64 14]]) → InvC p W1 → BelowH (HM p) w.heap.size w W1 → YieldAt Fence.wide 0 Tryz.prog l vs W1 fun e W' => (e = .returned (.bool true) ∧ Jt W') ∨ (e = .returned (.bool false) ∧ Jf W')) :
    CallsIn Fence.wide m Tryz.prog 177 #[.slice A 1 c, .int .i64 0, .pointer (some ⟨gO, 0, none⟩), .pointer (some ⟨g5, 0, none⟩), .pointer (some ⟨g3, 0, none⟩), .pointer (some ⟨gN, 0, none⟩)] w fun e W' => (e = .returned (.bool true) ∧ Jt W') ∨ (e = .returned (.bool false) ∧ Jf W') := by
  refine callsIn_of_wp Tryz.func177 rfl trivial ?_ rfl
  simp only [Tryz.ntmps177, List.size_toArray, List.length_cons, List.length_nil, Nat.reduceAdd, Nat.reduceSub, Array.replicate_succ, Array.replicate_zero, List.push_toArray, List.append_toArray, List.nil_append, List.cons_append]
  gi_wp2_with fail
  refine wpIn_heldI (fun w' : World => (∀ j, w'.cell? ⟨gO, j, none⟩ = #[Value.func (.func 174) #[] #[.pointer (some ⟨g3, 0, none⟩), .pointer (some ⟨g4, 0, none⟩), .pointer (some ⟨g5, 0, none⟩), .pointer (some ⟨gY, 0, none⟩)]][j]?) ∧ (∀ j, w'.cell? ⟨g5, j, none⟩ = #[Value.int .i64 10, .int .i64 0, .int .i64 3][j]?)) (by kernel_rfl) ?_
  have hSb : Hid (∀ W', Below w.heap.size w W' → (fun w' : World => (∀ j, w'.cell? ⟨gO, j, none⟩ = #[Value.func (.func 174) #[] #[.pointer (some ⟨g3, 0, none⟩), .pointer (some ⟨g4, 0, none⟩), .pointer (some ⟨g5, 0, none⟩), .pointer (some ⟨gY, 0, none⟩)]][j]?) ∧ (∀ j, w'.cell? ⟨g5, j, none⟩ = #[Value.int .i64 10, .int .i64 0, .int .i64 3][j]?)) W') := by
    show ∀ _, _
    intro W' hbb
    exact ⟨(kO.below hbb).cell, (k5.below hbb).cell⟩
  have hb9 : Below w.heap.size w w.drew := (Below.refl _ _).drew
  have hS := hSb.out _ hb9
  have hg9 : w.heap.size ≤ w.drew.heap.size := Nat.le_refl _
  generalize w.drew = wd at *
  refine hTkI 0 11 ?_
  refine hTkI 1 12 ?_
  refine hTkI 3 14 ?_
  refine hTkI 4 15 ?_
  clear hS
  refine wpAnyHI_fin (f := fun a (q : Nat × Nat × Nat × Nat × Nat × Bool) => (((((a.put (some 13) (.slice (some ⟨q.1, 0, none⟩) 1 q.2.1)).put (some 16) (.slice (some ⟨q.2.2.1, 0, none⟩) 1 1)).put (some 17) (.slice (some ⟨q.2.2.2.1, 0, none⟩) 2 q.2.2.2.2.1)).put (some 18) (.bool q.2.2.2.2.2)).put (some 19) (.bool (!q.2.2.2.2.2)))) (B := fun q W' => if q.2.2.2.2.2 = true then Jt W' else Jf W') ?_ (fun hrest => ?_)
  rotate_left 1
  · try simp only [Act.put, sA, sZ, sS] at hrest
    refine heldI_two (i := 2) (j := 5) (by kernel_rfl) rfl rfl rfl rfl (fun K hK => ?_) (fun K hK => ?_)
    · skip
      go_simp
      refine (ClonePt_any _ _ 1 c 0 _ (by decide) (by decide) (hs.below hb9)).mono ?_
      rintro e X7 ⟨gc, pc, rfl, hcl, hbel⟩
      replace hcl := own_base hcl (Nat.le_trans hb9.size (Nat.le_refl _))
      try replace hcl := ownsRow_below hcl hbel
      try replace ks := ks.below hbel
      replace hb9 := hb9.trans (hbel.mono hb9.size)
      refine hK _ _ (hSb.out _ hb9) ?_
      clear hK K hbel
      try simp only [Act.put, sA, sZ, sS]
      refine hOneI 5 fun K hK => ?_
      go_simp
      have ks := Blk.new X7 48 #[Value.int .i64 10, .int .i64 0]
      have hbel : Below X7.heap.size X7 (X7.alloc (.cells #[Value.int .i64 10, .int .i64 0] 48)) := (Below.refl _ _).alloc (Nat.le_refl _) _
      generalize X7.alloc (.cells #[Value.int .i64 10, .int .i64 0] 48) = X8 at *
      generalize X7.heap.size = gs at ks ⊢
      try replace hcl := ownsRow_below hcl hbel
      try replace ks := ks.below hbel
      replace hb9 := hb9.trans (hbel.mono hb9.size)
      refine hK _ _ (hSb.out _ hb9) ?_
      clear hK K hbel
      try simp only [Act.put, sA, sZ, sS]
      refine hOneI 6 fun K hK => ?_
      obtain ⟨i0, hi0, hz0, hz1, hz2⟩ := info_parts Tryz.infoPntC
      refine wp_append_lies _ _ _ 63 (by rfl) w.heap.size 48 i0 (.agg #[.int .i64 0, .int .i64 0]) 2 16 Tryz.underlying63 hi0 hz0 hz1 hz2 rfl (by omega) (.slice (some ⟨gc, 0, none⟩) 1 pc) 1 [.int .i64 0, .int .i64 0] (by rfl) hcl ⟨gs, 0, none⟩ 1 1 [.int .i64 10, .int .i64 0] (by rfl) rfl (World.news_of_block (cs := #[Value.int .i64 10, .int .i64 0]) ks) (by simp [Value.oneCell']) (by omega) (by decide) (by decide) hb9.size X8.heap.size rfl ?_
      intro g2 c2 X9 hown2 hgrow hlies hlt2
      have hbel : Below w.heap.size X8 X9 := ⟨hgrow.os, hgrow.tape, hgrow.output, hgrow.size, fun b hb2 => hgrow.block b (Nat.lt_of_lt_of_le hb2 hb9.size) (fun e => by have := (hcl.lt _ e.symm).1; omega)⟩
      replace hb9 := hb9.trans hbel
      refine hK _ _ (hSb.out _ hb9) ?_
      clear hK K hbel hgrow hlies
      try simp only [Act.put, sA, sZ, sS]
      obtain ⟨A2, c9, hA9, hs2⟩ := SlAt.of_own (enc := Pnt.cells) hown2 (by decide) [⟨0, 0⟩, ⟨10, 0⟩] rfl (fun _ => rfl) rfl
      simp only [Value.slice.injEq, true_and] at hA9
      obtain ⟨rfl, rfl⟩ := hA9
      replace hs2 := hs2.mono (Nat.zero_le _)
      refine heldI_yield (i := 7) (by kernel_rfl) rfl rfl (fun K hK => ?_)
      refine ⟨fun _ _ => trivial, ?_⟩
      rw [show Fence.wide.round = none from rfl, Oper.semAt_none]
      go_simp
      refine ⟨fun h => (by cases h), (offerC_any _ l p _ c2 g3 g4 g5 gY _ (hI.below hb9) (k3.below hb9) (k4.below hb9) (k5.below hb9) (kY.below hb9) hs2 Jt Jf (fun W' h => (hKt W' h).2.1) hKf (fun vs W1 h1 h2 h3 => hY vs W1 h1 h2 ((belowH_of hb9).trans (h3.mono hb9.size)))).mono ?_⟩
      rintro e Y9 (⟨rfl, hj⟩ | ⟨rfl, hj⟩)
      · have hS9 := hSt _ (.inl hj)
        refine hK _ _ hS9 ?_
        clear hK K
        try simp only [Act.put, sA, sZ, sS]
        refine hTkI 8 19 ?_
        exact heldI_done (by kernel_rfl) (hrest (gc, pc, gs, g2, c2, true) _ hj) _
      · have hS9 := hSt _ (.inr hj)
        refine hK _ _ hS9 ?_
        clear hK K
        try simp only [Act.put, sA, sZ, sS]
        refine hTkI 8 19 ?_
        exact heldI_done (by kernel_rfl) (hrest (gc, pc, gs, g2, c2, false) _ hj) _
    · skip
      go_simp
      have ks := Blk.new wd 48 #[Value.int .i64 10, .int .i64 0]
      have hbel : Below wd.heap.size wd (wd.alloc (.cells #[Value.int .i64 10, .int .i64 0] 48)) := (Below.refl _ _).alloc (Nat.le_refl _) _
      generalize wd.alloc (.cells #[Value.int .i64 10, .int .i64 0] 48) = X10 at *
      generalize wd.heap.size = gs at ks ⊢
      try replace hcl := ownsRow_below hcl hbel
      try replace ks := ks.below hbel
      replace hb9 := hb9.trans (hbel.mono hb9.size)
      refine hK _ _ (hSb.out _ hb9) ?_
      clear hK K hbel
      try simp only [Act.put, sA, sZ, sS]
      refine hOneI 2 fun K hK => ?_
      go_simp
      refine (ClonePt_any _ _ 1 c 0 _ (by decide) (by decide) (hs.below hb9)).mono ?_
      rintro e X11 ⟨gc, pc, rfl, hcl, hbel⟩
      replace hcl := own_base hcl (Nat.le_trans hb9.size (Nat.le_refl _))
      try replace hcl := ownsRow_below hcl hbel
      try replace ks := ks.below hbel
      replace hb9 := hb9.trans (hbel.mono hb9.size)
      refine hK _ _ (hSb.out _ hb9) ?_
      clear hK K hbel
      try simp only [Act.put, sA, sZ, sS]
      refine hOneI 6 fun K hK => ?_
      obtain ⟨i0, hi0, hz0, hz1, hz2⟩ := info_parts Tryz.infoPntC
      refine wp_append_lies _ _ _ 63 (by rfl) w.heap.size 48 i0 (.agg #[.int .i64 0, .int .i64 0]) 2 16 Tryz.underlying63 hi0 hz0 hz1 hz2 rfl (by omega) (.slice (some ⟨gc, 0, none⟩) 1 pc) 1 [.int .i64 0, .int .i64 0] (by rfl) hcl ⟨gs, 0, none⟩ 1 1 [.int .i64 10, .int .i64 0] (by rfl) rfl (World.news_of_block (cs := #[Value.int .i64 10, .int .i64 0]) ks) (by simp [Value.oneCell']) (by omega) (by decide) (by decide) hb9.size X11.heap.size rfl ?_
      intro g2 c2 X12 hown2 hgrow hlies hlt2
      have hbel : Below w.heap.size X11 X12 := ⟨hgrow.os, hgrow.tape, hgrow.output, hgrow.size, fun b hb2 => hgrow.block b (Nat.lt_of_lt_of_le hb2 hb9.size) (fun e => by have := (hcl.lt _ e.symm).1; omega)⟩
      replace hb9 := hb9.trans hbel
      refine hK _ _ (hSb.out _ hb9) ?_
      clear hK K hbel hgrow hlies
      try simp only [Act.put, sA, sZ, sS]
      obtain ⟨A2, c9, hA9, hs2⟩ := SlAt.of_own (enc := Pnt.cells) hown2 (by decide) [⟨0, 0⟩, ⟨10, 0⟩] rfl (fun _ => rfl) rfl
      simp only [Value.slice.injEq, true_and] at hA9
      obtain ⟨rfl, rfl⟩ := hA9
      replace hs2 := hs2.mono (Nat.zero_le _)
      refine heldI_yield (i := 7) (by kernel_rfl) rfl rfl (fun K hK => ?_)
      refine ⟨fun _ _ => trivial, ?_⟩
      rw [show Fence.wide.round = none from rfl, Oper.semAt_none]
      go_simp
      refine ⟨fun h => (by cases h), (offerC_any _ l p _ c2 g3 g4 g5 gY _ (hI.below hb9) (k3.below hb9) (k4.below hb9) (k5.below hb9) (kY.below hb9) hs2 Jt Jf (fun W' h => (hKt W' h).2.1) hKf (fun vs W1 h1 h2 h3 => hY vs W1 h1 h2 ((belowH_of hb9).trans (h3.mono hb9.size)))).mono ?_⟩
      rintro e Y9 (⟨rfl, hj⟩ | ⟨rfl, hj⟩)
      · have hS9 := hSt _ (.inl hj)
        refine hK _ _ hS9 ?_
        clear hK K
        try simp only [Act.put, sA, sZ, sS]
        refine hTkI 8 19 ?_
        exact heldI_done (by kernel_rfl) (hrest (gc, pc, gs, g2, c2, true) _ hj) _
      · have hS9 := hSt _ (.inr hj)
        refine hK _ _ hS9 ?_
        clear hK K
        try simp only [Act.put, sA, sZ, sS]
        refine hTkI 8 19 ?_
        exact heldI_done (by kernel_rfl) (hrest (gc, pc, gs, g2, c2, false) _ hj) _
  · rintro ⟨gc, pc, gs, g2, c2, r⟩ W9 hj
    try simp only [Act.put, sA, sZ, sS]
    refine noPanic_normal ?_
    clear hSb hb9 hg9
    cases r with
    | true =>
      have hj : Jt W9 := hj
      obtain ⟨hJ, -, k3z⟩ := hKt _ hj
      obtain ⟨c3, f3, l3⟩ := k3z.rules
      obtain ⟨cc, fc, lc⟩ := hJ.kc.rules
      gi_wp2_with fail
      refine wpIn_loop_rounds 1 ?_
      rw [roundsIn_succ]
      gi_wp2_with fail
      go_ret
      exact .inl ⟨rfl, hj⟩
    | false =>
      have hj : Jf W9 := hj
      gi_wp2_with fail
      go_ret
      exact .inr ⟨rfl, hj⟩
end Go.Proofs.YtcmbmmpihiekhaaGreat
