/-
  The package fix, walks: a step with the observation; the closure that steps; failed.
-/
import Derived.Test.YtcmbmmpihiekhaaGreatC24
set_option maxRecDepth 100000
set_option maxHeartbeats 16000000
set_option linter.unusedSimpArgs false
set_option linter.unusedVariables false
namespace Go.Proofs.YtcmbmmpihiekhaaGreat
open Go.RowKit Go.Shelf
attribute [local go_sem] Oper.semAt_some

theorem BelowH.setCell {H : Nat → Prop} {B : Nat} {a b : World} (h : BelowH H B a b) {p : Addr} (hp : H p.block) (v : Value) : BelowH H B a (b.setCell p v) :=
  h.trans ⟨rfl, rfl, rfl, by simp [World.setCell], fun k _ hk => Below.heap_setCell b p v k (fun e => hk (e ▸ hp))⟩
theorem BelowH.weak {H K : Nat → Prop} {B : Nat} {a b : World} (h : BelowH H B a b) (hk : ∀ k, H k → K k) : BelowH K B a b := ⟨h.os, h.tape, h.output, h.size, fun i hi hn => h.block i hi (fun x => hn (hk i x))⟩
theorem stepA_any (gn c co : Nat) (O : Option Addr) (w : World) (hn : RowB w gn 68 [Value.int .i64 0, Value.int .i64 0, Value.int .i64 0, Value.int .i64 0, Value.int .i64 0, Value.int .i64 0, Value.int .i64 0, Value.int .i64 0, Value.int .i64 0, Value.int .i64 9, Value.int .i64 0, Value.int .i64 9, Value.int .i64 0, Value.int .i64 18, Value.int .i64 (-9), Value.int .i64 9]) : Calls Tryz.prog 127 #[.agg #[.slice (some ⟨gn, 0, none⟩) 2 c, .slice O 1 co], .iface 242 (.agg #[.int .i64 0, .int .i64 1, .int .i64 0, .int .i64 2])] w fun e w' => e = .returned (.bool true) ∧ RowB w' gn 68 [Value.int .i64 0, Value.int .i64 0, Value.int .i64 0, Value.int .i64 0, Value.int .i64 0, Value.int .i64 0, Value.int .i64 0, Value.int .i64 0, Value.int .i64 0, Value.int .i64 1, Value.int .i64 0, Value.int .i64 1, Value.int .i64 0, Value.int .i64 2, Value.int .i64 (-1), Value.int .i64 1] ∧ BelowH (fun k => k = gn) w.heap.size w w' := by
  have hnd := fun W => lnodes_any W
  have hsp := fun W => span_any W
  have hbk := fun W => back_any sp0 W (by simp [smR, smB, sp0])
  simp only [ngR, ngB, sp0, Int.neg_neg] at hbk
  have hw1 := fun W => window_any ⟨⟨0, 9⟩, ⟨0, 9⟩, ⟨0, 18⟩, ⟨-9, 9⟩⟩ sp0 W (by simp [smR, smB]) (by simp [smR, smB, sp0])
  simp only [sp0] at hw1
  have hw2 := fun W => window_any ⟨⟨0, 0⟩, ⟨0, 0⟩, ⟨0, 0⟩, ⟨0, 0⟩⟩ sp0 W (by simp [smR, smB]) (by simp [smR, smB, sp0])
  simp only [sp0] at hw2
  have hc1 := fun W => fcut_any ⟨⟨0, 0⟩, ⟨0, 0⟩, ⟨0, 0⟩, ⟨0, 0⟩⟩ ⟨⟨-1, 10⟩, ⟨-1, 10⟩, ⟨-2, 20⟩, ⟨-11, 11⟩⟩ ⟨⟨0, 0⟩, ⟨0, 0⟩, ⟨0, 0⟩, ⟨0, 0⟩⟩ W (by decide +kernel) (by decide +kernel) (by decide +kernel) (by decide +kernel)
  have hc2 := fun W => fcut_any ⟨⟨0, 9⟩, ⟨0, 9⟩, ⟨0, 18⟩, ⟨-9, 9⟩⟩ ⟨⟨-1, 1⟩, ⟨-1, 1⟩, ⟨-2, 2⟩, ⟨-2, 2⟩⟩ ⟨⟨0, 1⟩, ⟨0, 1⟩, ⟨0, 2⟩, ⟨-1, 1⟩⟩ W (by decide +kernel) (by decide +kernel) (by decide +kernel) (by decide +kernel)
  simp only [Int.reduceAdd, Int.reduceNeg, Int.zero_add, Int.add_zero] at hbk hw1 hw2 hc1 hc2
  have hm1 : ∀ w : World, (method 108 242 (.agg #[.int .i64 0, .int .i64 1, .int .i64 0, .int .i64 2]) "paravane/fix.nodes").run Tryz.prog w = .ok (226, .agg #[.int .i64 0, .int .i64 1]) w := fun _ => by kernel_rfl
  have hm2 : ∀ w : World, (method 108 242 (.agg #[.int .i64 0, .int .i64 1, .int .i64 0, .int .i64 2]) "paravane/fix.span").run Tryz.prog w = .ok (228, .agg #[.int .i64 0, .int .i64 1, .int .i64 0, .int .i64 2]) w := fun _ => by kernel_rfl
  obtain ⟨tl, hn⟩ := hn
  simp only [List.cons_append, List.nil_append] at hn
  obtain ⟨W, hW⟩ : ∃ q0, q0 = (w.alloc (.cells #[.slice (some ⟨gn, 0, none⟩) 2 c, .slice O 1 co] 102)) := ⟨_, rfl⟩
  have k2 : Blk W (w.heap.size) 102 #[.slice (some ⟨gn, 0, none⟩) 2 c, .slice O 1 co] := by rw [hW]; exact (Blk.new _ _ _)
  have b : Below w.heap.size w W := by rw [hW]; exact ((Below.refl _ _).alloc (Nat.le_refl _) _)
  go_enter Tryz.func127, Tryz.ntmps127
  go_upto_region 1 with fail
  rw [← hW]
  clear hW
  have hgn := hn.lt
  replace hn := hn.belowB b hgn
  go_wp2_with fail
  refine (hnd _).mono ?_
  rintro e W1 ⟨rfl, hb⟩
  replace k2 := k2.below hb
  replace hn := hn.below hb
  replace b := b.trans (hb.mono b.size)
  clear hb
  have hz1 := b.size
  go_wp2_with fail
  refine hOpn (fun w' : World => (∀ j, w'.cell? ⟨w.heap.size, j, none⟩ = #[Value.slice (some ⟨gn, 0, none⟩) 2 c, .slice O 1 co][j]?) ∧ (∀ j, w'.cell? ⟨gn, j, none⟩ = (Value.int .i64 0 :: Value.int .i64 0 :: Value.int .i64 0 :: Value.int .i64 0 :: Value.int .i64 0 :: Value.int .i64 0 :: Value.int .i64 0 :: Value.int .i64 0 :: Value.int .i64 0 :: Value.int .i64 9 :: Value.int .i64 0 :: Value.int .i64 9 :: Value.int .i64 0 :: Value.int .i64 18 :: Value.int .i64 (-9) :: Value.int .i64 9 :: tl).toArray[j]?)) (fun W' hbb => ⟨(k2.below hbb).cell, (hn.below hbb).cell⟩) fun hSb hb9 hS hg9 => ?_
  generalize W1.drew = wd at *
  refine hTk 0 15 ?_
  refine hTk 1 16 ?_
  refine hTk 2 17 ?_
  refine hTk 3 18 ?_
  refine hTk 4 19 ?_
  refine hTk 5 20 ?_
  refine hTk 6 21 ?_
  refine hTk 7 22 ?_
  refine hTk 8 23 ?_
  refine hTk 9 24 ?_
  refine hTk 10 25 ?_
  clear hS
  refine wpAnyH_fin (f := fun a (q : Nat) => (((((a.put (some 26) (.agg #[.int .i64 (-1), .int .i64 1, .int .i64 (-1), .int .i64 1, .int .i64 (-2), .int .i64 2, .int .i64 (-2), .int .i64 2])).put (some 27) (.agg #[.int .i64 (-1), .int .i64 1, .int .i64 (-1), .int .i64 1, .int .i64 (-2), .int .i64 2, .int .i64 (-2), .int .i64 2])).put (some 28) (.agg #[.int .i64 (-1), .int .i64 10, .int .i64 (-1), .int .i64 10, .int .i64 (-2), .int .i64 20, .int .i64 (-11), .int .i64 11])).put (some 29) (.agg #[.int .i64 0, .int .i64 0, .int .i64 0, .int .i64 0, .int .i64 0, .int .i64 0, .int .i64 0, .int .i64 0])).put (some 7) (.pointer (some ⟨q, 0, none⟩)))) (B := fun q W' => Blk W' q 68 #[Value.int .i64 0, .int .i64 0, .int .i64 0, .int .i64 0, .int .i64 0, .int .i64 0, .int .i64 0, .int .i64 0] ∧ W1.heap.size ≤ q ∧ Below W1.heap.size W1 W') ?_ (fun hrest => ?_)
  rotate_left 1
  · try simp only [Act.put, sA, sZ, sS] at hrest
    refine held_two (i := 11) (j := 15) (by kernel_rfl) rfl rfl rfl rfl (fun K hK => ?_) (fun K hK => ?_)
    · skip
      go_simp
      refine (hsp _).mono ?_
      rintro e X1 ⟨rfl, hbel⟩
      try replace k7 := k7.below hbel
      replace hb9 := hb9.trans (hbel.mono hb9.size)
      refine hK _ _ (hSb.out _ hb9) ?_
      clear hK K hbel
      try simp only [Act.put, sA, sZ, sS]
      refine held_two (i := 12) (j := 15) (by kernel_rfl) rfl rfl rfl rfl (fun K hK => ?_) (fun K hK => ?_)
      · skip
        go_simp
        refine (hbk _).mono ?_
        rintro e X2 ⟨rfl, hbel⟩
        try replace k7 := k7.below hbel
        replace hb9 := hb9.trans (hbel.mono hb9.size)
        refine hK _ _ (hSb.out _ hb9) ?_
        clear hK K hbel
        try simp only [Act.put, sA, sZ, sS]
        refine held_two (i := 13) (j := 15) (by kernel_rfl) rfl rfl rfl rfl (fun K hK => ?_) (fun K hK => ?_)
        · skip
          go_simp
          refine (hw1 _).mono ?_
          rintro e X3 ⟨rfl, hbel⟩
          try replace k7 := k7.below hbel
          replace hb9 := hb9.trans (hbel.mono hb9.size)
          refine hK _ _ (hSb.out _ hb9) ?_
          clear hK K hbel
          try simp only [Act.put, sA, sZ, sS]
          refine held_two (i := 14) (j := 15) (by kernel_rfl) rfl rfl rfl rfl (fun K hK => ?_) (fun K hK => ?_)
          · skip
            go_simp
            refine (hc1 _).mono ?_
            rintro e X4 ⟨rfl, hbel⟩
            try replace k7 := k7.below hbel
            replace hb9 := hb9.trans (hbel.mono hb9.size)
            refine hK _ _ (hSb.out _ hb9) ?_
            clear hK K hbel
            try simp only [Act.put, sA, sZ, sS]
            refine hOne 15 fun K hK => ?_
            go_simp
            have k7 := Blk.new X4 68 #[Value.int .i64 0, .int .i64 0, .int .i64 0, .int .i64 0, .int .i64 0, .int .i64 0, .int .i64 0, .int .i64 0]
            have gqw := hb9.size
            have hbel : Below X4.heap.size X4 (X4.alloc (.cells #[Value.int .i64 0, .int .i64 0, .int .i64 0, .int .i64 0, .int .i64 0, .int .i64 0, .int .i64 0, .int .i64 0] 68)) := (Below.refl _ _).alloc (Nat.le_refl _) _
            generalize X4.alloc (.cells #[Value.int .i64 0, .int .i64 0, .int .i64 0, .int .i64 0, .int .i64 0, .int .i64 0, .int .i64 0, .int .i64 0] 68) = X5 at *
            generalize X4.heap.size = gq at k7 gqw ⊢
            replace hb9 := hb9.trans (hbel.mono hb9.size)
            refine hK _ _ (hSb.out _ hb9) ?_
            clear hK K hbel
            try simp only [Act.put, sA, sZ, sS]
            refine hOne 16 fun K hK => ?_
            have kz := k7.set8 (.int .i64 0) (.int .i64 0) (.int .i64 0) (.int .i64 0) (.int .i64 0) (.int .i64 0) (.int .i64 0) (.int .i64 0)
            have bz := below_set8 (g := gq) hb9 gqw (.int .i64 0) (.int .i64 0) (.int .i64 0) (.int .i64 0) (.int .i64 0) (.int .i64 0) (.int .i64 0) (.int .i64 0)
            obtain ⟨X6, hwz⟩ : ∃ x, x = set8 X5 gq (.int .i64 0) (.int .i64 0) (.int .i64 0) (.int .i64 0) (.int .i64 0) (.int .i64 0) (.int .i64 0) (.int .i64 0) := ⟨_, rfl⟩
            rw [← hwz] at kz bz
            simp only [set8] at hwz
            obtain ⟨c9, f9, l9⟩ := k7.rules
            go_simp
            rw [← hwz]
            clear hwz c9 f9 l9
            refine hK _ _ (hSb.out _ bz) ?_
            clear hK K
            try simp only [Act.put, sA, sZ, sS]
            refine wpAnyH_done (by kernel_rfl) (hrest gq _ ⟨kz, gqw, bz⟩) _
          · skip
            go_simp
            have k7 := Blk.new X3 68 #[Value.int .i64 0, .int .i64 0, .int .i64 0, .int .i64 0, .int .i64 0, .int .i64 0, .int .i64 0, .int .i64 0]
            have gqw := hb9.size
            have hbel : Below X3.heap.size X3 (X3.alloc (.cells #[Value.int .i64 0, .int .i64 0, .int .i64 0, .int .i64 0, .int .i64 0, .int .i64 0, .int .i64 0, .int .i64 0] 68)) := (Below.refl _ _).alloc (Nat.le_refl _) _
            generalize X3.alloc (.cells #[Value.int .i64 0, .int .i64 0, .int .i64 0, .int .i64 0, .int .i64 0, .int .i64 0, .int .i64 0, .int .i64 0] 68) = X7 at *
            generalize X3.heap.size = gq at k7 gqw ⊢
            replace hb9 := hb9.trans (hbel.mono hb9.size)
            refine hK _ _ (hSb.out _ hb9) ?_
            clear hK K hbel
            try simp only [Act.put, sA, sZ, sS]
            refine hOne 14 fun K hK => ?_
            go_simp
            refine (hc1 _).mono ?_
            rintro e X8 ⟨rfl, hbel⟩
            try replace k7 := k7.below hbel
            replace hb9 := hb9.trans (hbel.mono hb9.size)
            refine hK _ _ (hSb.out _ hb9) ?_
            clear hK K hbel
            try simp only [Act.put, sA, sZ, sS]
            refine hOne 16 fun K hK => ?_
            have kz := k7.set8 (.int .i64 0) (.int .i64 0) (.int .i64 0) (.int .i64 0) (.int .i64 0) (.int .i64 0) (.int .i64 0) (.int .i64 0)
            have bz := below_set8 (g := gq) hb9 gqw (.int .i64 0) (.int .i64 0) (.int .i64 0) (.int .i64 0) (.int .i64 0) (.int .i64 0) (.int .i64 0) (.int .i64 0)
            obtain ⟨X9, hwz⟩ : ∃ x, x = set8 X8 gq (.int .i64 0) (.int .i64 0) (.int .i64 0) (.int .i64 0) (.int .i64 0) (.int .i64 0) (.int .i64 0) (.int .i64 0) := ⟨_, rfl⟩
            rw [← hwz] at kz bz
            simp only [set8] at hwz
            obtain ⟨c9, f9, l9⟩ := k7.rules
            go_simp
            rw [← hwz]
            clear hwz c9 f9 l9
            refine hK _ _ (hSb.out _ bz) ?_
            clear hK K
            try simp only [Act.put, sA, sZ, sS]
            refine wpAnyH_done (by kernel_rfl) (hrest gq _ ⟨kz, gqw, bz⟩) _
        · skip
          go_simp
          have k7 := Blk.new X2 68 #[Value.int .i64 0, .int .i64 0, .int .i64 0, .int .i64 0, .int .i64 0, .int .i64 0, .int .i64 0, .int .i64 0]
          have gqw := hb9.size
          have hbel : Below X2.heap.size X2 (X2.alloc (.cells #[Value.int .i64 0, .int .i64 0, .int .i64 0, .int .i64 0, .int .i64 0, .int .i64 0, .int .i64 0, .int .i64 0] 68)) := (Below.refl _ _).alloc (Nat.le_refl _) _
          generalize X2.alloc (.cells #[Value.int .i64 0, .int .i64 0, .int .i64 0, .int .i64 0, .int .i64 0, .int .i64 0, .int .i64 0, .int .i64 0] 68) = X10 at *
          generalize X2.heap.size = gq at k7 gqw ⊢
          replace hb9 := hb9.trans (hbel.mono hb9.size)
          refine hK _ _ (hSb.out _ hb9) ?_
          clear hK K hbel
          try simp only [Act.put, sA, sZ, sS]
          refine hOne 13 fun K hK => ?_
          go_simp
          refine (hw1 _).mono ?_
          rintro e X11 ⟨rfl, hbel⟩
          try replace k7 := k7.below hbel
          replace hb9 := hb9.trans (hbel.mono hb9.size)
          refine hK _ _ (hSb.out _ hb9) ?_
          clear hK K hbel
          try simp only [Act.put, sA, sZ, sS]
          refine hOne 14 fun K hK => ?_
          go_simp
          refine (hc1 _).mono ?_
          rintro e X12 ⟨rfl, hbel⟩
          try replace k7 := k7.below hbel
          replace hb9 := hb9.trans (hbel.mono hb9.size)
          refine hK _ _ (hSb.out _ hb9) ?_
          clear hK K hbel
          try simp only [Act.put, sA, sZ, sS]
          refine hOne 16 fun K hK => ?_
          have kz := k7.set8 (.int .i64 0) (.int .i64 0) (.int .i64 0) (.int .i64 0) (.int .i64 0) (.int .i64 0) (.int .i64 0) (.int .i64 0)
          have bz := below_set8 (g := gq) hb9 gqw (.int .i64 0) (.int .i64 0) (.int .i64 0) (.int .i64 0) (.int .i64 0) (.int .i64 0) (.int .i64 0) (.int .i64 0)
          obtain ⟨X13, hwz⟩ : ∃ x, x = set8 X12 gq (.int .i64 0) (.int .i64 0) (.int .i64 0) (.int .i64 0) (.int .i64 0) (.int .i64 0) (.int .i64 0) (.int .i64 0) := ⟨_, rfl⟩
          rw [← hwz] at kz bz
          simp only [set8] at hwz
          obtain ⟨c9, f9, l9⟩ := k7.rules
          go_simp
          rw [← hwz]
          clear hwz c9 f9 l9
          refine hK _ _ (hSb.out _ bz) ?_
          clear hK K
          try simp only [Act.put, sA, sZ, sS]
          refine wpAnyH_done (by kernel_rfl) (hrest gq _ ⟨kz, gqw, bz⟩) _
      · skip
        go_simp
        have k7 := Blk.new X1 68 #[Value.int .i64 0, .int .i64 0, .int .i64 0, .int .i64 0, .int .i64 0, .int .i64 0, .int .i64 0, .int .i64 0]
        have gqw := hb9.size
        have hbel : Below X1.heap.size X1 (X1.alloc (.cells #[Value.int .i64 0, .int .i64 0, .int .i64 0, .int .i64 0, .int .i64 0, .int .i64 0, .int .i64 0, .int .i64 0] 68)) := (Below.refl _ _).alloc (Nat.le_refl _) _
        generalize X1.alloc (.cells #[Value.int .i64 0, .int .i64 0, .int .i64 0, .int .i64 0, .int .i64 0, .int .i64 0, .int .i64 0, .int .i64 0] 68) = X14 at *
        generalize X1.heap.size = gq at k7 gqw ⊢
        replace hb9 := hb9.trans (hbel.mono hb9.size)
        refine hK _ _ (hSb.out _ hb9) ?_
        clear hK K hbel
        try simp only [Act.put, sA, sZ, sS]
        refine hOne 12 fun K hK => ?_
        go_simp
        refine (hbk _).mono ?_
        rintro e X15 ⟨rfl, hbel⟩
        try replace k7 := k7.below hbel
        replace hb9 := hb9.trans (hbel.mono hb9.size)
        refine hK _ _ (hSb.out _ hb9) ?_
        clear hK K hbel
        try simp only [Act.put, sA, sZ, sS]
        refine hOne 13 fun K hK => ?_
        go_simp
        refine (hw1 _).mono ?_
        rintro e X16 ⟨rfl, hbel⟩
        try replace k7 := k7.below hbel
        replace hb9 := hb9.trans (hbel.mono hb9.size)
        refine hK _ _ (hSb.out _ hb9) ?_
        clear hK K hbel
        try simp only [Act.put, sA, sZ, sS]
        refine hOne 14 fun K hK => ?_
        go_simp
        refine (hc1 _).mono ?_
        rintro e X17 ⟨rfl, hbel⟩
        try replace k7 := k7.below hbel
        replace hb9 := hb9.trans (hbel.mono hb9.size)
        refine hK _ _ (hSb.out _ hb9) ?_
        clear hK K hbel
        try simp only [Act.put, sA, sZ, sS]
        refine hOne 16 fun K hK => ?_
        have kz := k7.set8 (.int .i64 0) (.int .i64 0) (.int .i64 0) (.int .i64 0) (.int .i64 0) (.int .i64 0) (.int .i64 0) (.int .i64 0)
        have bz := below_set8 (g := gq) hb9 gqw (.int .i64 0) (.int .i64 0) (.int .i64 0) (.int .i64 0) (.int .i64 0) (.int .i64 0) (.int .i64 0) (.int .i64 0)
        obtain ⟨X18, hwz⟩ : ∃ x, x = set8 X17 gq (.int .i64 0) (.int .i64 0) (.int .i64 0) (.int .i64 0) (.int .i64 0) (.int .i64 0) (.int .i64 0) (.int .i64 0) := ⟨_, rfl⟩
        rw [← hwz] at kz bz
        simp only [set8] at hwz
        obtain ⟨c9, f9, l9⟩ := k7.rules
        go_simp
        rw [← hwz]
        clear hwz c9 f9 l9
        refine hK _ _ (hSb.out _ bz) ?_
        clear hK K
        try simp only [Act.put, sA, sZ, sS]
        refine wpAnyH_done (by kernel_rfl) (hrest gq _ ⟨kz, gqw, bz⟩) _
    · skip
      go_simp
      have k7 := Blk.new wd 68 #[Value.int .i64 0, .int .i64 0, .int .i64 0, .int .i64 0, .int .i64 0, .int .i64 0, .int .i64 0, .int .i64 0]
      have gqw := hb9.size
      have hbel : Below wd.heap.size wd (wd.alloc (.cells #[Value.int .i64 0, .int .i64 0, .int .i64 0, .int .i64 0, .int .i64 0, .int .i64 0, .int .i64 0, .int .i64 0] 68)) := (Below.refl _ _).alloc (Nat.le_refl _) _
      generalize wd.alloc (.cells #[Value.int .i64 0, .int .i64 0, .int .i64 0, .int .i64 0, .int .i64 0, .int .i64 0, .int .i64 0, .int .i64 0] 68) = X19 at *
      generalize wd.heap.size = gq at k7 gqw ⊢
      replace hb9 := hb9.trans (hbel.mono hb9.size)
      refine hK _ _ (hSb.out _ hb9) ?_
      clear hK K hbel
      try simp only [Act.put, sA, sZ, sS]
      refine hOne 11 fun K hK => ?_
      go_simp
      refine (hsp _).mono ?_
      rintro e X20 ⟨rfl, hbel⟩
      try replace k7 := k7.below hbel
      replace hb9 := hb9.trans (hbel.mono hb9.size)
      refine hK _ _ (hSb.out _ hb9) ?_
      clear hK K hbel
      try simp only [Act.put, sA, sZ, sS]
      refine hOne 12 fun K hK => ?_
      go_simp
      refine (hbk _).mono ?_
      rintro e X21 ⟨rfl, hbel⟩
      try replace k7 := k7.below hbel
      replace hb9 := hb9.trans (hbel.mono hb9.size)
      refine hK _ _ (hSb.out _ hb9) ?_
      clear hK K hbel
      try simp only [Act.put, sA, sZ, sS]
      refine hOne 13 fun K hK => ?_
      go_simp
      refine (hw1 _).mono ?_
      rintro e X22 ⟨rfl, hbel⟩
      try replace k7 := k7.below hbel
      replace hb9 := hb9.trans (hbel.mono hb9.size)
      refine hK _ _ (hSb.out _ hb9) ?_
      clear hK K hbel
      try simp only [Act.put, sA, sZ, sS]
      refine hOne 14 fun K hK => ?_
      go_simp
      refine (hc1 _).mono ?_
      rintro e X23 ⟨rfl, hbel⟩
      try replace k7 := k7.below hbel
      replace hb9 := hb9.trans (hbel.mono hb9.size)
      refine hK _ _ (hSb.out _ hb9) ?_
      clear hK K hbel
      try simp only [Act.put, sA, sZ, sS]
      refine hOne 16 fun K hK => ?_
      have kz := k7.set8 (.int .i64 0) (.int .i64 0) (.int .i64 0) (.int .i64 0) (.int .i64 0) (.int .i64 0) (.int .i64 0) (.int .i64 0)
      have bz := below_set8 (g := gq) hb9 gqw (.int .i64 0) (.int .i64 0) (.int .i64 0) (.int .i64 0) (.int .i64 0) (.int .i64 0) (.int .i64 0) (.int .i64 0)
      obtain ⟨X24, hwz⟩ : ∃ x, x = set8 X23 gq (.int .i64 0) (.int .i64 0) (.int .i64 0) (.int .i64 0) (.int .i64 0) (.int .i64 0) (.int .i64 0) (.int .i64 0) := ⟨_, rfl⟩
      rw [← hwz] at kz bz
      simp only [set8] at hwz
      obtain ⟨c9, f9, l9⟩ := k7.rules
      go_simp
      rw [← hwz]
      clear hwz c9 f9 l9
      refine hK _ _ (hSb.out _ bz) ?_
      clear hK K
      try simp only [Act.put, sA, sZ, sS]
      refine wpAnyH_done (by kernel_rfl) (hrest gq _ ⟨kz, gqw, bz⟩) _
  · rintro g7 X9 ⟨k7, hg7, hb9⟩
    try simp only [Act.put, sA, sZ, sS]
    refine noPanic_normal ?_
    clear hSb hg9 hw1 hc1 hbk
    replace k2 := k2.below hb9
    replace hn := hn.below hb9
    replace b := b.trans (hb9.mono b.size)
    clear hb9
    have hz2 := b.size
    go_wp2_with fail
    refine hOpn (fun w' : World => (∀ j, w'.cell? ⟨w.heap.size, j, none⟩ = #[Value.slice (some ⟨gn, 0, none⟩) 2 c, .slice O 1 co][j]?) ∧ (∀ j, w'.cell? ⟨gn, j, none⟩ = (Value.int .i64 0 :: Value.int .i64 0 :: Value.int .i64 0 :: Value.int .i64 0 :: Value.int .i64 0 :: Value.int .i64 0 :: Value.int .i64 0 :: Value.int .i64 0 :: Value.int .i64 0 :: Value.int .i64 9 :: Value.int .i64 0 :: Value.int .i64 9 :: Value.int .i64 0 :: Value.int .i64 18 :: Value.int .i64 (-9) :: Value.int .i64 9 :: tl).toArray[j]?) ∧ (∀ j, w'.cell? ⟨g7, j, none⟩ = #[Value.int .i64 0, .int .i64 0, .int .i64 0, .int .i64 0, .int .i64 0, .int .i64 0, .int .i64 0, .int .i64 0][j]?)) (fun W' hbb => ⟨(k2.below hbb).cell, (hn.below hbb).cell, (k7.below hbb).cell⟩) fun hSb hb9 hS hg9 => ?_
    generalize X9.drew = we at *
    refine hTk 0 30 ?_
    refine hTk 1 31 ?_
    refine hTk 2 32 ?_
    refine hTk 3 33 ?_
    refine hTk 4 34 ?_
    refine hTk 5 35 ?_
    refine hTk 6 36 ?_
    clear hS
    refine wpAnyH_fin (f := fun a (q : Nat) => ((((a.put (some 37) (.agg #[.int .i64 (-1), .int .i64 1, .int .i64 (-1), .int .i64 1, .int .i64 (-2), .int .i64 2, .int .i64 (-2), .int .i64 2])).put (some 38) (.agg #[.int .i64 (-1), .int .i64 1, .int .i64 (-1), .int .i64 1, .int .i64 (-2), .int .i64 2, .int .i64 (-2), .int .i64 2])).put (some 39) (.agg #[.int .i64 0, .int .i64 1, .int .i64 0, .int .i64 1, .int .i64 0, .int .i64 2, .int .i64 (-1), .int .i64 1])).put (some 8) (.pointer (some ⟨q, 0, none⟩)))) (B := fun q W' => Blk W' q 68 #[Value.int .i64 0, .int .i64 1, .int .i64 0, .int .i64 1, .int .i64 0, .int .i64 2, .int .i64 (-1), .int .i64 1] ∧ X9.heap.size ≤ q ∧ Below X9.heap.size X9 W') ?_ (fun hrest => ?_)
    rotate_left 1
    · try simp only [Act.put, sA, sZ, sS] at hrest
      refine held_two (i := 7) (j := 10) (by kernel_rfl) rfl rfl rfl rfl (fun K hK => ?_) (fun K hK => ?_)
      · skip
        go_simp
        refine (hsp _).mono ?_
        rintro e X25 ⟨rfl, hbel⟩
        try replace k8 := k8.below hbel
        replace hb9 := hb9.trans (hbel.mono hb9.size)
        refine hK _ _ (hSb.out _ hb9) ?_
        clear hK K hbel
        try simp only [Act.put, sA, sZ, sS]
        refine held_two (i := 8) (j := 10) (by kernel_rfl) rfl rfl rfl rfl (fun K hK => ?_) (fun K hK => ?_)
        · skip
          go_simp
          refine (hw2 _).mono ?_
          rintro e X26 ⟨rfl, hbel⟩
          try replace k8 := k8.below hbel
          replace hb9 := hb9.trans (hbel.mono hb9.size)
          refine hK _ _ (hSb.out _ hb9) ?_
          clear hK K hbel
          try simp only [Act.put, sA, sZ, sS]
          refine held_two (i := 9) (j := 10) (by kernel_rfl) rfl rfl rfl rfl (fun K hK => ?_) (fun K hK => ?_)
          · skip
            go_simp
            refine (hc2 _).mono ?_
            rintro e X27 ⟨rfl, hbel⟩
            try replace k8 := k8.below hbel
            replace hb9 := hb9.trans (hbel.mono hb9.size)
            refine hK _ _ (hSb.out _ hb9) ?_
            clear hK K hbel
            try simp only [Act.put, sA, sZ, sS]
            refine hOne 10 fun K hK => ?_
            go_simp
            have k8 := Blk.new X27 68 #[Value.int .i64 0, .int .i64 0, .int .i64 0, .int .i64 0, .int .i64 0, .int .i64 0, .int .i64 0, .int .i64 0]
            have gqw := hb9.size
            have hbel : Below X27.heap.size X27 (X27.alloc (.cells #[Value.int .i64 0, .int .i64 0, .int .i64 0, .int .i64 0, .int .i64 0, .int .i64 0, .int .i64 0, .int .i64 0] 68)) := (Below.refl _ _).alloc (Nat.le_refl _) _
            generalize X27.alloc (.cells #[Value.int .i64 0, .int .i64 0, .int .i64 0, .int .i64 0, .int .i64 0, .int .i64 0, .int .i64 0, .int .i64 0] 68) = X28 at *
            generalize X27.heap.size = gq at k8 gqw ⊢
            replace hb9 := hb9.trans (hbel.mono hb9.size)
            refine hK _ _ (hSb.out _ hb9) ?_
            clear hK K hbel
            try simp only [Act.put, sA, sZ, sS]
            refine hOne 11 fun K hK => ?_
            have kz := k8.set8 (.int .i64 0) (.int .i64 1) (.int .i64 0) (.int .i64 1) (.int .i64 0) (.int .i64 2) (.int .i64 (-1)) (.int .i64 1)
            have bz := below_set8 (g := gq) hb9 gqw (.int .i64 0) (.int .i64 1) (.int .i64 0) (.int .i64 1) (.int .i64 0) (.int .i64 2) (.int .i64 (-1)) (.int .i64 1)
            obtain ⟨X29, hwz⟩ : ∃ x, x = set8 X28 gq (.int .i64 0) (.int .i64 1) (.int .i64 0) (.int .i64 1) (.int .i64 0) (.int .i64 2) (.int .i64 (-1)) (.int .i64 1) := ⟨_, rfl⟩
            rw [← hwz] at kz bz
            simp only [set8] at hwz
            obtain ⟨c9, f9, l9⟩ := k8.rules
            go_simp
            rw [← hwz]
            clear hwz c9 f9 l9
            refine hK _ _ (hSb.out _ bz) ?_
            clear hK K
            try simp only [Act.put, sA, sZ, sS]
            refine wpAnyH_done (by kernel_rfl) (hrest gq _ ⟨kz, gqw, bz⟩) _
          · skip
            go_simp
            have k8 := Blk.new X26 68 #[Value.int .i64 0, .int .i64 0, .int .i64 0, .int .i64 0, .int .i64 0, .int .i64 0, .int .i64 0, .int .i64 0]
            have gqw := hb9.size
            have hbel : Below X26.heap.size X26 (X26.alloc (.cells #[Value.int .i64 0, .int .i64 0, .int .i64 0, .int .i64 0, .int .i64 0, .int .i64 0, .int .i64 0, .int .i64 0] 68)) := (Below.refl _ _).alloc (Nat.le_refl _) _
            generalize X26.alloc (.cells #[Value.int .i64 0, .int .i64 0, .int .i64 0, .int .i64 0, .int .i64 0, .int .i64 0, .int .i64 0, .int .i64 0] 68) = X30 at *
            generalize X26.heap.size = gq at k8 gqw ⊢
            replace hb9 := hb9.trans (hbel.mono hb9.size)
            refine hK _ _ (hSb.out _ hb9) ?_
            clear hK K hbel
            try simp only [Act.put, sA, sZ, sS]
            refine hOne 9 fun K hK => ?_
            go_simp
            refine (hc2 _).mono ?_
            rintro e X31 ⟨rfl, hbel⟩
            try replace k8 := k8.below hbel
            replace hb9 := hb9.trans (hbel.mono hb9.size)
            refine hK _ _ (hSb.out _ hb9) ?_
            clear hK K hbel
            try simp only [Act.put, sA, sZ, sS]
            refine hOne 11 fun K hK => ?_
            have kz := k8.set8 (.int .i64 0) (.int .i64 1) (.int .i64 0) (.int .i64 1) (.int .i64 0) (.int .i64 2) (.int .i64 (-1)) (.int .i64 1)
            have bz := below_set8 (g := gq) hb9 gqw (.int .i64 0) (.int .i64 1) (.int .i64 0) (.int .i64 1) (.int .i64 0) (.int .i64 2) (.int .i64 (-1)) (.int .i64 1)
            obtain ⟨X32, hwz⟩ : ∃ x, x = set8 X31 gq (.int .i64 0) (.int .i64 1) (.int .i64 0) (.int .i64 1) (.int .i64 0) (.int .i64 2) (.int .i64 (-1)) (.int .i64 1) := ⟨_, rfl⟩
            rw [← hwz] at kz bz
            simp only [set8] at hwz
            obtain ⟨c9, f9, l9⟩ := k8.rules
            go_simp
            rw [← hwz]
            clear hwz c9 f9 l9
            refine hK _ _ (hSb.out _ bz) ?_
            clear hK K
            try simp only [Act.put, sA, sZ, sS]
            refine wpAnyH_done (by kernel_rfl) (hrest gq _ ⟨kz, gqw, bz⟩) _
        · skip
          go_simp
          have k8 := Blk.new X25 68 #[Value.int .i64 0, .int .i64 0, .int .i64 0, .int .i64 0, .int .i64 0, .int .i64 0, .int .i64 0, .int .i64 0]
          have gqw := hb9.size
          have hbel : Below X25.heap.size X25 (X25.alloc (.cells #[Value.int .i64 0, .int .i64 0, .int .i64 0, .int .i64 0, .int .i64 0, .int .i64 0, .int .i64 0, .int .i64 0] 68)) := (Below.refl _ _).alloc (Nat.le_refl _) _
          generalize X25.alloc (.cells #[Value.int .i64 0, .int .i64 0, .int .i64 0, .int .i64 0, .int .i64 0, .int .i64 0, .int .i64 0, .int .i64 0] 68) = X33 at *
          generalize X25.heap.size = gq at k8 gqw ⊢
          replace hb9 := hb9.trans (hbel.mono hb9.size)
          refine hK _ _ (hSb.out _ hb9) ?_
          clear hK K hbel
          try simp only [Act.put, sA, sZ, sS]
          refine hOne 8 fun K hK => ?_
          go_simp
          refine (hw2 _).mono ?_
          rintro e X34 ⟨rfl, hbel⟩
          try replace k8 := k8.below hbel
          replace hb9 := hb9.trans (hbel.mono hb9.size)
          refine hK _ _ (hSb.out _ hb9) ?_
          clear hK K hbel
          try simp only [Act.put, sA, sZ, sS]
          refine hOne 9 fun K hK => ?_
          go_simp
          refine (hc2 _).mono ?_
          rintro e X35 ⟨rfl, hbel⟩
          try replace k8 := k8.below hbel
          replace hb9 := hb9.trans (hbel.mono hb9.size)
          refine hK _ _ (hSb.out _ hb9) ?_
          clear hK K hbel
          try simp only [Act.put, sA, sZ, sS]
          refine hOne 11 fun K hK => ?_
          have kz := k8.set8 (.int .i64 0) (.int .i64 1) (.int .i64 0) (.int .i64 1) (.int .i64 0) (.int .i64 2) (.int .i64 (-1)) (.int .i64 1)
          have bz := below_set8 (g := gq) hb9 gqw (.int .i64 0) (.int .i64 1) (.int .i64 0) (.int .i64 1) (.int .i64 0) (.int .i64 2) (.int .i64 (-1)) (.int .i64 1)
          obtain ⟨X36, hwz⟩ : ∃ x, x = set8 X35 gq (.int .i64 0) (.int .i64 1) (.int .i64 0) (.int .i64 1) (.int .i64 0) (.int .i64 2) (.int .i64 (-1)) (.int .i64 1) := ⟨_, rfl⟩
          rw [← hwz] at kz bz
          simp only [set8] at hwz
          obtain ⟨c9, f9, l9⟩ := k8.rules
          go_simp
          rw [← hwz]
          clear hwz c9 f9 l9
          refine hK _ _ (hSb.out _ bz) ?_
          clear hK K
          try simp only [Act.put, sA, sZ, sS]
          refine wpAnyH_done (by kernel_rfl) (hrest gq _ ⟨kz, gqw, bz⟩) _
      · skip
        go_simp
        have k8 := Blk.new we 68 #[Value.int .i64 0, .int .i64 0, .int .i64 0, .int .i64 0, .int .i64 0, .int .i64 0, .int .i64 0, .int .i64 0]
        have gqw := hb9.size
        have hbel : Below we.heap.size we (we.alloc (.cells #[Value.int .i64 0, .int .i64 0, .int .i64 0, .int .i64 0, .int .i64 0, .int .i64 0, .int .i64 0, .int .i64 0] 68)) := (Below.refl _ _).alloc (Nat.le_refl _) _
        generalize we.alloc (.cells #[Value.int .i64 0, .int .i64 0, .int .i64 0, .int .i64 0, .int .i64 0, .int .i64 0, .int .i64 0, .int .i64 0] 68) = X37 at *
        generalize we.heap.size = gq at k8 gqw ⊢
        replace hb9 := hb9.trans (hbel.mono hb9.size)
        refine hK _ _ (hSb.out _ hb9) ?_
        clear hK K hbel
        try simp only [Act.put, sA, sZ, sS]
        refine hOne 7 fun K hK => ?_
        go_simp
        refine (hsp _).mono ?_
        rintro e X38 ⟨rfl, hbel⟩
        try replace k8 := k8.below hbel
        replace hb9 := hb9.trans (hbel.mono hb9.size)
        refine hK _ _ (hSb.out _ hb9) ?_
        clear hK K hbel
        try simp only [Act.put, sA, sZ, sS]
        refine hOne 8 fun K hK => ?_
        go_simp
        refine (hw2 _).mono ?_
        rintro e X39 ⟨rfl, hbel⟩
        try replace k8 := k8.below hbel
        replace hb9 := hb9.trans (hbel.mono hb9.size)
        refine hK _ _ (hSb.out _ hb9) ?_
        clear hK K hbel
        try simp only [Act.put, sA, sZ, sS]
        refine hOne 9 fun K hK => ?_
        go_simp
        refine (hc2 _).mono ?_
        rintro e X40 ⟨rfl, hbel⟩
        try replace k8 := k8.below hbel
        replace hb9 := hb9.trans (hbel.mono hb9.size)
        refine hK _ _ (hSb.out _ hb9) ?_
        clear hK K hbel
        try simp only [Act.put, sA, sZ, sS]
        refine hOne 11 fun K hK => ?_
        have kz := k8.set8 (.int .i64 0) (.int .i64 1) (.int .i64 0) (.int .i64 1) (.int .i64 0) (.int .i64 2) (.int .i64 (-1)) (.int .i64 1)
        have bz := below_set8 (g := gq) hb9 gqw (.int .i64 0) (.int .i64 1) (.int .i64 0) (.int .i64 1) (.int .i64 0) (.int .i64 2) (.int .i64 (-1)) (.int .i64 1)
        obtain ⟨X41, hwz⟩ : ∃ x, x = set8 X40 gq (.int .i64 0) (.int .i64 1) (.int .i64 0) (.int .i64 1) (.int .i64 0) (.int .i64 2) (.int .i64 (-1)) (.int .i64 1) := ⟨_, rfl⟩
        rw [← hwz] at kz bz
        simp only [set8] at hwz
        obtain ⟨c9, f9, l9⟩ := k8.rules
        go_simp
        rw [← hwz]
        clear hwz c9 f9 l9
        refine hK _ _ (hSb.out _ bz) ?_
        clear hK K
        try simp only [Act.put, sA, sZ, sS]
        refine wpAnyH_done (by kernel_rfl) (hrest gq _ ⟨kz, gqw, bz⟩) _
    · rintro g8 Y9 ⟨k8, hg8, hb9⟩
      try simp only [Act.put, sA, sZ, sS]
      refine noPanic_normal ?_
      clear hSb hg9 hw2 hc2 hsp
      have h78 := k7.lt
      replace k2 := k2.below hb9
      replace hn := hn.below hb9
      replace k7 := k7.below hb9
      replace b := b.trans (hb9.mono b.size)
      clear hb9
      obtain ⟨c7, f7, l7⟩ := k7.rules
      obtain ⟨c8, f8, l8⟩ := k8.rules
      go_wp2_with fail
      refine (possible_any _).mono ?_
      rintro e Y1 ⟨rfl, hb⟩
      clear c7 f7 l7 c8 f8 l8
      replace k2 := k2.below hb
      replace hn := hn.below hb
      replace k7 := k7.below hb
      replace k8 := k8.below hb
      replace b := b.trans (hb.mono b.size)
      clear hb
      go_wp2_with fail
      obtain ⟨c2, f2, l2⟩ := k2.rules
      obtain ⟨cn, fn9, ln⟩ := hn.rules
      obtain ⟨c7, f7, l7⟩ := k7.rules
      obtain ⟨c8, f8, l8⟩ := k8.rules
      go_quiet (fail)
      clear c2 f2 l2 cn fn9 ln c7 f7 l7 c8 f8 l8
      replace k2 := k2.drewN nq
      replace hn := hn.drewN nq
      replace k7 := k7.drewN nq
      replace k8 := k8.drewN nq
      replace b := below_drewN b nq
      generalize Y1.drewN nq = Y2 at *
      clear nq
      go_wp2_with fail
      have b : BelowH (fun k => k = gn) w.heap.size w Y2.drew := belowH_of b.drew
      refine wp_held_np (fun w' : World => (∀ j, w'.cell? ⟨w.heap.size, j, none⟩ = #[Value.slice (some ⟨gn, 0, none⟩) 2 c, .slice O 1 co][j]?) ∧ (∀ j, w'.cell? ⟨g7, j, none⟩ = #[Value.int .i64 0, .int .i64 0, .int .i64 0, .int .i64 0, .int .i64 0, .int .i64 0, .int .i64 0, .int .i64 0][j]?) ∧ (∀ j, w'.cell? ⟨g8, j, none⟩ = #[Value.int .i64 0, .int .i64 1, .int .i64 0, .int .i64 1, .int .i64 0, .int .i64 2, .int .i64 (-1), .int .i64 1][j]?)) (by kernel_rfl) ?_
      have hS : (fun w' : World => (∀ j, w'.cell? ⟨w.heap.size, j, none⟩ = #[Value.slice (some ⟨gn, 0, none⟩) 2 c, .slice O 1 co][j]?) ∧ (∀ j, w'.cell? ⟨g7, j, none⟩ = #[Value.int .i64 0, .int .i64 0, .int .i64 0, .int .i64 0, .int .i64 0, .int .i64 0, .int .i64 0, .int .i64 0][j]?) ∧ (∀ j, w'.cell? ⟨g8, j, none⟩ = #[Value.int .i64 0, .int .i64 1, .int .i64 0, .int .i64 1, .int .i64 0, .int .i64 2, .int .i64 (-1), .int .i64 1][j]?)) Y2.drew := ⟨k2.cell, k7.cell, k8.cell⟩
      replace k2 := k2.drew
      replace hn := hn.drew
      replace k7 := k7.drew
      replace k8 := k8.drew
      generalize Y2.drew = wf at *
      refine hTk 0 63 ?_
      refine hTk 1 64 ?_
      refine hTk 2 65 ?_
      refine hTk 3 66 ?_
      refine hTk 4 67 ?_
      refine hTk 5 68 ?_
      refine hTk 6 69 ?_
      refine hTk 7 70 ?_
      refine hTk 8 71 ?_
      have kz := ((((((((hn.set_ 0 (.int .i64 0)).set_ 1 (.int .i64 0)).set_ 2 (.int .i64 0)).set_ 3 (.int .i64 0)).set_ 4 (.int .i64 0)).set_ 5 (.int .i64 0)).set_ 6 (.int .i64 0)).set_ 7 (.int .i64 0))
      simp only [sA, sZ, sS] at kz
      have bz := ((((((((b.setCell (p := ⟨gn, 0, none⟩) rfl (.int .i64 0)).setCell (p := ⟨gn, 1, none⟩) rfl (.int .i64 0)).setCell (p := ⟨gn, 2, none⟩) rfl (.int .i64 0)).setCell (p := ⟨gn, 3, none⟩) rfl (.int .i64 0)).setCell (p := ⟨gn, 4, none⟩) rfl (.int .i64 0)).setCell (p := ⟨gn, 5, none⟩) rfl (.int .i64 0)).setCell (p := ⟨gn, 6, none⟩) rfl (.int .i64 0)).setCell (p := ⟨gn, 7, none⟩) rfl (.int .i64 0))
      have k2z := ((((((((k2.far (p := ⟨gn, 0, none⟩) (by dsimp only; omega) (.int .i64 0)).far (p := ⟨gn, 1, none⟩) (by dsimp only; omega) (.int .i64 0)).far (p := ⟨gn, 2, none⟩) (by dsimp only; omega) (.int .i64 0)).far (p := ⟨gn, 3, none⟩) (by dsimp only; omega) (.int .i64 0)).far (p := ⟨gn, 4, none⟩) (by dsimp only; omega) (.int .i64 0)).far (p := ⟨gn, 5, none⟩) (by dsimp only; omega) (.int .i64 0)).far (p := ⟨gn, 6, none⟩) (by dsimp only; omega) (.int .i64 0)).far (p := ⟨gn, 7, none⟩) (by dsimp only; omega) (.int .i64 0))
      have k7z := ((((((((k7.far (p := ⟨gn, 0, none⟩) (by dsimp only; omega) (.int .i64 0)).far (p := ⟨gn, 1, none⟩) (by dsimp only; omega) (.int .i64 0)).far (p := ⟨gn, 2, none⟩) (by dsimp only; omega) (.int .i64 0)).far (p := ⟨gn, 3, none⟩) (by dsimp only; omega) (.int .i64 0)).far (p := ⟨gn, 4, none⟩) (by dsimp only; omega) (.int .i64 0)).far (p := ⟨gn, 5, none⟩) (by dsimp only; omega) (.int .i64 0)).far (p := ⟨gn, 6, none⟩) (by dsimp only; omega) (.int .i64 0)).far (p := ⟨gn, 7, none⟩) (by dsimp only; omega) (.int .i64 0))
      have k8z := ((((((((k8.far (p := ⟨gn, 0, none⟩) (by dsimp only; omega) (.int .i64 0)).far (p := ⟨gn, 1, none⟩) (by dsimp only; omega) (.int .i64 0)).far (p := ⟨gn, 2, none⟩) (by dsimp only; omega) (.int .i64 0)).far (p := ⟨gn, 3, none⟩) (by dsimp only; omega) (.int .i64 0)).far (p := ⟨gn, 4, none⟩) (by dsimp only; omega) (.int .i64 0)).far (p := ⟨gn, 5, none⟩) (by dsimp only; omega) (.int .i64 0)).far (p := ⟨gn, 6, none⟩) (by dsimp only; omega) (.int .i64 0)).far (p := ⟨gn, 7, none⟩) (by dsimp only; omega) (.int .i64 0))
      obtain ⟨Y3, hwz⟩ : ∃ q0, q0 = ((((((((wf.setCell ⟨gn, 0, none⟩ (.int .i64 0)).setCell ⟨gn, 1, none⟩ (.int .i64 0)).setCell ⟨gn, 2, none⟩ (.int .i64 0)).setCell ⟨gn, 3, none⟩ (.int .i64 0)).setCell ⟨gn, 4, none⟩ (.int .i64 0)).setCell ⟨gn, 5, none⟩ (.int .i64 0)).setCell ⟨gn, 6, none⟩ (.int .i64 0)).setCell ⟨gn, 7, none⟩ (.int .i64 0)) := ⟨_, rfl⟩
      rw [← hwz] at kz bz k2z k7z k8z
      obtain ⟨c9, f9, l9⟩ := hn.rules
      refine hOne 9 fun K hK => ?_
      go_simp
      rw [← hwz]
      clear hwz c9 f9 l9 hn b hS k2 k7 k8
      have hn := kz
      have b := bz
      have k2 := k2z
      have k7 := k7z
      have k8 := k8z
      clear kz bz k2z k7z k8z
      have hS : (fun w' : World => (∀ j, w'.cell? ⟨w.heap.size, j, none⟩ = #[Value.slice (some ⟨gn, 0, none⟩) 2 c, .slice O 1 co][j]?) ∧ (∀ j, w'.cell? ⟨g7, j, none⟩ = #[Value.int .i64 0, .int .i64 0, .int .i64 0, .int .i64 0, .int .i64 0, .int .i64 0, .int .i64 0, .int .i64 0][j]?) ∧ (∀ j, w'.cell? ⟨g8, j, none⟩ = #[Value.int .i64 0, .int .i64 1, .int .i64 0, .int .i64 1, .int .i64 0, .int .i64 2, .int .i64 (-1), .int .i64 1][j]?)) Y3 := ⟨k2.cell, k7.cell, k8.cell⟩
      refine hK _ _ hS ?_
      clear hK K
      try simp only [Act.put, sA, sZ, sS]
      refine hTk 10 72 ?_
      have kz := ((((((((hn.set_ 8 (.int .i64 0)).set_ 9 (.int .i64 1)).set_ 10 (.int .i64 0)).set_ 11 (.int .i64 1)).set_ 12 (.int .i64 0)).set_ 13 (.int .i64 2)).set_ 14 (.int .i64 (-1))).set_ 15 (.int .i64 1))
      simp only [sA, sZ, sS] at kz
      have bz := ((((((((b.setCell (p := ⟨gn, 8, none⟩) rfl (.int .i64 0)).setCell (p := ⟨gn, 9, none⟩) rfl (.int .i64 1)).setCell (p := ⟨gn, 10, none⟩) rfl (.int .i64 0)).setCell (p := ⟨gn, 11, none⟩) rfl (.int .i64 1)).setCell (p := ⟨gn, 12, none⟩) rfl (.int .i64 0)).setCell (p := ⟨gn, 13, none⟩) rfl (.int .i64 2)).setCell (p := ⟨gn, 14, none⟩) rfl (.int .i64 (-1))).setCell (p := ⟨gn, 15, none⟩) rfl (.int .i64 1))
      have k2z := ((((((((k2.far (p := ⟨gn, 8, none⟩) (by dsimp only; omega) (.int .i64 0)).far (p := ⟨gn, 9, none⟩) (by dsimp only; omega) (.int .i64 1)).far (p := ⟨gn, 10, none⟩) (by dsimp only; omega) (.int .i64 0)).far (p := ⟨gn, 11, none⟩) (by dsimp only; omega) (.int .i64 1)).far (p := ⟨gn, 12, none⟩) (by dsimp only; omega) (.int .i64 0)).far (p := ⟨gn, 13, none⟩) (by dsimp only; omega) (.int .i64 2)).far (p := ⟨gn, 14, none⟩) (by dsimp only; omega) (.int .i64 (-1))).far (p := ⟨gn, 15, none⟩) (by dsimp only; omega) (.int .i64 1))
      have k7z := ((((((((k7.far (p := ⟨gn, 8, none⟩) (by dsimp only; omega) (.int .i64 0)).far (p := ⟨gn, 9, none⟩) (by dsimp only; omega) (.int .i64 1)).far (p := ⟨gn, 10, none⟩) (by dsimp only; omega) (.int .i64 0)).far (p := ⟨gn, 11, none⟩) (by dsimp only; omega) (.int .i64 1)).far (p := ⟨gn, 12, none⟩) (by dsimp only; omega) (.int .i64 0)).far (p := ⟨gn, 13, none⟩) (by dsimp only; omega) (.int .i64 2)).far (p := ⟨gn, 14, none⟩) (by dsimp only; omega) (.int .i64 (-1))).far (p := ⟨gn, 15, none⟩) (by dsimp only; omega) (.int .i64 1))
      have k8z := ((((((((k8.far (p := ⟨gn, 8, none⟩) (by dsimp only; omega) (.int .i64 0)).far (p := ⟨gn, 9, none⟩) (by dsimp only; omega) (.int .i64 1)).far (p := ⟨gn, 10, none⟩) (by dsimp only; omega) (.int .i64 0)).far (p := ⟨gn, 11, none⟩) (by dsimp only; omega) (.int .i64 1)).far (p := ⟨gn, 12, none⟩) (by dsimp only; omega) (.int .i64 0)).far (p := ⟨gn, 13, none⟩) (by dsimp only; omega) (.int .i64 2)).far (p := ⟨gn, 14, none⟩) (by dsimp only; omega) (.int .i64 (-1))).far (p := ⟨gn, 15, none⟩) (by dsimp only; omega) (.int .i64 1))
      obtain ⟨Y4, hwz⟩ : ∃ q0, q0 = ((((((((Y3.setCell ⟨gn, 8, none⟩ (.int .i64 0)).setCell ⟨gn, 9, none⟩ (.int .i64 1)).setCell ⟨gn, 10, none⟩ (.int .i64 0)).setCell ⟨gn, 11, none⟩ (.int .i64 1)).setCell ⟨gn, 12, none⟩ (.int .i64 0)).setCell ⟨gn, 13, none⟩ (.int .i64 2)).setCell ⟨gn, 14, none⟩ (.int .i64 (-1))).setCell ⟨gn, 15, none⟩ (.int .i64 1)) := ⟨_, rfl⟩
      rw [← hwz] at kz bz k2z k7z k8z
      obtain ⟨c9, f9, l9⟩ := hn.rules
      refine hOne 11 fun K hK => ?_
      go_simp
      rw [← hwz]
      clear hwz c9 f9 l9 hn b hS k2 k7 k8
      have hn := kz
      have b := bz
      have k2 := k2z
      have k7 := k7z
      have k8 := k8z
      clear kz bz k2z k7z k8z
      have hS : (fun w' : World => (∀ j, w'.cell? ⟨w.heap.size, j, none⟩ = #[Value.slice (some ⟨gn, 0, none⟩) 2 c, .slice O 1 co][j]?) ∧ (∀ j, w'.cell? ⟨g7, j, none⟩ = #[Value.int .i64 0, .int .i64 0, .int .i64 0, .int .i64 0, .int .i64 0, .int .i64 0, .int .i64 0, .int .i64 0][j]?) ∧ (∀ j, w'.cell? ⟨g8, j, none⟩ = #[Value.int .i64 0, .int .i64 1, .int .i64 0, .int .i64 1, .int .i64 0, .int .i64 2, .int .i64 (-1), .int .i64 1][j]?)) Y4 := ⟨k2.cell, k7.cell, k8.cell⟩
      refine hK _ _ hS ?_
      clear hK K
      try simp only [Act.put, sA, sZ, sS]
      refine wpAnyH_done (by kernel_rfl) (noPanic_normal ?_) _
      clear hS
      try clear hSb
      go_wp2
      exact bodyPost_ret (v := .bool true) (by simp [results, Tryz.results127, go_sem]) rfl ⟨rfl, ⟨tl, hn⟩, b⟩
theorem stepB_any (gn c co : Nat) (O : Option Addr) (w : World) (hn : RowB w gn 68 [Value.int .i64 0, Value.int .i64 0, Value.int .i64 0, Value.int .i64 0, Value.int .i64 0, Value.int .i64 0, Value.int .i64 0, Value.int .i64 0, Value.int .i64 0, Value.int .i64 1, Value.int .i64 0, Value.int .i64 1, Value.int .i64 0, Value.int .i64 2, Value.int .i64 (-1), Value.int .i64 1]) : Calls Tryz.prog 127 #[.agg #[.slice (some ⟨gn, 0, none⟩) 2 c, .slice O 1 co], .iface 242 (.agg #[.int .i64 0, .int .i64 1, .int .i64 0, .int .i64 2])] w fun e w' => e = .returned (.bool false) ∧ RowB w' gn 68 [Value.int .i64 0, Value.int .i64 0, Value.int .i64 0, Value.int .i64 0, Value.int .i64 0, Value.int .i64 0, Value.int .i64 0, Value.int .i64 0, Value.int .i64 0, Value.int .i64 1, Value.int .i64 0, Value.int .i64 1, Value.int .i64 0, Value.int .i64 2, Value.int .i64 (-1), Value.int .i64 1] ∧ BelowH (fun k => k = gn) w.heap.size w w' := by
  have hnd := fun W => lnodes_any W
  have hsp := fun W => span_any W
  have hbk := fun W => back_any sp0 W (by simp [smR, smB, sp0])
  simp only [ngR, ngB, sp0, Int.neg_neg] at hbk
  have hw1 := fun W => window_any ⟨⟨0, 1⟩, ⟨0, 1⟩, ⟨0, 2⟩, ⟨-1, 1⟩⟩ sp0 W (by simp [smR, smB]) (by simp [smR, smB, sp0])
  simp only [sp0] at hw1
  have hw2 := fun W => window_any ⟨⟨0, 0⟩, ⟨0, 0⟩, ⟨0, 0⟩, ⟨0, 0⟩⟩ sp0 W (by simp [smR, smB]) (by simp [smR, smB, sp0])
  simp only [sp0] at hw2
  have hc1 := fun W => fcut_any ⟨⟨0, 0⟩, ⟨0, 0⟩, ⟨0, 0⟩, ⟨0, 0⟩⟩ ⟨⟨-1, 2⟩, ⟨-1, 2⟩, ⟨-2, 4⟩, ⟨-3, 3⟩⟩ ⟨⟨0, 0⟩, ⟨0, 0⟩, ⟨0, 0⟩, ⟨0, 0⟩⟩ W (by decide +kernel) (by decide +kernel) (by decide +kernel) (by decide +kernel)
  have hc2 := fun W => fcut_any ⟨⟨0, 1⟩, ⟨0, 1⟩, ⟨0, 2⟩, ⟨-1, 1⟩⟩ ⟨⟨-1, 1⟩, ⟨-1, 1⟩, ⟨-2, 2⟩, ⟨-2, 2⟩⟩ ⟨⟨0, 1⟩, ⟨0, 1⟩, ⟨0, 2⟩, ⟨-1, 1⟩⟩ W (by decide +kernel) (by decide +kernel) (by decide +kernel) (by decide +kernel)
  simp only [Int.reduceAdd, Int.reduceNeg, Int.zero_add, Int.add_zero] at hbk hw1 hw2 hc1 hc2
  have hm1 : ∀ w : World, (method 108 242 (.agg #[.int .i64 0, .int .i64 1, .int .i64 0, .int .i64 2]) "paravane/fix.nodes").run Tryz.prog w = .ok (226, .agg #[.int .i64 0, .int .i64 1]) w := fun _ => by kernel_rfl
  have hm2 : ∀ w : World, (method 108 242 (.agg #[.int .i64 0, .int .i64 1, .int .i64 0, .int .i64 2]) "paravane/fix.span").run Tryz.prog w = .ok (228, .agg #[.int .i64 0, .int .i64 1, .int .i64 0, .int .i64 2]) w := fun _ => by kernel_rfl
  obtain ⟨tl, hn⟩ := hn
  simp only [List.cons_append, List.nil_append] at hn
  obtain ⟨W, hW⟩ : ∃ q0, q0 = (w.alloc (.cells #[.slice (some ⟨gn, 0, none⟩) 2 c, .slice O 1 co] 102)) := ⟨_, rfl⟩
  have k2 : Blk W (w.heap.size) 102 #[.slice (some ⟨gn, 0, none⟩) 2 c, .slice O 1 co] := by rw [hW]; exact (Blk.new _ _ _)
  have b : Below w.heap.size w W := by rw [hW]; exact ((Below.refl _ _).alloc (Nat.le_refl _) _)
  go_enter Tryz.func127, Tryz.ntmps127
  go_upto_region 1 with fail
  rw [← hW]
  clear hW
  have hgn := hn.lt
  replace hn := hn.belowB b hgn
  go_wp2_with fail
  refine (hnd _).mono ?_
  rintro e W1 ⟨rfl, hb⟩
  replace k2 := k2.below hb
  replace hn := hn.below hb
  replace b := b.trans (hb.mono b.size)
  clear hb
  have hz1 := b.size
  go_wp2_with fail
  refine hOpn (fun w' : World => (∀ j, w'.cell? ⟨w.heap.size, j, none⟩ = #[Value.slice (some ⟨gn, 0, none⟩) 2 c, .slice O 1 co][j]?) ∧ (∀ j, w'.cell? ⟨gn, j, none⟩ = (Value.int .i64 0 :: Value.int .i64 0 :: Value.int .i64 0 :: Value.int .i64 0 :: Value.int .i64 0 :: Value.int .i64 0 :: Value.int .i64 0 :: Value.int .i64 0 :: Value.int .i64 0 :: Value.int .i64 1 :: Value.int .i64 0 :: Value.int .i64 1 :: Value.int .i64 0 :: Value.int .i64 2 :: Value.int .i64 (-1) :: Value.int .i64 1 :: tl).toArray[j]?)) (fun W' hbb => ⟨(k2.below hbb).cell, (hn.below hbb).cell⟩) fun hSb hb9 hS hg9 => ?_
  generalize W1.drew = wd at *
  refine hTk 0 15 ?_
  refine hTk 1 16 ?_
  refine hTk 2 17 ?_
  refine hTk 3 18 ?_
  refine hTk 4 19 ?_
  refine hTk 5 20 ?_
  refine hTk 6 21 ?_
  refine hTk 7 22 ?_
  refine hTk 8 23 ?_
  refine hTk 9 24 ?_
  refine hTk 10 25 ?_
  clear hS
  refine wpAnyH_fin (f := fun a (q : Nat) => (((((a.put (some 26) (.agg #[.int .i64 (-1), .int .i64 1, .int .i64 (-1), .int .i64 1, .int .i64 (-2), .int .i64 2, .int .i64 (-2), .int .i64 2])).put (some 27) (.agg #[.int .i64 (-1), .int .i64 1, .int .i64 (-1), .int .i64 1, .int .i64 (-2), .int .i64 2, .int .i64 (-2), .int .i64 2])).put (some 28) (.agg #[.int .i64 (-1), .int .i64 2, .int .i64 (-1), .int .i64 2, .int .i64 (-2), .int .i64 4, .int .i64 (-3), .int .i64 3])).put (some 29) (.agg #[.int .i64 0, .int .i64 0, .int .i64 0, .int .i64 0, .int .i64 0, .int .i64 0, .int .i64 0, .int .i64 0])).put (some 7) (.pointer (some ⟨q, 0, none⟩)))) (B := fun q W' => Blk W' q 68 #[Value.int .i64 0, .int .i64 0, .int .i64 0, .int .i64 0, .int .i64 0, .int .i64 0, .int .i64 0, .int .i64 0] ∧ W1.heap.size ≤ q ∧ Below W1.heap.size W1 W') ?_ (fun hrest => ?_)
  rotate_left 1
  · try simp only [Act.put, sA, sZ, sS] at hrest
    refine held_two (i := 11) (j := 15) (by kernel_rfl) rfl rfl rfl rfl (fun K hK => ?_) (fun K hK => ?_)
    · skip
      go_simp
      refine (hsp _).mono ?_
      rintro e X42 ⟨rfl, hbel⟩
      try replace k7 := k7.below hbel
      replace hb9 := hb9.trans (hbel.mono hb9.size)
      refine hK _ _ (hSb.out _ hb9) ?_
      clear hK K hbel
      try simp only [Act.put, sA, sZ, sS]
      refine held_two (i := 12) (j := 15) (by kernel_rfl) rfl rfl rfl rfl (fun K hK => ?_) (fun K hK => ?_)
      · skip
        go_simp
        refine (hbk _).mono ?_
        rintro e X43 ⟨rfl, hbel⟩
        try replace k7 := k7.below hbel
        replace hb9 := hb9.trans (hbel.mono hb9.size)
        refine hK _ _ (hSb.out _ hb9) ?_
        clear hK K hbel
        try simp only [Act.put, sA, sZ, sS]
        refine held_two (i := 13) (j := 15) (by kernel_rfl) rfl rfl rfl rfl (fun K hK => ?_) (fun K hK => ?_)
        · skip
          go_simp
          refine (hw1 _).mono ?_
          rintro e X44 ⟨rfl, hbel⟩
          try replace k7 := k7.below hbel
          replace hb9 := hb9.trans (hbel.mono hb9.size)
          refine hK _ _ (hSb.out _ hb9) ?_
          clear hK K hbel
          try simp only [Act.put, sA, sZ, sS]
          refine held_two (i := 14) (j := 15) (by kernel_rfl) rfl rfl rfl rfl (fun K hK => ?_) (fun K hK => ?_)
          · skip
            go_simp
            refine (hc1 _).mono ?_
            rintro e X45 ⟨rfl, hbel⟩
            try replace k7 := k7.below hbel
            replace hb9 := hb9.trans (hbel.mono hb9.size)
            refine hK _ _ (hSb.out _ hb9) ?_
            clear hK K hbel
            try simp only [Act.put, sA, sZ, sS]
            refine hOne 15 fun K hK => ?_
            go_simp
            have k7 := Blk.new X45 68 #[Value.int .i64 0, .int .i64 0, .int .i64 0, .int .i64 0, .int .i64 0, .int .i64 0, .int .i64 0, .int .i64 0]
            have gqw := hb9.size
            have hbel : Below X45.heap.size X45 (X45.alloc (.cells #[Value.int .i64 0, .int .i64 0, .int .i64 0, .int .i64 0, .int .i64 0, .int .i64 0, .int .i64 0, .int .i64 0] 68)) := (Below.refl _ _).alloc (Nat.le_refl _) _
            generalize X45.alloc (.cells #[Value.int .i64 0, .int .i64 0, .int .i64 0, .int .i64 0, .int .i64 0, .int .i64 0, .int .i64 0, .int .i64 0] 68) = X46 at *
            generalize X45.heap.size = gq at k7 gqw ⊢
            replace hb9 := hb9.trans (hbel.mono hb9.size)
            refine hK _ _ (hSb.out _ hb9) ?_
            clear hK K hbel
            try simp only [Act.put, sA, sZ, sS]
            refine hOne 16 fun K hK => ?_
            have kz := k7.set8 (.int .i64 0) (.int .i64 0) (.int .i64 0) (.int .i64 0) (.int .i64 0) (.int .i64 0) (.int .i64 0) (.int .i64 0)
            have bz := below_set8 (g := gq) hb9 gqw (.int .i64 0) (.int .i64 0) (.int .i64 0) (.int .i64 0) (.int .i64 0) (.int .i64 0) (.int .i64 0) (.int .i64 0)
            obtain ⟨X47, hwz⟩ : ∃ x, x = set8 X46 gq (.int .i64 0) (.int .i64 0) (.int .i64 0) (.int .i64 0) (.int .i64 0) (.int .i64 0) (.int .i64 0) (.int .i64 0) := ⟨_, rfl⟩
            rw [← hwz] at kz bz
            simp only [set8] at hwz
            obtain ⟨c9, f9, l9⟩ := k7.rules
            go_simp
            rw [← hwz]
            clear hwz c9 f9 l9
            refine hK _ _ (hSb.out _ bz) ?_
            clear hK K
            try simp only [Act.put, sA, sZ, sS]
            refine wpAnyH_done (by kernel_rfl) (hrest gq _ ⟨kz, gqw, bz⟩) _
          · skip
            go_simp
            have k7 := Blk.new X44 68 #[Value.int .i64 0, .int .i64 0, .int .i64 0, .int .i64 0, .int .i64 0, .int .i64 0, .int .i64 0, .int .i64 0]
            have gqw := hb9.size
            have hbel : Below X44.heap.size X44 (X44.alloc (.cells #[Value.int .i64 0, .int .i64 0, .int .i64 0, .int .i64 0, .int .i64 0, .int .i64 0, .int .i64 0, .int .i64 0] 68)) := (Below.refl _ _).alloc (Nat.le_refl _) _
            generalize X44.alloc (.cells #[Value.int .i64 0, .int .i64 0, .int .i64 0, .int .i64 0, .int .i64 0, .int .i64 0, .int .i64 0, .int .i64 0] 68) = X48 at *
            generalize X44.heap.size = gq at k7 gqw ⊢
            replace hb9 := hb9.trans (hbel.mono hb9.size)
            refine hK _ _ (hSb.out _ hb9) ?_
            clear hK K hbel
            try simp only [Act.put, sA, sZ, sS]
            refine hOne 14 fun K hK => ?_
            go_simp
            refine (hc1 _).mono ?_
            rintro e X49 ⟨rfl, hbel⟩
            try replace k7 := k7.below hbel
            replace hb9 := hb9.trans (hbel.mono hb9.size)
            refine hK _ _ (hSb.out _ hb9) ?_
            clear hK K hbel
            try simp only [Act.put, sA, sZ, sS]
            refine hOne 16 fun K hK => ?_
            have kz := k7.set8 (.int .i64 0) (.int .i64 0) (.int .i64 0) (.int .i64 0) (.int .i64 0) (.int .i64 0) (.int .i64 0) (.int .i64 0)
            have bz := below_set8 (g := gq) hb9 gqw (.int .i64 0) (.int .i64 0) (.int .i64 0) (.int .i64 0) (.int .i64 0) (.int .i64 0) (.int .i64 0) (.int .i64 0)
            obtain ⟨X50, hwz⟩ : ∃ x, x = set8 X49 gq (.int .i64 0) (.int .i64 0) (.int .i64 0) (.int .i64 0) (.int .i64 0) (.int .i64 0) (.int .i64 0) (.int .i64 0) := ⟨_, rfl⟩
            rw [← hwz] at kz bz
            simp only [set8] at hwz
            obtain ⟨c9, f9, l9⟩ := k7.rules
            go_simp
            rw [← hwz]
            clear hwz c9 f9 l9
            refine hK _ _ (hSb.out _ bz) ?_
            clear hK K
            try simp only [Act.put, sA, sZ, sS]
            refine wpAnyH_done (by kernel_rfl) (hrest gq _ ⟨kz, gqw, bz⟩) _
        · skip
          go_simp
          have k7 := Blk.new X43 68 #[Value.int .i64 0, .int .i64 0, .int .i64 0, .int .i64 0, .int .i64 0, .int .i64 0, .int .i64 0, .int .i64 0]
          have gqw := hb9.size
          have hbel : Below X43.heap.size X43 (X43.alloc (.cells #[Value.int .i64 0, .int .i64 0, .int .i64 0, .int .i64 0, .int .i64 0, .int .i64 0, .int .i64 0, .int .i64 0] 68)) := (Below.refl _ _).alloc (Nat.le_refl _) _
          generalize X43.alloc (.cells #[Value.int .i64 0, .int .i64 0, .int .i64 0, .int .i64 0, .int .i64 0, .int .i64 0, .int .i64 0, .int .i64 0] 68) = X51 at *
          generalize X43.heap.size = gq at k7 gqw ⊢
          replace hb9 := hb9.trans (hbel.mono hb9.size)
          refine hK _ _ (hSb.out _ hb9) ?_
          clear hK K hbel
          try simp only [Act.put, sA, sZ, sS]
          refine hOne 13 fun K hK => ?_
          go_simp
          refine (hw1 _).mono ?_
          rintro e X52 ⟨rfl, hbel⟩
          try replace k7 := k7.below hbel
          replace hb9 := hb9.trans (hbel.mono hb9.size)
          refine hK _ _ (hSb.out _ hb9) ?_
          clear hK K hbel
          try simp only [Act.put, sA, sZ, sS]
          refine hOne 14 fun K hK => ?_
          go_simp
          refine (hc1 _).mono ?_
          rintro e X53 ⟨rfl, hbel⟩
          try replace k7 := k7.below hbel
          replace hb9 := hb9.trans (hbel.mono hb9.size)
          refine hK _ _ (hSb.out _ hb9) ?_
          clear hK K hbel
          try simp only [Act.put, sA, sZ, sS]
          refine hOne 16 fun K hK => ?_
          have kz := k7.set8 (.int .i64 0) (.int .i64 0) (.int .i64 0) (.int .i64 0) (.int .i64 0) (.int .i64 0) (.int .i64 0) (.int .i64 0)
          have bz := below_set8 (g := gq) hb9 gqw (.int .i64 0) (.int .i64 0) (.int .i64 0) (.int .i64 0) (.int .i64 0) (.int .i64 0) (.int .i64 0) (.int .i64 0)
          obtain ⟨X54, hwz⟩ : ∃ x, x = set8 X53 gq (.int .i64 0) (.int .i64 0) (.int .i64 0) (.int .i64 0) (.int .i64 0) (.int .i64 0) (.int .i64 0) (.int .i64 0) := ⟨_, rfl⟩
          rw [← hwz] at kz bz
          simp only [set8] at hwz
          obtain ⟨c9, f9, l9⟩ := k7.rules
          go_simp
          rw [← hwz]
          clear hwz c9 f9 l9
          refine hK _ _ (hSb.out _ bz) ?_
          clear hK K
          try simp only [Act.put, sA, sZ, sS]
          refine wpAnyH_done (by kernel_rfl) (hrest gq _ ⟨kz, gqw, bz⟩) _
      · skip
        go_simp
        have k7 := Blk.new X42 68 #[Value.int .i64 0, .int .i64 0, .int .i64 0, .int .i64 0, .int .i64 0, .int .i64 0, .int .i64 0, .int .i64 0]
        have gqw := hb9.size
        have hbel : Below X42.heap.size X42 (X42.alloc (.cells #[Value.int .i64 0, .int .i64 0, .int .i64 0, .int .i64 0, .int .i64 0, .int .i64 0, .int .i64 0, .int .i64 0] 68)) := (Below.refl _ _).alloc (Nat.le_refl _) _
        generalize X42.alloc (.cells #[Value.int .i64 0, .int .i64 0, .int .i64 0, .int .i64 0, .int .i64 0, .int .i64 0, .int .i64 0, .int .i64 0] 68) = X55 at *
        generalize X42.heap.size = gq at k7 gqw ⊢
        replace hb9 := hb9.trans (hbel.mono hb9.size)
        refine hK _ _ (hSb.out _ hb9) ?_
        clear hK K hbel
        try simp only [Act.put, sA, sZ, sS]
        refine hOne 12 fun K hK => ?_
        go_simp
        refine (hbk _).mono ?_
        rintro e X56 ⟨rfl, hbel⟩
        try replace k7 := k7.below hbel
        replace hb9 := hb9.trans (hbel.mono hb9.size)
        refine hK _ _ (hSb.out _ hb9) ?_
        clear hK K hbel
        try simp only [Act.put, sA, sZ, sS]
        refine hOne 13 fun K hK => ?_
        go_simp
        refine (hw1 _).mono ?_
        rintro e X57 ⟨rfl, hbel⟩
        try replace k7 := k7.below hbel
        replace hb9 := hb9.trans (hbel.mono hb9.size)
        refine hK _ _ (hSb.out _ hb9) ?_
        clear hK K hbel
        try simp only [Act.put, sA, sZ, sS]
        refine hOne 14 fun K hK => ?_
        go_simp
        refine (hc1 _).mono ?_
        rintro e X58 ⟨rfl, hbel⟩
        try replace k7 := k7.below hbel
        replace hb9 := hb9.trans (hbel.mono hb9.size)
        refine hK _ _ (hSb.out _ hb9) ?_
        clear hK K hbel
        try simp only [Act.put, sA, sZ, sS]
        refine hOne 16 fun K hK => ?_
        have kz := k7.set8 (.int .i64 0) (.int .i64 0) (.int .i64 0) (.int .i64 0) (.int .i64 0) (.int .i64 0) (.int .i64 0) (.int .i64 0)
        have bz := below_set8 (g := gq) hb9 gqw (.int .i64 0) (.int .i64 0) (.int .i64 0) (.int .i64 0) (.int .i64 0) (.int .i64 0) (.int .i64 0) (.int .i64 0)
        obtain ⟨X59, hwz⟩ : ∃ x, x = set8 X58 gq (.int .i64 0) (.int .i64 0) (.int .i64 0) (.int .i64 0) (.int .i64 0) (.int .i64 0) (.int .i64 0) (.int .i64 0) := ⟨_, rfl⟩
        rw [← hwz] at kz bz
        simp only [set8] at hwz
        obtain ⟨c9, f9, l9⟩ := k7.rules
        go_simp
        rw [← hwz]
        clear hwz c9 f9 l9
        refine hK _ _ (hSb.out _ bz) ?_
        clear hK K
        try simp only [Act.put, sA, sZ, sS]
        refine wpAnyH_done (by kernel_rfl) (hrest gq _ ⟨kz, gqw, bz⟩) _
    · skip
      go_simp
      have k7 := Blk.new wd 68 #[Value.int .i64 0, .int .i64 0, .int .i64 0, .int .i64 0, .int .i64 0, .int .i64 0, .int .i64 0, .int .i64 0]
      have gqw := hb9.size
      have hbel : Below wd.heap.size wd (wd.alloc (.cells #[Value.int .i64 0, .int .i64 0, .int .i64 0, .int .i64 0, .int .i64 0, .int .i64 0, .int .i64 0, .int .i64 0] 68)) := (Below.refl _ _).alloc (Nat.le_refl _) _
      generalize wd.alloc (.cells #[Value.int .i64 0, .int .i64 0, .int .i64 0, .int .i64 0, .int .i64 0, .int .i64 0, .int .i64 0, .int .i64 0] 68) = X60 at *
      generalize wd.heap.size = gq at k7 gqw ⊢
      replace hb9 := hb9.trans (hbel.mono hb9.size)
      refine hK _ _ (hSb.out _ hb9) ?_
      clear hK K hbel
      try simp only [Act.put, sA, sZ, sS]
      refine hOne 11 fun K hK => ?_
      go_simp
      refine (hsp _).mono ?_
      rintro e X61 ⟨rfl, hbel⟩
      try replace k7 := k7.below hbel
      replace hb9 := hb9.trans (hbel.mono hb9.size)
      refine hK _ _ (hSb.out _ hb9) ?_
      clear hK K hbel
      try simp only [Act.put, sA, sZ, sS]
      refine hOne 12 fun K hK => ?_
      go_simp
      refine (hbk _).mono ?_
      rintro e X62 ⟨rfl, hbel⟩
      try replace k7 := k7.below hbel
      replace hb9 := hb9.trans (hbel.mono hb9.size)
      refine hK _ _ (hSb.out _ hb9) ?_
      clear hK K hbel
      try simp only [Act.put, sA, sZ, sS]
      refine hOne 13 fun K hK => ?_
      go_simp
      refine (hw1 _).mono ?_
      rintro e X63 ⟨rfl, hbel⟩
      try replace k7 := k7.below hbel
      replace hb9 := hb9.trans (hbel.mono hb9.size)
      refine hK _ _ (hSb.out _ hb9) ?_
      clear hK K hbel
      try simp only [Act.put, sA, sZ, sS]
      refine hOne 14 fun K hK => ?_
      go_simp
      refine (hc1 _).mono ?_
      rintro e X64 ⟨rfl, hbel⟩
      try replace k7 := k7.below hbel
      replace hb9 := hb9.trans (hbel.mono hb9.size)
      refine hK _ _ (hSb.out _ hb9) ?_
      clear hK K hbel
      try simp only [Act.put, sA, sZ, sS]
      refine hOne 16 fun K hK => ?_
      have kz := k7.set8 (.int .i64 0) (.int .i64 0) (.int .i64 0) (.int .i64 0) (.int .i64 0) (.int .i64 0) (.int .i64 0) (.int .i64 0)
      have bz := below_set8 (g := gq) hb9 gqw (.int .i64 0) (.int .i64 0) (.int .i64 0) (.int .i64 0) (.int .i64 0) (.int .i64 0) (.int .i64 0) (.int .i64 0)
      obtain ⟨X65, hwz⟩ : ∃ x, x = set8 X64 gq (.int .i64 0) (.int .i64 0) (.int .i64 0) (.int .i64 0) (.int .i64 0) (.int .i64 0) (.int .i64 0) (.int .i64 0) := ⟨_, rfl⟩
      rw [← hwz] at kz bz
      simp only [set8] at hwz
      obtain ⟨c9, f9, l9⟩ := k7.rules
      go_simp
      rw [← hwz]
      clear hwz c9 f9 l9
      refine hK _ _ (hSb.out _ bz) ?_
      clear hK K
      try simp only [Act.put, sA, sZ, sS]
      refine wpAnyH_done (by kernel_rfl) (hrest gq _ ⟨kz, gqw, bz⟩) _
  · rintro g7 X9 ⟨k7, hg7, hb9⟩
    try simp only [Act.put, sA, sZ, sS]
    refine noPanic_normal ?_
    clear hSb hg9 hw1 hc1 hbk
    replace k2 := k2.below hb9
    replace hn := hn.below hb9
    replace b := b.trans (hb9.mono b.size)
    clear hb9
    have hz2 := b.size
    go_wp2_with fail
    refine hOpn (fun w' : World => (∀ j, w'.cell? ⟨w.heap.size, j, none⟩ = #[Value.slice (some ⟨gn, 0, none⟩) 2 c, .slice O 1 co][j]?) ∧ (∀ j, w'.cell? ⟨gn, j, none⟩ = (Value.int .i64 0 :: Value.int .i64 0 :: Value.int .i64 0 :: Value.int .i64 0 :: Value.int .i64 0 :: Value.int .i64 0 :: Value.int .i64 0 :: Value.int .i64 0 :: Value.int .i64 0 :: Value.int .i64 1 :: Value.int .i64 0 :: Value.int .i64 1 :: Value.int .i64 0 :: Value.int .i64 2 :: Value.int .i64 (-1) :: Value.int .i64 1 :: tl).toArray[j]?) ∧ (∀ j, w'.cell? ⟨g7, j, none⟩ = #[Value.int .i64 0, .int .i64 0, .int .i64 0, .int .i64 0, .int .i64 0, .int .i64 0, .int .i64 0, .int .i64 0][j]?)) (fun W' hbb => ⟨(k2.below hbb).cell, (hn.below hbb).cell, (k7.below hbb).cell⟩) fun hSb hb9 hS hg9 => ?_
    generalize X9.drew = we at *
    refine hTk 0 30 ?_
    refine hTk 1 31 ?_
    refine hTk 2 32 ?_
    refine hTk 3 33 ?_
    refine hTk 4 34 ?_
    refine hTk 5 35 ?_
    refine hTk 6 36 ?_
    clear hS
    refine wpAnyH_fin (f := fun a (q : Nat) => ((((a.put (some 37) (.agg #[.int .i64 (-1), .int .i64 1, .int .i64 (-1), .int .i64 1, .int .i64 (-2), .int .i64 2, .int .i64 (-2), .int .i64 2])).put (some 38) (.agg #[.int .i64 (-1), .int .i64 1, .int .i64 (-1), .int .i64 1, .int .i64 (-2), .int .i64 2, .int .i64 (-2), .int .i64 2])).put (some 39) (.agg #[.int .i64 0, .int .i64 1, .int .i64 0, .int .i64 1, .int .i64 0, .int .i64 2, .int .i64 (-1), .int .i64 1])).put (some 8) (.pointer (some ⟨q, 0, none⟩)))) (B := fun q W' => Blk W' q 68 #[Value.int .i64 0, .int .i64 1, .int .i64 0, .int .i64 1, .int .i64 0, .int .i64 2, .int .i64 (-1), .int .i64 1] ∧ X9.heap.size ≤ q ∧ Below X9.heap.size X9 W') ?_ (fun hrest => ?_)
    rotate_left 1
    · try simp only [Act.put, sA, sZ, sS] at hrest
      refine held_two (i := 7) (j := 10) (by kernel_rfl) rfl rfl rfl rfl (fun K hK => ?_) (fun K hK => ?_)
      · skip
        go_simp
        refine (hsp _).mono ?_
        rintro e X66 ⟨rfl, hbel⟩
        try replace k8 := k8.below hbel
        replace hb9 := hb9.trans (hbel.mono hb9.size)
        refine hK _ _ (hSb.out _ hb9) ?_
        clear hK K hbel
        try simp only [Act.put, sA, sZ, sS]
        refine held_two (i := 8) (j := 10) (by kernel_rfl) rfl rfl rfl rfl (fun K hK => ?_) (fun K hK => ?_)
        · skip
          go_simp
          refine (hw2 _).mono ?_
          rintro e X67 ⟨rfl, hbel⟩
          try replace k8 := k8.below hbel
          replace hb9 := hb9.trans (hbel.mono hb9.size)
          refine hK _ _ (hSb.out _ hb9) ?_
          clear hK K hbel
          try simp only [Act.put, sA, sZ, sS]
          refine held_two (i := 9) (j := 10) (by kernel_rfl) rfl rfl rfl rfl (fun K hK => ?_) (fun K hK => ?_)
          · skip
            go_simp
            refine (hc2 _).mono ?_
            rintro e X68 ⟨rfl, hbel⟩
            try replace k8 := k8.below hbel
            replace hb9 := hb9.trans (hbel.mono hb9.size)
            refine hK _ _ (hSb.out _ hb9) ?_
            clear hK K hbel
            try simp only [Act.put, sA, sZ, sS]
            refine hOne 10 fun K hK => ?_
            go_simp
            have k8 := Blk.new X68 68 #[Value.int .i64 0, .int .i64 0, .int .i64 0, .int .i64 0, .int .i64 0, .int .i64 0, .int .i64 0, .int .i64 0]
            have gqw := hb9.size
            have hbel : Below X68.heap.size X68 (X68.alloc (.cells #[Value.int .i64 0, .int .i64 0, .int .i64 0, .int .i64 0, .int .i64 0, .int .i64 0, .int .i64 0, .int .i64 0] 68)) := (Below.refl _ _).alloc (Nat.le_refl _) _
            generalize X68.alloc (.cells #[Value.int .i64 0, .int .i64 0, .int .i64 0, .int .i64 0, .int .i64 0, .int .i64 0, .int .i64 0, .int .i64 0] 68) = X69 at *
            generalize X68.heap.size = gq at k8 gqw ⊢
            replace hb9 := hb9.trans (hbel.mono hb9.size)
            refine hK _ _ (hSb.out _ hb9) ?_
            clear hK K hbel
            try simp only [Act.put, sA, sZ, sS]
            refine hOne 11 fun K hK => ?_
            have kz := k8.set8 (.int .i64 0) (.int .i64 1) (.int .i64 0) (.int .i64 1) (.int .i64 0) (.int .i64 2) (.int .i64 (-1)) (.int .i64 1)
            have bz := below_set8 (g := gq) hb9 gqw (.int .i64 0) (.int .i64 1) (.int .i64 0) (.int .i64 1) (.int .i64 0) (.int .i64 2) (.int .i64 (-1)) (.int .i64 1)
            obtain ⟨X70, hwz⟩ : ∃ x, x = set8 X69 gq (.int .i64 0) (.int .i64 1) (.int .i64 0) (.int .i64 1) (.int .i64 0) (.int .i64 2) (.int .i64 (-1)) (.int .i64 1) := ⟨_, rfl⟩
            rw [← hwz] at kz bz
            simp only [set8] at hwz
            obtain ⟨c9, f9, l9⟩ := k8.rules
            go_simp
            rw [← hwz]
            clear hwz c9 f9 l9
            refine hK _ _ (hSb.out _ bz) ?_
            clear hK K
            try simp only [Act.put, sA, sZ, sS]
            refine wpAnyH_done (by kernel_rfl) (hrest gq _ ⟨kz, gqw, bz⟩) _
          · skip
            go_simp
            have k8 := Blk.new X67 68 #[Value.int .i64 0, .int .i64 0, .int .i64 0, .int .i64 0, .int .i64 0, .int .i64 0, .int .i64 0, .int .i64 0]
            have gqw := hb9.size
            have hbel : Below X67.heap.size X67 (X67.alloc (.cells #[Value.int .i64 0, .int .i64 0, .int .i64 0, .int .i64 0, .int .i64 0, .int .i64 0, .int .i64 0, .int .i64 0] 68)) := (Below.refl _ _).alloc (Nat.le_refl _) _
            generalize X67.alloc (.cells #[Value.int .i64 0, .int .i64 0, .int .i64 0, .int .i64 0, .int .i64 0, .int .i64 0, .int .i64 0, .int .i64 0] 68) = X71 at *
            generalize X67.heap.size = gq at k8 gqw ⊢
            replace hb9 := hb9.trans (hbel.mono hb9.size)
            refine hK _ _ (hSb.out _ hb9) ?_
            clear hK K hbel
            try simp only [Act.put, sA, sZ, sS]
            refine hOne 9 fun K hK => ?_
            go_simp
            refine (hc2 _).mono ?_
            rintro e X72 ⟨rfl, hbel⟩
            try replace k8 := k8.below hbel
            replace hb9 := hb9.trans (hbel.mono hb9.size)
            refine hK _ _ (hSb.out _ hb9) ?_
            clear hK K hbel
            try simp only [Act.put, sA, sZ, sS]
            refine hOne 11 fun K hK => ?_
            have kz := k8.set8 (.int .i64 0) (.int .i64 1) (.int .i64 0) (.int .i64 1) (.int .i64 0) (.int .i64 2) (.int .i64 (-1)) (.int .i64 1)
            have bz := below_set8 (g := gq) hb9 gqw (.int .i64 0) (.int .i64 1) (.int .i64 0) (.int .i64 1) (.int .i64 0) (.int .i64 2) (.int .i64 (-1)) (.int .i64 1)
            obtain ⟨X73, hwz⟩ : ∃ x, x = set8 X72 gq (.int .i64 0) (.int .i64 1) (.int .i64 0) (.int .i64 1) (.int .i64 0) (.int .i64 2) (.int .i64 (-1)) (.int .i64 1) := ⟨_, rfl⟩
            rw [← hwz] at kz bz
            simp only [set8] at hwz
            obtain ⟨c9, f9, l9⟩ := k8.rules
            go_simp
            rw [← hwz]
            clear hwz c9 f9 l9
            refine hK _ _ (hSb.out _ bz) ?_
            clear hK K
            try simp only [Act.put, sA, sZ, sS]
            refine wpAnyH_done (by kernel_rfl) (hrest gq _ ⟨kz, gqw, bz⟩) _
        · skip
          go_simp
          have k8 := Blk.new X66 68 #[Value.int .i64 0, .int .i64 0, .int .i64 0, .int .i64 0, .int .i64 0, .int .i64 0, .int .i64 0, .int .i64 0]
          have gqw := hb9.size
          have hbel : Below X66.heap.size X66 (X66.alloc (.cells #[Value.int .i64 0, .int .i64 0, .int .i64 0, .int .i64 0, .int .i64 0, .int .i64 0, .int .i64 0, .int .i64 0] 68)) := (Below.refl _ _).alloc (Nat.le_refl _) _
          generalize X66.alloc (.cells #[Value.int .i64 0, .int .i64 0, .int .i64 0, .int .i64 0, .int .i64 0, .int .i64 0, .int .i64 0, .int .i64 0] 68) = X74 at *
          generalize X66.heap.size = gq at k8 gqw ⊢
          replace hb9 := hb9.trans (hbel.mono hb9.size)
          refine hK _ _ (hSb.out _ hb9) ?_
          clear hK K hbel
          try simp only [Act.put, sA, sZ, sS]
          refine hOne 8 fun K hK => ?_
          go_simp
          refine (hw2 _).mono ?_
          rintro e X75 ⟨rfl, hbel⟩
          try replace k8 := k8.below hbel
          replace hb9 := hb9.trans (hbel.mono hb9.size)
          refine hK _ _ (hSb.out _ hb9) ?_
          clear hK K hbel
          try simp only [Act.put, sA, sZ, sS]
          refine hOne 9 fun K hK => ?_
          go_simp
          refine (hc2 _).mono ?_
          rintro e X76 ⟨rfl, hbel⟩
          try replace k8 := k8.below hbel
          replace hb9 := hb9.trans (hbel.mono hb9.size)
          refine hK _ _ (hSb.out _ hb9) ?_
          clear hK K hbel
          try simp only [Act.put, sA, sZ, sS]
          refine hOne 11 fun K hK => ?_
          have kz := k8.set8 (.int .i64 0) (.int .i64 1) (.int .i64 0) (.int .i64 1) (.int .i64 0) (.int .i64 2) (.int .i64 (-1)) (.int .i64 1)
          have bz := below_set8 (g := gq) hb9 gqw (.int .i64 0) (.int .i64 1) (.int .i64 0) (.int .i64 1) (.int .i64 0) (.int .i64 2) (.int .i64 (-1)) (.int .i64 1)
          obtain ⟨X77, hwz⟩ : ∃ x, x = set8 X76 gq (.int .i64 0) (.int .i64 1) (.int .i64 0) (.int .i64 1) (.int .i64 0) (.int .i64 2) (.int .i64 (-1)) (.int .i64 1) := ⟨_, rfl⟩
          rw [← hwz] at kz bz
          simp only [set8] at hwz
          obtain ⟨c9, f9, l9⟩ := k8.rules
          go_simp
          rw [← hwz]
          clear hwz c9 f9 l9
          refine hK _ _ (hSb.out _ bz) ?_
          clear hK K
          try simp only [Act.put, sA, sZ, sS]
          refine wpAnyH_done (by kernel_rfl) (hrest gq _ ⟨kz, gqw, bz⟩) _
      · skip
        go_simp
        have k8 := Blk.new we 68 #[Value.int .i64 0, .int .i64 0, .int .i64 0, .int .i64 0, .int .i64 0, .int .i64 0, .int .i64 0, .int .i64 0]
        have gqw := hb9.size
        have hbel : Below we.heap.size we (we.alloc (.cells #[Value.int .i64 0, .int .i64 0, .int .i64 0, .int .i64 0, .int .i64 0, .int .i64 0, .int .i64 0, .int .i64 0] 68)) := (Below.refl _ _).alloc (Nat.le_refl _) _
        generalize we.alloc (.cells #[Value.int .i64 0, .int .i64 0, .int .i64 0, .int .i64 0, .int .i64 0, .int .i64 0, .int .i64 0, .int .i64 0] 68) = X78 at *
        generalize we.heap.size = gq at k8 gqw ⊢
        replace hb9 := hb9.trans (hbel.mono hb9.size)
        refine hK _ _ (hSb.out _ hb9) ?_
        clear hK K hbel
        try simp only [Act.put, sA, sZ, sS]
        refine hOne 7 fun K hK => ?_
        go_simp
        refine (hsp _).mono ?_
        rintro e X79 ⟨rfl, hbel⟩
        try replace k8 := k8.below hbel
        replace hb9 := hb9.trans (hbel.mono hb9.size)
        refine hK _ _ (hSb.out _ hb9) ?_
        clear hK K hbel
        try simp only [Act.put, sA, sZ, sS]
        refine hOne 8 fun K hK => ?_
        go_simp
        refine (hw2 _).mono ?_
        rintro e X80 ⟨rfl, hbel⟩
        try replace k8 := k8.below hbel
        replace hb9 := hb9.trans (hbel.mono hb9.size)
        refine hK _ _ (hSb.out _ hb9) ?_
        clear hK K hbel
        try simp only [Act.put, sA, sZ, sS]
        refine hOne 9 fun K hK => ?_
        go_simp
        refine (hc2 _).mono ?_
        rintro e X81 ⟨rfl, hbel⟩
        try replace k8 := k8.below hbel
        replace hb9 := hb9.trans (hbel.mono hb9.size)
        refine hK _ _ (hSb.out _ hb9) ?_
        clear hK K hbel
        try simp only [Act.put, sA, sZ, sS]
        refine hOne 11 fun K hK => ?_
        have kz := k8.set8 (.int .i64 0) (.int .i64 1) (.int .i64 0) (.int .i64 1) (.int .i64 0) (.int .i64 2) (.int .i64 (-1)) (.int .i64 1)
        have bz := below_set8 (g := gq) hb9 gqw (.int .i64 0) (.int .i64 1) (.int .i64 0) (.int .i64 1) (.int .i64 0) (.int .i64 2) (.int .i64 (-1)) (.int .i64 1)
        obtain ⟨X82, hwz⟩ : ∃ x, x = set8 X81 gq (.int .i64 0) (.int .i64 1) (.int .i64 0) (.int .i64 1) (.int .i64 0) (.int .i64 2) (.int .i64 (-1)) (.int .i64 1) := ⟨_, rfl⟩
        rw [← hwz] at kz bz
        simp only [set8] at hwz
        obtain ⟨c9, f9, l9⟩ := k8.rules
        go_simp
        rw [← hwz]
        clear hwz c9 f9 l9
        refine hK _ _ (hSb.out _ bz) ?_
        clear hK K
        try simp only [Act.put, sA, sZ, sS]
        refine wpAnyH_done (by kernel_rfl) (hrest gq _ ⟨kz, gqw, bz⟩) _
    · rintro g8 Y9 ⟨k8, hg8, hb9⟩
      try simp only [Act.put, sA, sZ, sS]
      refine noPanic_normal ?_
      clear hSb hg9 hw2 hc2 hsp
      have h78 := k7.lt
      replace k2 := k2.below hb9
      replace hn := hn.below hb9
      replace k7 := k7.below hb9
      replace b := b.trans (hb9.mono b.size)
      clear hb9
      obtain ⟨c7, f7, l7⟩ := k7.rules
      obtain ⟨c8, f8, l8⟩ := k8.rules
      go_wp2_with fail
      refine (possible_any _).mono ?_
      rintro e Y1 ⟨rfl, hb⟩
      clear c7 f7 l7 c8 f8 l8
      replace k2 := k2.below hb
      replace hn := hn.below hb
      replace k7 := k7.below hb
      replace k8 := k8.below hb
      replace b := b.trans (hb.mono b.size)
      clear hb
      go_wp2_with fail
      obtain ⟨c2, f2, l2⟩ := k2.rules
      obtain ⟨cn, fn9, ln⟩ := hn.rules
      obtain ⟨c7, f7, l7⟩ := k7.rules
      obtain ⟨c8, f8, l8⟩ := k8.rules
      go_quiet (fail)
      clear c2 f2 l2 cn fn9 ln c7 f7 l7 c8 f8 l8
      replace k2 := k2.drewN nq
      replace hn := hn.drewN nq
      replace k7 := k7.drewN nq
      replace k8 := k8.drewN nq
      replace b := below_drewN b nq
      generalize Y1.drewN nq = Y2 at *
      clear nq
      go_wp2_with fail
      have b : BelowH (fun k => k = gn) w.heap.size w Y2.drew := belowH_of b.drew
      refine wp_held_np (fun w' : World => (∀ j, w'.cell? ⟨w.heap.size, j, none⟩ = #[Value.slice (some ⟨gn, 0, none⟩) 2 c, .slice O 1 co][j]?) ∧ (∀ j, w'.cell? ⟨g7, j, none⟩ = #[Value.int .i64 0, .int .i64 0, .int .i64 0, .int .i64 0, .int .i64 0, .int .i64 0, .int .i64 0, .int .i64 0][j]?) ∧ (∀ j, w'.cell? ⟨g8, j, none⟩ = #[Value.int .i64 0, .int .i64 1, .int .i64 0, .int .i64 1, .int .i64 0, .int .i64 2, .int .i64 (-1), .int .i64 1][j]?)) (by kernel_rfl) ?_
      have hS : (fun w' : World => (∀ j, w'.cell? ⟨w.heap.size, j, none⟩ = #[Value.slice (some ⟨gn, 0, none⟩) 2 c, .slice O 1 co][j]?) ∧ (∀ j, w'.cell? ⟨g7, j, none⟩ = #[Value.int .i64 0, .int .i64 0, .int .i64 0, .int .i64 0, .int .i64 0, .int .i64 0, .int .i64 0, .int .i64 0][j]?) ∧ (∀ j, w'.cell? ⟨g8, j, none⟩ = #[Value.int .i64 0, .int .i64 1, .int .i64 0, .int .i64 1, .int .i64 0, .int .i64 2, .int .i64 (-1), .int .i64 1][j]?)) Y2.drew := ⟨k2.cell, k7.cell, k8.cell⟩
      replace k2 := k2.drew
      replace hn := hn.drew
      replace k7 := k7.drew
      replace k8 := k8.drew
      generalize Y2.drew = wf at *
      refine hTk 0 63 ?_
      refine hTk 1 64 ?_
      refine hTk 2 65 ?_
      refine hTk 3 66 ?_
      refine hTk 4 67 ?_
      refine hTk 5 68 ?_
      refine hTk 6 69 ?_
      refine hTk 7 70 ?_
      refine hTk 8 71 ?_
      have kz := ((((((((hn.set_ 0 (.int .i64 0)).set_ 1 (.int .i64 0)).set_ 2 (.int .i64 0)).set_ 3 (.int .i64 0)).set_ 4 (.int .i64 0)).set_ 5 (.int .i64 0)).set_ 6 (.int .i64 0)).set_ 7 (.int .i64 0))
      simp only [sA, sZ, sS] at kz
      have bz := ((((((((b.setCell (p := ⟨gn, 0, none⟩) rfl (.int .i64 0)).setCell (p := ⟨gn, 1, none⟩) rfl (.int .i64 0)).setCell (p := ⟨gn, 2, none⟩) rfl (.int .i64 0)).setCell (p := ⟨gn, 3, none⟩) rfl (.int .i64 0)).setCell (p := ⟨gn, 4, none⟩) rfl (.int .i64 0)).setCell (p := ⟨gn, 5, none⟩) rfl (.int .i64 0)).setCell (p := ⟨gn, 6, none⟩) rfl (.int .i64 0)).setCell (p := ⟨gn, 7, none⟩) rfl (.int .i64 0))
      have k2z := ((((((((k2.far (p := ⟨gn, 0, none⟩) (by dsimp only; omega) (.int .i64 0)).far (p := ⟨gn, 1, none⟩) (by dsimp only; omega) (.int .i64 0)).far (p := ⟨gn, 2, none⟩) (by dsimp only; omega) (.int .i64 0)).far (p := ⟨gn, 3, none⟩) (by dsimp only; omega) (.int .i64 0)).far (p := ⟨gn, 4, none⟩) (by dsimp only; omega) (.int .i64 0)).far (p := ⟨gn, 5, none⟩) (by dsimp only; omega) (.int .i64 0)).far (p := ⟨gn, 6, none⟩) (by dsimp only; omega) (.int .i64 0)).far (p := ⟨gn, 7, none⟩) (by dsimp only; omega) (.int .i64 0))
      have k7z := ((((((((k7.far (p := ⟨gn, 0, none⟩) (by dsimp only; omega) (.int .i64 0)).far (p := ⟨gn, 1, none⟩) (by dsimp only; omega) (.int .i64 0)).far (p := ⟨gn, 2, none⟩) (by dsimp only; omega) (.int .i64 0)).far (p := ⟨gn, 3, none⟩) (by dsimp only; omega) (.int .i64 0)).far (p := ⟨gn, 4, none⟩) (by dsimp only; omega) (.int .i64 0)).far (p := ⟨gn, 5, none⟩) (by dsimp only; omega) (.int .i64 0)).far (p := ⟨gn, 6, none⟩) (by dsimp only; omega) (.int .i64 0)).far (p := ⟨gn, 7, none⟩) (by dsimp only; omega) (.int .i64 0))
      have k8z := ((((((((k8.far (p := ⟨gn, 0, none⟩) (by dsimp only; omega) (.int .i64 0)).far (p := ⟨gn, 1, none⟩) (by dsimp only; omega) (.int .i64 0)).far (p := ⟨gn, 2, none⟩) (by dsimp only; omega) (.int .i64 0)).far (p := ⟨gn, 3, none⟩) (by dsimp only; omega) (.int .i64 0)).far (p := ⟨gn, 4, none⟩) (by dsimp only; omega) (.int .i64 0)).far (p := ⟨gn, 5, none⟩) (by dsimp only; omega) (.int .i64 0)).far (p := ⟨gn, 6, none⟩) (by dsimp only; omega) (.int .i64 0)).far (p := ⟨gn, 7, none⟩) (by dsimp only; omega) (.int .i64 0))
      obtain ⟨Y3, hwz⟩ : ∃ q0, q0 = ((((((((wf.setCell ⟨gn, 0, none⟩ (.int .i64 0)).setCell ⟨gn, 1, none⟩ (.int .i64 0)).setCell ⟨gn, 2, none⟩ (.int .i64 0)).setCell ⟨gn, 3, none⟩ (.int .i64 0)).setCell ⟨gn, 4, none⟩ (.int .i64 0)).setCell ⟨gn, 5, none⟩ (.int .i64 0)).setCell ⟨gn, 6, none⟩ (.int .i64 0)).setCell ⟨gn, 7, none⟩ (.int .i64 0)) := ⟨_, rfl⟩
      rw [← hwz] at kz bz k2z k7z k8z
      obtain ⟨c9, f9, l9⟩ := hn.rules
      refine hOne 9 fun K hK => ?_
      go_simp
      rw [← hwz]
      clear hwz c9 f9 l9 hn b hS k2 k7 k8
      have hn := kz
      have b := bz
      have k2 := k2z
      have k7 := k7z
      have k8 := k8z
      clear kz bz k2z k7z k8z
      have hS : (fun w' : World => (∀ j, w'.cell? ⟨w.heap.size, j, none⟩ = #[Value.slice (some ⟨gn, 0, none⟩) 2 c, .slice O 1 co][j]?) ∧ (∀ j, w'.cell? ⟨g7, j, none⟩ = #[Value.int .i64 0, .int .i64 0, .int .i64 0, .int .i64 0, .int .i64 0, .int .i64 0, .int .i64 0, .int .i64 0][j]?) ∧ (∀ j, w'.cell? ⟨g8, j, none⟩ = #[Value.int .i64 0, .int .i64 1, .int .i64 0, .int .i64 1, .int .i64 0, .int .i64 2, .int .i64 (-1), .int .i64 1][j]?)) Y3 := ⟨k2.cell, k7.cell, k8.cell⟩
      refine hK _ _ hS ?_
      clear hK K
      try simp only [Act.put, sA, sZ, sS]
      refine hTk 10 72 ?_
      have kz := ((((((((hn.set_ 8 (.int .i64 0)).set_ 9 (.int .i64 1)).set_ 10 (.int .i64 0)).set_ 11 (.int .i64 1)).set_ 12 (.int .i64 0)).set_ 13 (.int .i64 2)).set_ 14 (.int .i64 (-1))).set_ 15 (.int .i64 1))
      simp only [sA, sZ, sS] at kz
      have bz := ((((((((b.setCell (p := ⟨gn, 8, none⟩) rfl (.int .i64 0)).setCell (p := ⟨gn, 9, none⟩) rfl (.int .i64 1)).setCell (p := ⟨gn, 10, none⟩) rfl (.int .i64 0)).setCell (p := ⟨gn, 11, none⟩) rfl (.int .i64 1)).setCell (p := ⟨gn, 12, none⟩) rfl (.int .i64 0)).setCell (p := ⟨gn, 13, none⟩) rfl (.int .i64 2)).setCell (p := ⟨gn, 14, none⟩) rfl (.int .i64 (-1))).setCell (p := ⟨gn, 15, none⟩) rfl (.int .i64 1))
      have k2z := ((((((((k2.far (p := ⟨gn, 8, none⟩) (by dsimp only; omega) (.int .i64 0)).far (p := ⟨gn, 9, none⟩) (by dsimp only; omega) (.int .i64 1)).far (p := ⟨gn, 10, none⟩) (by dsimp only; omega) (.int .i64 0)).far (p := ⟨gn, 11, none⟩) (by dsimp only; omega) (.int .i64 1)).far (p := ⟨gn, 12, none⟩) (by dsimp only; omega) (.int .i64 0)).far (p := ⟨gn, 13, none⟩) (by dsimp only; omega) (.int .i64 2)).far (p := ⟨gn, 14, none⟩) (by dsimp only; omega) (.int .i64 (-1))).far (p := ⟨gn, 15, none⟩) (by dsimp only; omega) (.int .i64 1))
      have k7z := ((((((((k7.far (p := ⟨gn, 8, none⟩) (by dsimp only; omega) (.int .i64 0)).far (p := ⟨gn, 9, none⟩) (by dsimp only; omega) (.int .i64 1)).far (p := ⟨gn, 10, none⟩) (by dsimp only; omega) (.int .i64 0)).far (p := ⟨gn, 11, none⟩) (by dsimp only; omega) (.int .i64 1)).far (p := ⟨gn, 12, none⟩) (by dsimp only; omega) (.int .i64 0)).far (p := ⟨gn, 13, none⟩) (by dsimp only; omega) (.int .i64 2)).far (p := ⟨gn, 14, none⟩) (by dsimp only; omega) (.int .i64 (-1))).far (p := ⟨gn, 15, none⟩) (by dsimp only; omega) (.int .i64 1))
      have k8z := ((((((((k8.far (p := ⟨gn, 8, none⟩) (by dsimp only; omega) (.int .i64 0)).far (p := ⟨gn, 9, none⟩) (by dsimp only; omega) (.int .i64 1)).far (p := ⟨gn, 10, none⟩) (by dsimp only; omega) (.int .i64 0)).far (p := ⟨gn, 11, none⟩) (by dsimp only; omega) (.int .i64 1)).far (p := ⟨gn, 12, none⟩) (by dsimp only; omega) (.int .i64 0)).far (p := ⟨gn, 13, none⟩) (by dsimp only; omega) (.int .i64 2)).far (p := ⟨gn, 14, none⟩) (by dsimp only; omega) (.int .i64 (-1))).far (p := ⟨gn, 15, none⟩) (by dsimp only; omega) (.int .i64 1))
      obtain ⟨Y4, hwz⟩ : ∃ q0, q0 = ((((((((Y3.setCell ⟨gn, 8, none⟩ (.int .i64 0)).setCell ⟨gn, 9, none⟩ (.int .i64 1)).setCell ⟨gn, 10, none⟩ (.int .i64 0)).setCell ⟨gn, 11, none⟩ (.int .i64 1)).setCell ⟨gn, 12, none⟩ (.int .i64 0)).setCell ⟨gn, 13, none⟩ (.int .i64 2)).setCell ⟨gn, 14, none⟩ (.int .i64 (-1))).setCell ⟨gn, 15, none⟩ (.int .i64 1)) := ⟨_, rfl⟩
      rw [← hwz] at kz bz k2z k7z k8z
      obtain ⟨c9, f9, l9⟩ := hn.rules
      refine hOne 11 fun K hK => ?_
      go_simp
      rw [← hwz]
      clear hwz c9 f9 l9 hn b hS k2 k7 k8
      have hn := kz
      have b := bz
      have k2 := k2z
      have k7 := k7z
      have k8 := k8z
      clear kz bz k2z k7z k8z
      have hS : (fun w' : World => (∀ j, w'.cell? ⟨w.heap.size, j, none⟩ = #[Value.slice (some ⟨gn, 0, none⟩) 2 c, .slice O 1 co][j]?) ∧ (∀ j, w'.cell? ⟨g7, j, none⟩ = #[Value.int .i64 0, .int .i64 0, .int .i64 0, .int .i64 0, .int .i64 0, .int .i64 0, .int .i64 0, .int .i64 0][j]?) ∧ (∀ j, w'.cell? ⟨g8, j, none⟩ = #[Value.int .i64 0, .int .i64 1, .int .i64 0, .int .i64 1, .int .i64 0, .int .i64 2, .int .i64 (-1), .int .i64 1][j]?)) Y4 := ⟨k2.cell, k7.cell, k8.cell⟩
      refine hK _ _ hS ?_
      clear hK K
      try simp only [Act.put, sA, sZ, sS]
      refine wpAnyH_done (by kernel_rfl) (noPanic_normal ?_) _
      clear hS
      try clear hSb
      go_wp2
      exact bodyPost_ret (v := .bool false) (by simp [results, Tryz.results127, go_sem]) rfl ⟨rfl, ⟨tl, hn⟩, b⟩
end Go.Proofs.YtcmbmmpihiekhaaGreat
