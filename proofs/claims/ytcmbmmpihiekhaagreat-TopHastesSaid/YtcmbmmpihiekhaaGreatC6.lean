/-
  Courses, walks: Join; the region that is swept, at the example.
-/
import Derived.Test.YtcmbmmpihiekhaaGreatC5
import Derived.Test.YtcmbmmpihiekhaaGreatTN
import Derived.Deep.Cut
set_option maxRecDepth 100000
set_option maxHeartbeats 16000000
set_option linter.unusedSimpArgs false
set_option linter.unusedVariables false
namespace Go.Proofs.YtcmbmmpihiekhaaGreat
open Go.RowKit Go.Shelf
attribute [local go_sem] Oper.semAt_some
theorem Join_any (a b R : Reg) (w : World) (ha : okReg a = true) (hb0 : okReg b = true) (hh : hullL (ptsL a ++ ptsL b) = some R) :
    Calls Tryz.prog 195 #[.agg (regA a), .agg (regA b)] w fun e w' => e = .returned (.tuple #[.agg (regA R), .int .i64 0]) ∧ Below w.heap.size w w' := by
  have hc1 := fun W => rCheck_any a W
  have hc2 := fun W => rCheck_any b W
  have e1 : chkReg a = 0 := by simp [chkReg, ha]
  have e2 : chkReg b = 0 := by simp [chkReg, hb0]
  simp only [e1] at hc1
  simp only [e2] at hc2
  have hr1 := fun W => rbounds_any a W
  have hr2 := fun W => rbounds_any b W
  have hn1 := fun W => ends_any a W
  have hn2 := fun W => ends_any b W
  have hhul := fun c g1 g2 g W h1 h2 h3 h4 => hull2_any a b c g1 g2 g W ha hb0 h1 h2 h3 h4
  rw [hh] at hhul
  unfold FourL at hhul
  simp only [optR, Option.getD_some, Option.isSome_some] at hhul
  have hfi := fun g W h => firstE_any (some ⟨g, 0, none⟩) 2 2 0 [0, 0] W h
  have e3 : firstE [0, 0] = 0 := rfl
  simp only [e3] at hfi
  simp only [regA] at hc1 hc2 hr1 hr2 hn1 hn2 hhul ⊢
  clear e1 e2 e3 ha hb0 hh
  obtain ⟨w1, hw1⟩ : ∃ w1, w1 = ((w.alloc (.cells #[Value.int .i64 a.x.lo, .int .i64 a.x.hi, .int .i64 a.y.lo, .int .i64 a.y.hi, .int .i64 a.s.lo, .int .i64 a.s.hi, .int .i64 a.d.lo, .int .i64 a.d.hi] 68)).alloc (.cells #[Value.int .i64 b.x.lo, .int .i64 b.x.hi, .int .i64 b.y.lo, .int .i64 b.y.hi, .int .i64 b.s.lo, .int .i64 b.s.hi, .int .i64 b.d.lo, .int .i64 b.d.hi] 68)).alloc (.cells #[.int .i64 0, .int .i64 0, .int .i64 0, .int .i64 0, .int .i64 0, .int .i64 0, .int .i64 0, .int .i64 0] 68) := ⟨_, rfl⟩
  have k2 : Blk w1 w.heap.size 68 #[Value.int .i64 a.x.lo, .int .i64 a.x.hi, .int .i64 a.y.lo, .int .i64 a.y.hi, .int .i64 a.s.lo, .int .i64 a.s.hi, .int .i64 a.d.lo, .int .i64 a.d.hi] := by rw [hw1]; exact ((Blk.new _ _ _).alloc _).alloc _
  have k3 : Blk w1 (w.heap.size + 1) 68 #[Value.int .i64 b.x.lo, .int .i64 b.x.hi, .int .i64 b.y.lo, .int .i64 b.y.hi, .int .i64 b.s.lo, .int .i64 b.s.hi, .int .i64 b.d.lo, .int .i64 b.d.hi] := by rw [hw1]; exact (Blk.newAt (by simp)).alloc _
  have k4 : Blk w1 (w.heap.size + 1 + 1) 68 #[.int .i64 0, .int .i64 0, .int .i64 0, .int .i64 0, .int .i64 0, .int .i64 0, .int .i64 0, .int .i64 0] := by rw [hw1]; exact Blk.newAt (by simp)
  have hb : Below w.heap.size w w1 := by rw [hw1]; exact (((Below.refl _ _).alloc (Nat.le_refl _) _).alloc (by simp) _).alloc (by simp; omega) _
  have hs1 : w.heap.size + 3 ≤ w1.heap.size := by rw [hw1]; simp
  go_enter Tryz.func195, Tryz.ntmps195
  go_wp2_with fail
  rw [← hw1]
  clear hw1
  refine hOpn (fun w' : World => (∀ j, w'.cell? ⟨w.heap.size, j, none⟩ = #[Value.int .i64 a.x.lo, .int .i64 a.x.hi, .int .i64 a.y.lo, .int .i64 a.y.hi, .int .i64 a.s.lo, .int .i64 a.s.hi, .int .i64 a.d.lo, .int .i64 a.d.hi][j]?) ∧ (∀ j, w'.cell? ⟨w.heap.size + 1, j, none⟩ = #[Value.int .i64 b.x.lo, .int .i64 b.x.hi, .int .i64 b.y.lo, .int .i64 b.y.hi, .int .i64 b.s.lo, .int .i64 b.s.hi, .int .i64 b.d.lo, .int .i64 b.d.hi][j]?)) (fun W' hbb => ⟨(k2.below hbb).cell, (k3.below hbb).cell⟩) fun hSb hb9 hS hg9 => ?_
  generalize w1.drew = wd at *
  refine hTk 0 9 ?_
  refine hTk 2 11 ?_
  refine hOne 1 fun K hK => ?_
  go_simp
  refine (hc1 _).mono ?_
  rintro e X1 ⟨rfl, hbel⟩
  replace hb9 := hb9.trans (hbel.mono hb9.size)
  clear hbel
  refine hK _ _ (hSb.out _ hb9) ?_
  clear hK K
  try simp only [Act.put, sA, sZ, sS]
  clear hS
  have hS := hSb.out _ hb9
  refine hOne 3 fun K hK => ?_
  go_simp
  refine (hc2 _).mono ?_
  rintro e X2 ⟨rfl, hbel⟩
  replace hb9 := hb9.trans (hbel.mono hb9.size)
  clear hbel
  refine hK _ _ (hSb.out _ hb9) ?_
  clear hK K
  try simp only [Act.put, sA, sZ, sS]
  clear hS
  have hS := hSb.out _ hb9
  have kl := Blk.new X2 36 #[.int .i64 0, .int .i64 0]
  refine hOne 4 fun K hK => ?_
  go_simp
  replace hb9 := hb9.alloc hb9.size (.cells #[.int .i64 0, .int .i64 0] 36)
  refine hK _ _ (hSb.out _ hb9) ?_
  clear hK K
  try simp only [Act.put, sA, sZ, sS]
  clear hS
  have hS := hSb.out _ hb9
  generalize X2.alloc (.cells #[.int .i64 0, .int .i64 0] 36) = X3 at *
  generalize X2.heap.size = gl at *
  have hsl := SlAt.two kl
  refine hOne 5 fun K hK => ?_
  go_simp
  refine (hfi _ _ hsl).mono ?_
  rintro e w' ⟨rfl, rfl⟩
  refine hK _ _ (hSb.out _ hb9) ?_
  clear hK K
  try simp only [Act.put, sA, sZ, sS]
  clear hS
  have hS := hSb.out _ hb9
  clear hsl kl
  refine hTk 6 6 ?_
  refine wpAnyH_done (by kernel_rfl) (noPanic_normal ?_) _
  clear hS hSb hfi hc1 hc2
  replace k2 := k2.below hb9
  replace k3 := k3.below hb9
  replace k4 := k4.below hb9
  replace hb := hb.trans (hb9.mono hb.size)
  replace hs1 := Nat.le_trans hs1 hb9.size
  clear hb9 hg9
  go_wp2_with fail
  refine hOpn (fun w' : World => (∀ j, w'.cell? ⟨w.heap.size, j, none⟩ = #[Value.int .i64 a.x.lo, .int .i64 a.x.hi, .int .i64 a.y.lo, .int .i64 a.y.hi, .int .i64 a.s.lo, .int .i64 a.s.hi, .int .i64 a.d.lo, .int .i64 a.d.hi][j]?) ∧ (∀ j, w'.cell? ⟨w.heap.size + 1, j, none⟩ = #[Value.int .i64 b.x.lo, .int .i64 b.x.hi, .int .i64 b.y.lo, .int .i64 b.y.hi, .int .i64 b.s.lo, .int .i64 b.s.hi, .int .i64 b.d.lo, .int .i64 b.d.hi][j]?)) (fun W' hbb => ⟨(k2.below hbb).cell, (k3.below hbb).cell⟩) fun hSb hb9 hS hg9 => ?_
  generalize X3.drew = we at *
  refine hTk 0 20 ?_
  refine hTk 3 23 ?_
  clear hS
  refine wpAnyH_fin (f := fun A (q : Nat × Nat × Nat × Nat) => (((((((((((A.put (some 21) (.agg #[Value.int .i64 a.x.lo, .int .i64 a.x.hi, .int .i64 a.y.lo, .int .i64 a.y.hi, .int .i64 a.s.lo, .int .i64 a.s.hi, .int .i64 a.d.lo, .int .i64 a.d.hi])).put (some 22) (.func (.func 130) #[] #[.pointer (some ⟨q.1, 0, none⟩)])).put (some 24) (.agg #[Value.int .i64 b.x.lo, .int .i64 b.x.hi, .int .i64 b.y.lo, .int .i64 b.y.hi, .int .i64 b.s.lo, .int .i64 b.s.hi, .int .i64 b.d.lo, .int .i64 b.d.hi])).put (some 25) (.func (.func 130) #[] #[.pointer (some ⟨q.2.1, 0, none⟩)])).put (some 26) (.slice (some ⟨q.2.2.1, 0, none⟩) 2 2)).put (some 27) (.tuple #[.agg #[Value.int .i64 R.x.lo, .int .i64 R.x.hi, .int .i64 R.y.lo, .int .i64 R.y.hi, .int .i64 R.s.lo, .int .i64 R.s.hi, .int .i64 R.d.lo, .int .i64 R.d.hi], .bool true])).put (some 19) (.tuple #[.agg #[Value.int .i64 R.x.lo, .int .i64 R.x.hi, .int .i64 R.y.lo, .int .i64 R.y.hi, .int .i64 R.s.lo, .int .i64 R.s.hi, .int .i64 R.d.lo, .int .i64 R.d.hi], .bool true])).put (some 28) (.agg #[Value.int .i64 R.x.lo, .int .i64 R.x.hi, .int .i64 R.y.lo, .int .i64 R.y.hi, .int .i64 R.s.lo, .int .i64 R.s.hi, .int .i64 R.d.lo, .int .i64 R.d.hi])).put (some 29) (.bool true)).put (some 7) (.pointer (some ⟨q.2.2.2, 0, none⟩))).put (some 8) (.bool true))) (B := fun q W' => Blk W' q.2.2.2 173 #[Value.int .i64 R.x.lo, .int .i64 R.x.hi, .int .i64 R.y.lo, .int .i64 R.y.hi, .int .i64 R.s.lo, .int .i64 R.s.hi, .int .i64 R.d.lo, .int .i64 R.d.hi] ∧ X3.heap.size ≤ q.2.2.2 ∧ Below X3.heap.size X3 W') ?_ (fun hrest => ?_)
  rotate_left 1
  · try simp only [Act.put, sA, sZ, sS] at hrest
    refine held_two (i := 1) (j := 11) (by kernel_rfl) rfl rfl rfl rfl (fun K hK => ?_) (fun K hK => ?_)
    · skip
      go_simp
      refine (hr1 _).mono ?_
      rintro e X1 ⟨rfl, hbel⟩
      try replace kf1 := kf1.below hbel
      try replace kf2 := kf2.below hbel
      try replace ks := ks.below hbel
      try replace k7 := k7.below hbel
      replace hb9 := hb9.trans (hbel.mono hb9.size)
      refine hK _ _ (hSb.out _ hb9) ?_
      clear hK K hbel
      try simp only [Act.put, sA, sZ, sS]
      refine held_two (i := 2) (j := 11) (by kernel_rfl) rfl rfl rfl rfl (fun K hK => ?_) (fun K hK => ?_)
      · skip
        go_simp
        refine (hn1 _).mono ?_
        rintro e X2 ⟨rfl, hwe⟩
        have kf1 : Blk X2 X1.heap.size 173 (#[Value.int .i64 a.x.lo, .int .i64 a.x.hi, .int .i64 a.y.lo, .int .i64 a.y.hi, .int .i64 a.s.lo, .int .i64 a.s.hi, .int .i64 a.d.lo, .int .i64 a.d.hi]) := by rw [hwe]; exact Blk.new _ _ _
        have hbel : Below X1.heap.size X1 X2 := by rw [hwe]; exact (Below.refl _ _).alloc (Nat.le_refl _) _
        clear hwe
        have gf1w := hb9.size
        generalize X1.heap.size = gf1 at kf1 gf1w ⊢
        replace hbel : Below X1.heap.size X1 X2 := hbel
        try replace kf2 := kf2.below hbel
        try replace ks := ks.below hbel
        try replace k7 := k7.below hbel
        replace hb9 := hb9.trans (hbel.mono hb9.size)
        refine hK _ _ (hSb.out _ hb9) ?_
        clear hK K hbel
        try simp only [Act.put, sA, sZ, sS]
        refine held_two (i := 4) (j := 11) (by kernel_rfl) rfl rfl rfl rfl (fun K hK => ?_) (fun K hK => ?_)
        · skip
          go_simp
          refine (hr2 _).mono ?_
          rintro e X3 ⟨rfl, hbel⟩
          try replace kf1 := kf1.below hbel
          try replace kf2 := kf2.below hbel
          try replace ks := ks.below hbel
          try replace k7 := k7.below hbel
          replace hb9 := hb9.trans (hbel.mono hb9.size)
          refine hK _ _ (hSb.out _ hb9) ?_
          clear hK K hbel
          try simp only [Act.put, sA, sZ, sS]
          refine held_two (i := 5) (j := 11) (by kernel_rfl) rfl rfl rfl rfl (fun K hK => ?_) (fun K hK => ?_)
          · skip
            go_simp
            refine (hn2 _).mono ?_
            rintro e X4 ⟨rfl, hwe⟩
            have kf2 : Blk X4 X3.heap.size 173 (#[Value.int .i64 b.x.lo, .int .i64 b.x.hi, .int .i64 b.y.lo, .int .i64 b.y.hi, .int .i64 b.s.lo, .int .i64 b.s.hi, .int .i64 b.d.lo, .int .i64 b.d.hi]) := by rw [hwe]; exact Blk.new _ _ _
            have hbel : Below X3.heap.size X3 X4 := by rw [hwe]; exact (Below.refl _ _).alloc (Nat.le_refl _) _
            clear hwe
            have gf2w := hb9.size
            generalize X3.heap.size = gf2 at kf2 gf2w ⊢
            replace hbel : Below X3.heap.size X3 X4 := hbel
            try replace kf1 := kf1.below hbel
            try replace ks := ks.below hbel
            try replace k7 := k7.below hbel
            replace hb9 := hb9.trans (hbel.mono hb9.size)
            refine hK _ _ (hSb.out _ hb9) ?_
            clear hK K hbel
            try simp only [Act.put, sA, sZ, sS]
            refine held_two (i := 6) (j := 11) (by kernel_rfl) rfl rfl rfl rfl (fun K hK => ?_) (fun K hK => ?_)
            · skip
              go_simp
              have ks := Blk.new X4 188 #[Value.func (.func 130) #[] #[.pointer (some ⟨gf1, 0, none⟩)], .func (.func 130) #[] #[.pointer (some ⟨gf2, 0, none⟩)]]
              have hbel : Below X4.heap.size X4 (X4.alloc (.cells #[Value.func (.func 130) #[] #[.pointer (some ⟨gf1, 0, none⟩)], .func (.func 130) #[] #[.pointer (some ⟨gf2, 0, none⟩)]] 188)) := (Below.refl _ _).alloc (Nat.le_refl _) _
              have gsw := hb9.size
              generalize X4.alloc (.cells #[Value.func (.func 130) #[] #[.pointer (some ⟨gf1, 0, none⟩)], .func (.func 130) #[] #[.pointer (some ⟨gf2, 0, none⟩)]] 188) = X5 at *
              generalize X4.heap.size = gs at ks gsw ⊢
              try replace kf1 := kf1.below hbel
              try replace kf2 := kf2.below hbel
              try replace k7 := k7.below hbel
              replace hb9 := hb9.trans (hbel.mono hb9.size)
              refine hK _ _ (hSb.out _ hb9) ?_
              clear hK K hbel
              try simp only [Act.put, sA, sZ, sS]
              refine held_two (i := 7) (j := 11) (by kernel_rfl) rfl rfl rfl rfl (fun K hK => ?_) (fun K hK => ?_)
              · skip
                go_simp
                refine (hhul 2 gf1 gf2 gs _ (ks.cell 0) (ks.cell 1) kf1 kf2).mono ?_
                rintro e X6 ⟨rfl, hbel⟩
                try replace kf1 := kf1.below hbel
                try replace kf2 := kf2.below hbel
                try replace ks := ks.below hbel
                try replace k7 := k7.below hbel
                replace hb9 := hb9.trans (hbel.mono hb9.size)
                refine hK _ _ (hSb.out _ hb9) ?_
                clear hK K hbel
                try simp only [Act.put, sA, sZ, sS]
                have hS := hSb.out _ hb9
                refine hTk 8 19 ?_
                refine hTk 9 28 ?_
                refine hTk 10 29 ?_
                clear hS
                refine hOne 11 fun K hK => ?_
                go_simp
                have k7 := Blk.new X6 173 #[Value.int .i64 0, .int .i64 0, .int .i64 0, .int .i64 0, .int .i64 0, .int .i64 0, .int .i64 0, .int .i64 0]
                have hbel : Below X6.heap.size X6 (X6.alloc (.cells #[Value.int .i64 0, .int .i64 0, .int .i64 0, .int .i64 0, .int .i64 0, .int .i64 0, .int .i64 0, .int .i64 0] 173)) := (Below.refl _ _).alloc (Nat.le_refl _) _
                have g7w := hb9.size
                generalize X6.alloc (.cells #[Value.int .i64 0, .int .i64 0, .int .i64 0, .int .i64 0, .int .i64 0, .int .i64 0, .int .i64 0, .int .i64 0] 173) = X7 at *
                generalize X6.heap.size = g7 at k7 g7w ⊢
                try replace kf1 := kf1.below hbel
                try replace kf2 := kf2.below hbel
                try replace ks := ks.below hbel
                replace hb9 := hb9.trans (hbel.mono hb9.size)
                refine hK _ _ (hSb.out _ hb9) ?_
                clear hK K hbel
                try simp only [Act.put, sA, sZ, sS]
                refine hOne 12 fun K hK => ?_
                have kz := k7.set8 (.int .i64 R.x.lo) (.int .i64 R.x.hi) (.int .i64 R.y.lo) (.int .i64 R.y.hi) (.int .i64 R.s.lo) (.int .i64 R.s.hi) (.int .i64 R.d.lo) (.int .i64 R.d.hi)
                have bz := below_set8 (g := g7) hb9 g7w (.int .i64 R.x.lo) (.int .i64 R.x.hi) (.int .i64 R.y.lo) (.int .i64 R.y.hi) (.int .i64 R.s.lo) (.int .i64 R.s.hi) (.int .i64 R.d.lo) (.int .i64 R.d.hi)
                obtain ⟨X8, hwz⟩ : ∃ x, x = set8 X7 g7 (.int .i64 R.x.lo) (.int .i64 R.x.hi) (.int .i64 R.y.lo) (.int .i64 R.y.hi) (.int .i64 R.s.lo) (.int .i64 R.s.hi) (.int .i64 R.d.lo) (.int .i64 R.d.hi) := ⟨_, rfl⟩
                rw [← hwz] at kz bz
                simp only [set8] at hwz
                obtain ⟨c9, f9, l9⟩ := k7.rules
                go_simp
                rw [← hwz]
                clear hwz c9 f9 l9
                refine hK _ _ (hSb.out _ bz) ?_
                clear hK K
                try simp only [Act.put, sA, sZ, sS]
                have hS := hSb.out _ bz
                refine hTk 13 8 ?_
                refine wpAnyH_done (by kernel_rfl) (hrest (gf1, gf2, gs, g7) _ ⟨kz, g7w, bz⟩) _
              · skip
                go_simp
                have k7 := Blk.new X5 173 #[Value.int .i64 0, .int .i64 0, .int .i64 0, .int .i64 0, .int .i64 0, .int .i64 0, .int .i64 0, .int .i64 0]
                have hbel : Below X5.heap.size X5 (X5.alloc (.cells #[Value.int .i64 0, .int .i64 0, .int .i64 0, .int .i64 0, .int .i64 0, .int .i64 0, .int .i64 0, .int .i64 0] 173)) := (Below.refl _ _).alloc (Nat.le_refl _) _
                have g7w := hb9.size
                generalize X5.alloc (.cells #[Value.int .i64 0, .int .i64 0, .int .i64 0, .int .i64 0, .int .i64 0, .int .i64 0, .int .i64 0, .int .i64 0] 173) = X9 at *
                generalize X5.heap.size = g7 at k7 g7w ⊢
                try replace kf1 := kf1.below hbel
                try replace kf2 := kf2.below hbel
                try replace ks := ks.below hbel
                replace hb9 := hb9.trans (hbel.mono hb9.size)
                refine hK _ _ (hSb.out _ hb9) ?_
                clear hK K hbel
                try simp only [Act.put, sA, sZ, sS]
                refine hOne 7 fun K hK => ?_
                go_simp
                refine (hhul 2 gf1 gf2 gs _ (ks.cell 0) (ks.cell 1) kf1 kf2).mono ?_
                rintro e X10 ⟨rfl, hbel⟩
                try replace kf1 := kf1.below hbel
                try replace kf2 := kf2.below hbel
                try replace ks := ks.below hbel
                try replace k7 := k7.below hbel
                replace hb9 := hb9.trans (hbel.mono hb9.size)
                refine hK _ _ (hSb.out _ hb9) ?_
                clear hK K hbel
                try simp only [Act.put, sA, sZ, sS]
                have hS := hSb.out _ hb9
                refine hTk 8 19 ?_
                refine hTk 9 28 ?_
                refine hTk 10 29 ?_
                clear hS
                refine hOne 12 fun K hK => ?_
                have kz := k7.set8 (.int .i64 R.x.lo) (.int .i64 R.x.hi) (.int .i64 R.y.lo) (.int .i64 R.y.hi) (.int .i64 R.s.lo) (.int .i64 R.s.hi) (.int .i64 R.d.lo) (.int .i64 R.d.hi)
                have bz := below_set8 (g := g7) hb9 g7w (.int .i64 R.x.lo) (.int .i64 R.x.hi) (.int .i64 R.y.lo) (.int .i64 R.y.hi) (.int .i64 R.s.lo) (.int .i64 R.s.hi) (.int .i64 R.d.lo) (.int .i64 R.d.hi)
                obtain ⟨X11, hwz⟩ : ∃ x, x = set8 X10 g7 (.int .i64 R.x.lo) (.int .i64 R.x.hi) (.int .i64 R.y.lo) (.int .i64 R.y.hi) (.int .i64 R.s.lo) (.int .i64 R.s.hi) (.int .i64 R.d.lo) (.int .i64 R.d.hi) := ⟨_, rfl⟩
                rw [← hwz] at kz bz
                simp only [set8] at hwz
                obtain ⟨c9, f9, l9⟩ := k7.rules
                go_simp
                rw [← hwz]
                clear hwz c9 f9 l9
                refine hK _ _ (hSb.out _ bz) ?_
                clear hK K
                try simp only [Act.put, sA, sZ, sS]
                have hS := hSb.out _ bz
                refine hTk 13 8 ?_
                refine wpAnyH_done (by kernel_rfl) (hrest (gf1, gf2, gs, g7) _ ⟨kz, g7w, bz⟩) _
            · skip
              go_simp
              have k7 := Blk.new X4 173 #[Value.int .i64 0, .int .i64 0, .int .i64 0, .int .i64 0, .int .i64 0, .int .i64 0, .int .i64 0, .int .i64 0]
              have hbel : Below X4.heap.size X4 (X4.alloc (.cells #[Value.int .i64 0, .int .i64 0, .int .i64 0, .int .i64 0, .int .i64 0, .int .i64 0, .int .i64 0, .int .i64 0] 173)) := (Below.refl _ _).alloc (Nat.le_refl _) _
              have g7w := hb9.size
              generalize X4.alloc (.cells #[Value.int .i64 0, .int .i64 0, .int .i64 0, .int .i64 0, .int .i64 0, .int .i64 0, .int .i64 0, .int .i64 0] 173) = X12 at *
              generalize X4.heap.size = g7 at k7 g7w ⊢
              try replace kf1 := kf1.below hbel
              try replace kf2 := kf2.below hbel
              try replace ks := ks.below hbel
              replace hb9 := hb9.trans (hbel.mono hb9.size)
              refine hK _ _ (hSb.out _ hb9) ?_
              clear hK K hbel
              try simp only [Act.put, sA, sZ, sS]
              refine hOne 6 fun K hK => ?_
              go_simp
              have ks := Blk.new X12 188 #[Value.func (.func 130) #[] #[.pointer (some ⟨gf1, 0, none⟩)], .func (.func 130) #[] #[.pointer (some ⟨gf2, 0, none⟩)]]
              have hbel : Below X12.heap.size X12 (X12.alloc (.cells #[Value.func (.func 130) #[] #[.pointer (some ⟨gf1, 0, none⟩)], .func (.func 130) #[] #[.pointer (some ⟨gf2, 0, none⟩)]] 188)) := (Below.refl _ _).alloc (Nat.le_refl _) _
              have gsw := hb9.size
              generalize X12.alloc (.cells #[Value.func (.func 130) #[] #[.pointer (some ⟨gf1, 0, none⟩)], .func (.func 130) #[] #[.pointer (some ⟨gf2, 0, none⟩)]] 188) = X13 at *
              generalize X12.heap.size = gs at ks gsw ⊢
              try replace kf1 := kf1.below hbel
              try replace kf2 := kf2.below hbel
              try replace k7 := k7.below hbel
              replace hb9 := hb9.trans (hbel.mono hb9.size)
              refine hK _ _ (hSb.out _ hb9) ?_
              clear hK K hbel
              try simp only [Act.put, sA, sZ, sS]
              refine hOne 7 fun K hK => ?_
              go_simp
              refine (hhul 2 gf1 gf2 gs _ (ks.cell 0) (ks.cell 1) kf1 kf2).mono ?_
              rintro e X14 ⟨rfl, hbel⟩
              try replace kf1 := kf1.below hbel
              try replace kf2 := kf2.below hbel
              try replace ks := ks.below hbel
              try replace k7 := k7.below hbel
              replace hb9 := hb9.trans (hbel.mono hb9.size)
              refine hK _ _ (hSb.out _ hb9) ?_
              clear hK K hbel
              try simp only [Act.put, sA, sZ, sS]
              have hS := hSb.out _ hb9
              refine hTk 8 19 ?_
              refine hTk 9 28 ?_
              refine hTk 10 29 ?_
              clear hS
              refine hOne 12 fun K hK => ?_
              have kz := k7.set8 (.int .i64 R.x.lo) (.int .i64 R.x.hi) (.int .i64 R.y.lo) (.int .i64 R.y.hi) (.int .i64 R.s.lo) (.int .i64 R.s.hi) (.int .i64 R.d.lo) (.int .i64 R.d.hi)
              have bz := below_set8 (g := g7) hb9 g7w (.int .i64 R.x.lo) (.int .i64 R.x.hi) (.int .i64 R.y.lo) (.int .i64 R.y.hi) (.int .i64 R.s.lo) (.int .i64 R.s.hi) (.int .i64 R.d.lo) (.int .i64 R.d.hi)
              obtain ⟨X15, hwz⟩ : ∃ x, x = set8 X14 g7 (.int .i64 R.x.lo) (.int .i64 R.x.hi) (.int .i64 R.y.lo) (.int .i64 R.y.hi) (.int .i64 R.s.lo) (.int .i64 R.s.hi) (.int .i64 R.d.lo) (.int .i64 R.d.hi) := ⟨_, rfl⟩
              rw [← hwz] at kz bz
              simp only [set8] at hwz
              obtain ⟨c9, f9, l9⟩ := k7.rules
              go_simp
              rw [← hwz]
              clear hwz c9 f9 l9
              refine hK _ _ (hSb.out _ bz) ?_
              clear hK K
              try simp only [Act.put, sA, sZ, sS]
              have hS := hSb.out _ bz
              refine hTk 13 8 ?_
              refine wpAnyH_done (by kernel_rfl) (hrest (gf1, gf2, gs, g7) _ ⟨kz, g7w, bz⟩) _
          · skip
            go_simp
            have k7 := Blk.new X3 173 #[Value.int .i64 0, .int .i64 0, .int .i64 0, .int .i64 0, .int .i64 0, .int .i64 0, .int .i64 0, .int .i64 0]
            have hbel : Below X3.heap.size X3 (X3.alloc (.cells #[Value.int .i64 0, .int .i64 0, .int .i64 0, .int .i64 0, .int .i64 0, .int .i64 0, .int .i64 0, .int .i64 0] 173)) := (Below.refl _ _).alloc (Nat.le_refl _) _
            have g7w := hb9.size
            generalize X3.alloc (.cells #[Value.int .i64 0, .int .i64 0, .int .i64 0, .int .i64 0, .int .i64 0, .int .i64 0, .int .i64 0, .int .i64 0] 173) = X16 at *
            generalize X3.heap.size = g7 at k7 g7w ⊢
            try replace kf1 := kf1.below hbel
            try replace kf2 := kf2.below hbel
            try replace ks := ks.below hbel
            replace hb9 := hb9.trans (hbel.mono hb9.size)
            refine hK _ _ (hSb.out _ hb9) ?_
            clear hK K hbel
            try simp only [Act.put, sA, sZ, sS]
            refine hOne 5 fun K hK => ?_
            go_simp
            refine (hn2 _).mono ?_
            rintro e X17 ⟨rfl, hwe⟩
            have kf2 : Blk X17 X16.heap.size 173 (#[Value.int .i64 b.x.lo, .int .i64 b.x.hi, .int .i64 b.y.lo, .int .i64 b.y.hi, .int .i64 b.s.lo, .int .i64 b.s.hi, .int .i64 b.d.lo, .int .i64 b.d.hi]) := by rw [hwe]; exact Blk.new _ _ _
            have hbel : Below X16.heap.size X16 X17 := by rw [hwe]; exact (Below.refl _ _).alloc (Nat.le_refl _) _
            clear hwe
            have gf2w := hb9.size
            generalize X16.heap.size = gf2 at kf2 gf2w ⊢
            replace hbel : Below X16.heap.size X16 X17 := hbel
            try replace kf1 := kf1.below hbel
            try replace ks := ks.below hbel
            try replace k7 := k7.below hbel
            replace hb9 := hb9.trans (hbel.mono hb9.size)
            refine hK _ _ (hSb.out _ hb9) ?_
            clear hK K hbel
            try simp only [Act.put, sA, sZ, sS]
            refine hOne 6 fun K hK => ?_
            go_simp
            have ks := Blk.new X17 188 #[Value.func (.func 130) #[] #[.pointer (some ⟨gf1, 0, none⟩)], .func (.func 130) #[] #[.pointer (some ⟨gf2, 0, none⟩)]]
            have hbel : Below X17.heap.size X17 (X17.alloc (.cells #[Value.func (.func 130) #[] #[.pointer (some ⟨gf1, 0, none⟩)], .func (.func 130) #[] #[.pointer (some ⟨gf2, 0, none⟩)]] 188)) := (Below.refl _ _).alloc (Nat.le_refl _) _
            have gsw := hb9.size
            generalize X17.alloc (.cells #[Value.func (.func 130) #[] #[.pointer (some ⟨gf1, 0, none⟩)], .func (.func 130) #[] #[.pointer (some ⟨gf2, 0, none⟩)]] 188) = X18 at *
            generalize X17.heap.size = gs at ks gsw ⊢
            try replace kf1 := kf1.below hbel
            try replace kf2 := kf2.below hbel
            try replace k7 := k7.below hbel
            replace hb9 := hb9.trans (hbel.mono hb9.size)
            refine hK _ _ (hSb.out _ hb9) ?_
            clear hK K hbel
            try simp only [Act.put, sA, sZ, sS]
            refine hOne 7 fun K hK => ?_
            go_simp
            refine (hhul 2 gf1 gf2 gs _ (ks.cell 0) (ks.cell 1) kf1 kf2).mono ?_
            rintro e X19 ⟨rfl, hbel⟩
            try replace kf1 := kf1.below hbel
            try replace kf2 := kf2.below hbel
            try replace ks := ks.below hbel
            try replace k7 := k7.below hbel
            replace hb9 := hb9.trans (hbel.mono hb9.size)
            refine hK _ _ (hSb.out _ hb9) ?_
            clear hK K hbel
            try simp only [Act.put, sA, sZ, sS]
            have hS := hSb.out _ hb9
            refine hTk 8 19 ?_
            refine hTk 9 28 ?_
            refine hTk 10 29 ?_
            clear hS
            refine hOne 12 fun K hK => ?_
            have kz := k7.set8 (.int .i64 R.x.lo) (.int .i64 R.x.hi) (.int .i64 R.y.lo) (.int .i64 R.y.hi) (.int .i64 R.s.lo) (.int .i64 R.s.hi) (.int .i64 R.d.lo) (.int .i64 R.d.hi)
            have bz := below_set8 (g := g7) hb9 g7w (.int .i64 R.x.lo) (.int .i64 R.x.hi) (.int .i64 R.y.lo) (.int .i64 R.y.hi) (.int .i64 R.s.lo) (.int .i64 R.s.hi) (.int .i64 R.d.lo) (.int .i64 R.d.hi)
            obtain ⟨X20, hwz⟩ : ∃ x, x = set8 X19 g7 (.int .i64 R.x.lo) (.int .i64 R.x.hi) (.int .i64 R.y.lo) (.int .i64 R.y.hi) (.int .i64 R.s.lo) (.int .i64 R.s.hi) (.int .i64 R.d.lo) (.int .i64 R.d.hi) := ⟨_, rfl⟩
            rw [← hwz] at kz bz
            simp only [set8] at hwz
            obtain ⟨c9, f9, l9⟩ := k7.rules
            go_simp
            rw [← hwz]
            clear hwz c9 f9 l9
            refine hK _ _ (hSb.out _ bz) ?_
            clear hK K
            try simp only [Act.put, sA, sZ, sS]
            have hS := hSb.out _ bz
            refine hTk 13 8 ?_
            refine wpAnyH_done (by kernel_rfl) (hrest (gf1, gf2, gs, g7) _ ⟨kz, g7w, bz⟩) _
        · skip
          go_simp
          have k7 := Blk.new X2 173 #[Value.int .i64 0, .int .i64 0, .int .i64 0, .int .i64 0, .int .i64 0, .int .i64 0, .int .i64 0, .int .i64 0]
          have hbel : Below X2.heap.size X2 (X2.alloc (.cells #[Value.int .i64 0, .int .i64 0, .int .i64 0, .int .i64 0, .int .i64 0, .int .i64 0, .int .i64 0, .int .i64 0] 173)) := (Below.refl _ _).alloc (Nat.le_refl _) _
          have g7w := hb9.size
          generalize X2.alloc (.cells #[Value.int .i64 0, .int .i64 0, .int .i64 0, .int .i64 0, .int .i64 0, .int .i64 0, .int .i64 0, .int .i64 0] 173) = X21 at *
          generalize X2.heap.size = g7 at k7 g7w ⊢
          try replace kf1 := kf1.below hbel
          try replace kf2 := kf2.below hbel
          try replace ks := ks.below hbel
          replace hb9 := hb9.trans (hbel.mono hb9.size)
          refine hK _ _ (hSb.out _ hb9) ?_
          clear hK K hbel
          try simp only [Act.put, sA, sZ, sS]
          refine hOne 4 fun K hK => ?_
          go_simp
          refine (hr2 _).mono ?_
          rintro e X22 ⟨rfl, hbel⟩
          try replace kf1 := kf1.below hbel
          try replace kf2 := kf2.below hbel
          try replace ks := ks.below hbel
          try replace k7 := k7.below hbel
          replace hb9 := hb9.trans (hbel.mono hb9.size)
          refine hK _ _ (hSb.out _ hb9) ?_
          clear hK K hbel
          try simp only [Act.put, sA, sZ, sS]
          refine hOne 5 fun K hK => ?_
          go_simp
          refine (hn2 _).mono ?_
          rintro e X23 ⟨rfl, hwe⟩
          have kf2 : Blk X23 X22.heap.size 173 (#[Value.int .i64 b.x.lo, .int .i64 b.x.hi, .int .i64 b.y.lo, .int .i64 b.y.hi, .int .i64 b.s.lo, .int .i64 b.s.hi, .int .i64 b.d.lo, .int .i64 b.d.hi]) := by rw [hwe]; exact Blk.new _ _ _
          have hbel : Below X22.heap.size X22 X23 := by rw [hwe]; exact (Below.refl _ _).alloc (Nat.le_refl _) _
          clear hwe
          have gf2w := hb9.size
          generalize X22.heap.size = gf2 at kf2 gf2w ⊢
          replace hbel : Below X22.heap.size X22 X23 := hbel
          try replace kf1 := kf1.below hbel
          try replace ks := ks.below hbel
          try replace k7 := k7.below hbel
          replace hb9 := hb9.trans (hbel.mono hb9.size)
          refine hK _ _ (hSb.out _ hb9) ?_
          clear hK K hbel
          try simp only [Act.put, sA, sZ, sS]
          refine hOne 6 fun K hK => ?_
          go_simp
          have ks := Blk.new X23 188 #[Value.func (.func 130) #[] #[.pointer (some ⟨gf1, 0, none⟩)], .func (.func 130) #[] #[.pointer (some ⟨gf2, 0, none⟩)]]
          have hbel : Below X23.heap.size X23 (X23.alloc (.cells #[Value.func (.func 130) #[] #[.pointer (some ⟨gf1, 0, none⟩)], .func (.func 130) #[] #[.pointer (some ⟨gf2, 0, none⟩)]] 188)) := (Below.refl _ _).alloc (Nat.le_refl _) _
          have gsw := hb9.size
          generalize X23.alloc (.cells #[Value.func (.func 130) #[] #[.pointer (some ⟨gf1, 0, none⟩)], .func (.func 130) #[] #[.pointer (some ⟨gf2, 0, none⟩)]] 188) = X24 at *
          generalize X23.heap.size = gs at ks gsw ⊢
          try replace kf1 := kf1.below hbel
          try replace kf2 := kf2.below hbel
          try replace k7 := k7.below hbel
          replace hb9 := hb9.trans (hbel.mono hb9.size)
          refine hK _ _ (hSb.out _ hb9) ?_
          clear hK K hbel
          try simp only [Act.put, sA, sZ, sS]
          refine hOne 7 fun K hK => ?_
          go_simp
          refine (hhul 2 gf1 gf2 gs _ (ks.cell 0) (ks.cell 1) kf1 kf2).mono ?_
          rintro e X25 ⟨rfl, hbel⟩
          try replace kf1 := kf1.below hbel
          try replace kf2 := kf2.below hbel
          try replace ks := ks.below hbel
          try replace k7 := k7.below hbel
          replace hb9 := hb9.trans (hbel.mono hb9.size)
          refine hK _ _ (hSb.out _ hb9) ?_
          clear hK K hbel
          try simp only [Act.put, sA, sZ, sS]
          have hS := hSb.out _ hb9
          refine hTk 8 19 ?_
          refine hTk 9 28 ?_
          refine hTk 10 29 ?_
          clear hS
          refine hOne 12 fun K hK => ?_
          have kz := k7.set8 (.int .i64 R.x.lo) (.int .i64 R.x.hi) (.int .i64 R.y.lo) (.int .i64 R.y.hi) (.int .i64 R.s.lo) (.int .i64 R.s.hi) (.int .i64 R.d.lo) (.int .i64 R.d.hi)
          have bz := below_set8 (g := g7) hb9 g7w (.int .i64 R.x.lo) (.int .i64 R.x.hi) (.int .i64 R.y.lo) (.int .i64 R.y.hi) (.int .i64 R.s.lo) (.int .i64 R.s.hi) (.int .i64 R.d.lo) (.int .i64 R.d.hi)
          obtain ⟨X26, hwz⟩ : ∃ x, x = set8 X25 g7 (.int .i64 R.x.lo) (.int .i64 R.x.hi) (.int .i64 R.y.lo) (.int .i64 R.y.hi) (.int .i64 R.s.lo) (.int .i64 R.s.hi) (.int .i64 R.d.lo) (.int .i64 R.d.hi) := ⟨_, rfl⟩
          rw [← hwz] at kz bz
          simp only [set8] at hwz
          obtain ⟨c9, f9, l9⟩ := k7.rules
          go_simp
          rw [← hwz]
          clear hwz c9 f9 l9
          refine hK _ _ (hSb.out _ bz) ?_
          clear hK K
          try simp only [Act.put, sA, sZ, sS]
          have hS := hSb.out _ bz
          refine hTk 13 8 ?_
          refine wpAnyH_done (by kernel_rfl) (hrest (gf1, gf2, gs, g7) _ ⟨kz, g7w, bz⟩) _
      · skip
        go_simp
        have k7 := Blk.new X1 173 #[Value.int .i64 0, .int .i64 0, .int .i64 0, .int .i64 0, .int .i64 0, .int .i64 0, .int .i64 0, .int .i64 0]
        have hbel : Below X1.heap.size X1 (X1.alloc (.cells #[Value.int .i64 0, .int .i64 0, .int .i64 0, .int .i64 0, .int .i64 0, .int .i64 0, .int .i64 0, .int .i64 0] 173)) := (Below.refl _ _).alloc (Nat.le_refl _) _
        have g7w := hb9.size
        generalize X1.alloc (.cells #[Value.int .i64 0, .int .i64 0, .int .i64 0, .int .i64 0, .int .i64 0, .int .i64 0, .int .i64 0, .int .i64 0] 173) = X27 at *
        generalize X1.heap.size = g7 at k7 g7w ⊢
        try replace kf1 := kf1.below hbel
        try replace kf2 := kf2.below hbel
        try replace ks := ks.below hbel
        replace hb9 := hb9.trans (hbel.mono hb9.size)
        refine hK _ _ (hSb.out _ hb9) ?_
        clear hK K hbel
        try simp only [Act.put, sA, sZ, sS]
        refine hOne 2 fun K hK => ?_
        go_simp
        refine (hn1 _).mono ?_
        rintro e X28 ⟨rfl, hwe⟩
        have kf1 : Blk X28 X27.heap.size 173 (#[Value.int .i64 a.x.lo, .int .i64 a.x.hi, .int .i64 a.y.lo, .int .i64 a.y.hi, .int .i64 a.s.lo, .int .i64 a.s.hi, .int .i64 a.d.lo, .int .i64 a.d.hi]) := by rw [hwe]; exact Blk.new _ _ _
        have hbel : Below X27.heap.size X27 X28 := by rw [hwe]; exact (Below.refl _ _).alloc (Nat.le_refl _) _
        clear hwe
        have gf1w := hb9.size
        generalize X27.heap.size = gf1 at kf1 gf1w ⊢
        replace hbel : Below X27.heap.size X27 X28 := hbel
        try replace kf2 := kf2.below hbel
        try replace ks := ks.below hbel
        try replace k7 := k7.below hbel
        replace hb9 := hb9.trans (hbel.mono hb9.size)
        refine hK _ _ (hSb.out _ hb9) ?_
        clear hK K hbel
        try simp only [Act.put, sA, sZ, sS]
        refine hOne 4 fun K hK => ?_
        go_simp
        refine (hr2 _).mono ?_
        rintro e X29 ⟨rfl, hbel⟩
        try replace kf1 := kf1.below hbel
        try replace kf2 := kf2.below hbel
        try replace ks := ks.below hbel
        try replace k7 := k7.below hbel
        replace hb9 := hb9.trans (hbel.mono hb9.size)
        refine hK _ _ (hSb.out _ hb9) ?_
        clear hK K hbel
        try simp only [Act.put, sA, sZ, sS]
        refine hOne 5 fun K hK => ?_
        go_simp
        refine (hn2 _).mono ?_
        rintro e X30 ⟨rfl, hwe⟩
        have kf2 : Blk X30 X29.heap.size 173 (#[Value.int .i64 b.x.lo, .int .i64 b.x.hi, .int .i64 b.y.lo, .int .i64 b.y.hi, .int .i64 b.s.lo, .int .i64 b.s.hi, .int .i64 b.d.lo, .int .i64 b.d.hi]) := by rw [hwe]; exact Blk.new _ _ _
        have hbel : Below X29.heap.size X29 X30 := by rw [hwe]; exact (Below.refl _ _).alloc (Nat.le_refl _) _
        clear hwe
        have gf2w := hb9.size
        generalize X29.heap.size = gf2 at kf2 gf2w ⊢
        replace hbel : Below X29.heap.size X29 X30 := hbel
        try replace kf1 := kf1.below hbel
        try replace ks := ks.below hbel
        try replace k7 := k7.below hbel
        replace hb9 := hb9.trans (hbel.mono hb9.size)
        refine hK _ _ (hSb.out _ hb9) ?_
        clear hK K hbel
        try simp only [Act.put, sA, sZ, sS]
        refine hOne 6 fun K hK => ?_
        go_simp
        have ks := Blk.new X30 188 #[Value.func (.func 130) #[] #[.pointer (some ⟨gf1, 0, none⟩)], .func (.func 130) #[] #[.pointer (some ⟨gf2, 0, none⟩)]]
        have hbel : Below X30.heap.size X30 (X30.alloc (.cells #[Value.func (.func 130) #[] #[.pointer (some ⟨gf1, 0, none⟩)], .func (.func 130) #[] #[.pointer (some ⟨gf2, 0, none⟩)]] 188)) := (Below.refl _ _).alloc (Nat.le_refl _) _
        have gsw := hb9.size
        generalize X30.alloc (.cells #[Value.func (.func 130) #[] #[.pointer (some ⟨gf1, 0, none⟩)], .func (.func 130) #[] #[.pointer (some ⟨gf2, 0, none⟩)]] 188) = X31 at *
        generalize X30.heap.size = gs at ks gsw ⊢
        try replace kf1 := kf1.below hbel
        try replace kf2 := kf2.below hbel
        try replace k7 := k7.below hbel
        replace hb9 := hb9.trans (hbel.mono hb9.size)
        refine hK _ _ (hSb.out _ hb9) ?_
        clear hK K hbel
        try simp only [Act.put, sA, sZ, sS]
        refine hOne 7 fun K hK => ?_
        go_simp
        refine (hhul 2 gf1 gf2 gs _ (ks.cell 0) (ks.cell 1) kf1 kf2).mono ?_
        rintro e X32 ⟨rfl, hbel⟩
        try replace kf1 := kf1.below hbel
        try replace kf2 := kf2.below hbel
        try replace ks := ks.below hbel
        try replace k7 := k7.below hbel
        replace hb9 := hb9.trans (hbel.mono hb9.size)
        refine hK _ _ (hSb.out _ hb9) ?_
        clear hK K hbel
        try simp only [Act.put, sA, sZ, sS]
        have hS := hSb.out _ hb9
        refine hTk 8 19 ?_
        refine hTk 9 28 ?_
        refine hTk 10 29 ?_
        clear hS
        refine hOne 12 fun K hK => ?_
        have kz := k7.set8 (.int .i64 R.x.lo) (.int .i64 R.x.hi) (.int .i64 R.y.lo) (.int .i64 R.y.hi) (.int .i64 R.s.lo) (.int .i64 R.s.hi) (.int .i64 R.d.lo) (.int .i64 R.d.hi)
        have bz := below_set8 (g := g7) hb9 g7w (.int .i64 R.x.lo) (.int .i64 R.x.hi) (.int .i64 R.y.lo) (.int .i64 R.y.hi) (.int .i64 R.s.lo) (.int .i64 R.s.hi) (.int .i64 R.d.lo) (.int .i64 R.d.hi)
        obtain ⟨X33, hwz⟩ : ∃ x, x = set8 X32 g7 (.int .i64 R.x.lo) (.int .i64 R.x.hi) (.int .i64 R.y.lo) (.int .i64 R.y.hi) (.int .i64 R.s.lo) (.int .i64 R.s.hi) (.int .i64 R.d.lo) (.int .i64 R.d.hi) := ⟨_, rfl⟩
        rw [← hwz] at kz bz
        simp only [set8] at hwz
        obtain ⟨c9, f9, l9⟩ := k7.rules
        go_simp
        rw [← hwz]
        clear hwz c9 f9 l9
        refine hK _ _ (hSb.out _ bz) ?_
        clear hK K
        try simp only [Act.put, sA, sZ, sS]
        have hS := hSb.out _ bz
        refine hTk 13 8 ?_
        refine wpAnyH_done (by kernel_rfl) (hrest (gf1, gf2, gs, g7) _ ⟨kz, g7w, bz⟩) _
    · skip
      go_simp
      have k7 := Blk.new we 173 #[Value.int .i64 0, .int .i64 0, .int .i64 0, .int .i64 0, .int .i64 0, .int .i64 0, .int .i64 0, .int .i64 0]
      have hbel : Below we.heap.size we (we.alloc (.cells #[Value.int .i64 0, .int .i64 0, .int .i64 0, .int .i64 0, .int .i64 0, .int .i64 0, .int .i64 0, .int .i64 0] 173)) := (Below.refl _ _).alloc (Nat.le_refl _) _
      have g7w := hb9.size
      generalize we.alloc (.cells #[Value.int .i64 0, .int .i64 0, .int .i64 0, .int .i64 0, .int .i64 0, .int .i64 0, .int .i64 0, .int .i64 0] 173) = X34 at *
      generalize we.heap.size = g7 at k7 g7w ⊢
      try replace kf1 := kf1.below hbel
      try replace kf2 := kf2.below hbel
      try replace ks := ks.below hbel
      replace hb9 := hb9.trans (hbel.mono hb9.size)
      refine hK _ _ (hSb.out _ hb9) ?_
      clear hK K hbel
      try simp only [Act.put, sA, sZ, sS]
      refine hOne 1 fun K hK => ?_
      go_simp
      refine (hr1 _).mono ?_
      rintro e X35 ⟨rfl, hbel⟩
      try replace kf1 := kf1.below hbel
      try replace kf2 := kf2.below hbel
      try replace ks := ks.below hbel
      try replace k7 := k7.below hbel
      replace hb9 := hb9.trans (hbel.mono hb9.size)
      refine hK _ _ (hSb.out _ hb9) ?_
      clear hK K hbel
      try simp only [Act.put, sA, sZ, sS]
      refine hOne 2 fun K hK => ?_
      go_simp
      refine (hn1 _).mono ?_
      rintro e X36 ⟨rfl, hwe⟩
      have kf1 : Blk X36 X35.heap.size 173 (#[Value.int .i64 a.x.lo, .int .i64 a.x.hi, .int .i64 a.y.lo, .int .i64 a.y.hi, .int .i64 a.s.lo, .int .i64 a.s.hi, .int .i64 a.d.lo, .int .i64 a.d.hi]) := by rw [hwe]; exact Blk.new _ _ _
      have hbel : Below X35.heap.size X35 X36 := by rw [hwe]; exact (Below.refl _ _).alloc (Nat.le_refl _) _
      clear hwe
      have gf1w := hb9.size
      generalize X35.heap.size = gf1 at kf1 gf1w ⊢
      replace hbel : Below X35.heap.size X35 X36 := hbel
      try replace kf2 := kf2.below hbel
      try replace ks := ks.below hbel
      try replace k7 := k7.below hbel
      replace hb9 := hb9.trans (hbel.mono hb9.size)
      refine hK _ _ (hSb.out _ hb9) ?_
      clear hK K hbel
      try simp only [Act.put, sA, sZ, sS]
      refine hOne 4 fun K hK => ?_
      go_simp
      refine (hr2 _).mono ?_
      rintro e X37 ⟨rfl, hbel⟩
      try replace kf1 := kf1.below hbel
      try replace kf2 := kf2.below hbel
      try replace ks := ks.below hbel
      try replace k7 := k7.below hbel
      replace hb9 := hb9.trans (hbel.mono hb9.size)
      refine hK _ _ (hSb.out _ hb9) ?_
      clear hK K hbel
      try simp only [Act.put, sA, sZ, sS]
      refine hOne 5 fun K hK => ?_
      go_simp
      refine (hn2 _).mono ?_
      rintro e X38 ⟨rfl, hwe⟩
      have kf2 : Blk X38 X37.heap.size 173 (#[Value.int .i64 b.x.lo, .int .i64 b.x.hi, .int .i64 b.y.lo, .int .i64 b.y.hi, .int .i64 b.s.lo, .int .i64 b.s.hi, .int .i64 b.d.lo, .int .i64 b.d.hi]) := by rw [hwe]; exact Blk.new _ _ _
      have hbel : Below X37.heap.size X37 X38 := by rw [hwe]; exact (Below.refl _ _).alloc (Nat.le_refl _) _
      clear hwe
      have gf2w := hb9.size
      generalize X37.heap.size = gf2 at kf2 gf2w ⊢
      replace hbel : Below X37.heap.size X37 X38 := hbel
      try replace kf1 := kf1.below hbel
      try replace ks := ks.below hbel
      try replace k7 := k7.below hbel
      replace hb9 := hb9.trans (hbel.mono hb9.size)
      refine hK _ _ (hSb.out _ hb9) ?_
      clear hK K hbel
      try simp only [Act.put, sA, sZ, sS]
      refine hOne 6 fun K hK => ?_
      go_simp
      have ks := Blk.new X38 188 #[Value.func (.func 130) #[] #[.pointer (some ⟨gf1, 0, none⟩)], .func (.func 130) #[] #[.pointer (some ⟨gf2, 0, none⟩)]]
      have hbel : Below X38.heap.size X38 (X38.alloc (.cells #[Value.func (.func 130) #[] #[.pointer (some ⟨gf1, 0, none⟩)], .func (.func 130) #[] #[.pointer (some ⟨gf2, 0, none⟩)]] 188)) := (Below.refl _ _).alloc (Nat.le_refl _) _
      have gsw := hb9.size
      generalize X38.alloc (.cells #[Value.func (.func 130) #[] #[.pointer (some ⟨gf1, 0, none⟩)], .func (.func 130) #[] #[.pointer (some ⟨gf2, 0, none⟩)]] 188) = X39 at *
      generalize X38.heap.size = gs at ks gsw ⊢
      try replace kf1 := kf1.below hbel
      try replace kf2 := kf2.below hbel
      try replace k7 := k7.below hbel
      replace hb9 := hb9.trans (hbel.mono hb9.size)
      refine hK _ _ (hSb.out _ hb9) ?_
      clear hK K hbel
      try simp only [Act.put, sA, sZ, sS]
      refine hOne 7 fun K hK => ?_
      go_simp
      refine (hhul 2 gf1 gf2 gs _ (ks.cell 0) (ks.cell 1) kf1 kf2).mono ?_
      rintro e X40 ⟨rfl, hbel⟩
      try replace kf1 := kf1.below hbel
      try replace kf2 := kf2.below hbel
      try replace ks := ks.below hbel
      try replace k7 := k7.below hbel
      replace hb9 := hb9.trans (hbel.mono hb9.size)
      refine hK _ _ (hSb.out _ hb9) ?_
      clear hK K hbel
      try simp only [Act.put, sA, sZ, sS]
      have hS := hSb.out _ hb9
      refine hTk 8 19 ?_
      refine hTk 9 28 ?_
      refine hTk 10 29 ?_
      clear hS
      refine hOne 12 fun K hK => ?_
      have kz := k7.set8 (.int .i64 R.x.lo) (.int .i64 R.x.hi) (.int .i64 R.y.lo) (.int .i64 R.y.hi) (.int .i64 R.s.lo) (.int .i64 R.s.hi) (.int .i64 R.d.lo) (.int .i64 R.d.hi)
      have bz := below_set8 (g := g7) hb9 g7w (.int .i64 R.x.lo) (.int .i64 R.x.hi) (.int .i64 R.y.lo) (.int .i64 R.y.hi) (.int .i64 R.s.lo) (.int .i64 R.s.hi) (.int .i64 R.d.lo) (.int .i64 R.d.hi)
      obtain ⟨X41, hwz⟩ : ∃ x, x = set8 X40 g7 (.int .i64 R.x.lo) (.int .i64 R.x.hi) (.int .i64 R.y.lo) (.int .i64 R.y.hi) (.int .i64 R.s.lo) (.int .i64 R.s.hi) (.int .i64 R.d.lo) (.int .i64 R.d.hi) := ⟨_, rfl⟩
      rw [← hwz] at kz bz
      simp only [set8] at hwz
      obtain ⟨c9, f9, l9⟩ := k7.rules
      go_simp
      rw [← hwz]
      clear hwz c9 f9 l9
      refine hK _ _ (hSb.out _ bz) ?_
      clear hK K
      try simp only [Act.put, sA, sZ, sS]
      have hS := hSb.out _ bz
      refine hTk 13 8 ?_
      refine wpAnyH_done (by kernel_rfl) (hrest (gf1, gf2, gs, g7) _ ⟨kz, g7w, bz⟩) _
  · rintro ⟨gf1, gf2, gs, g7⟩ X9 ⟨k7, hg7, hb9⟩
    try simp only [Act.put, sA, sZ, sS]
    refine noPanic_normal ?_
    clear hSb hhul hr1 hr2 hn1 hn2 hg9
    dsimp only at k7 hg7
    replace k4 := k4.below hb9
    replace hb := hb.trans (hb9.mono hb.size)
    clear hb9
    obtain ⟨c7, f7, l7⟩ := k7.rules
    obtain ⟨c4, f4, l4⟩ := k4.rules
    have hreg := fun W => region_any R W
    try simp only [regA] at hreg
    go_wp2_with fail
    refine (hreg _).mono ?_
    rintro e X10 ⟨rfl, hbel⟩
    clear c7 f7 l7 c4 f4 l4 k7 hreg
    replace k4 := k4.below hbel
    replace hb := hb.trans (hbel.mono hb.size)
    clear hbel
    have kz := k4.set8 (.int .i64 R.x.lo) (.int .i64 R.x.hi) (.int .i64 R.y.lo) (.int .i64 R.y.hi) (.int .i64 R.s.lo) (.int .i64 R.s.hi) (.int .i64 R.d.lo) (.int .i64 R.d.hi)
    have bz := below_set8 (g := w.heap.size + 1 + 1) hb (by omega) (.int .i64 R.x.lo) (.int .i64 R.x.hi) (.int .i64 R.y.lo) (.int .i64 R.y.hi) (.int .i64 R.s.lo) (.int .i64 R.s.hi) (.int .i64 R.d.lo) (.int .i64 R.d.hi)
    obtain ⟨wz, hwz⟩ : ∃ x, x = set8 X10 (w.heap.size + 1 + 1) (.int .i64 R.x.lo) (.int .i64 R.x.hi) (.int .i64 R.y.lo) (.int .i64 R.y.hi) (.int .i64 R.s.lo) (.int .i64 R.s.hi) (.int .i64 R.d.lo) (.int .i64 R.d.hi) := ⟨_, rfl⟩
    rw [← hwz] at kz bz
    simp only [set8] at hwz
    obtain ⟨c4, f4, l4⟩ := k4.rules
    go_wp2
    rw [← hwz]
    clear hwz c4 f4 l4
    obtain ⟨c0, f0, l0⟩ := kz.rules
    exact bodyPost_ret (v := .tuple #[.agg #[Value.int .i64 R.x.lo, .int .i64 R.x.hi, .int .i64 R.y.lo, .int .i64 R.y.hi, .int .i64 R.s.lo, .int .i64 R.s.hi, .int .i64 R.d.lo, .int .i64 R.d.hi], .int .i64 0]) (by simp [results, Tryz.results195, go_sem, c0]) rfl ⟨rfl, bz⟩
def regT : Reg := ⟨⟨10, 10⟩, ⟨0, 0⟩, ⟨10, 10⟩, ⟨10, 10⟩⟩
def regU : Reg := ⟨⟨0, 10⟩, ⟨0, 0⟩, ⟨0, 10⟩, ⟨0, 10⟩⟩
theorem tightZ : tightO noReg = some noReg := by decide +kernel
theorem movA : insideR (zipR plusB noReg (ofP ⟨0, 0⟩)) = (noReg, 0) := by decide +kernel
theorem movB : insideR (zipR plusB noReg (ofP ⟨10, 0⟩)) = (regT, 0) := by decide +kernel
theorem hullA : hullL (ptsL noReg ++ ptsL regT) = some regU := by decide +kernel
theorem hullB : hullL (ptsL regT ++ ptsL noReg) = some regU := by decide +kernel
theorem sweptA_any (w : World) : Calls Tryz.prog 180 #[.agg #[.int .i64 0, .int .i64 0, .int .i64 0, .int .i64 0, .int .i64 0, .int .i64 0, .int .i64 0, .int .i64 0], .agg #[.int .i64 0, .int .i64 0], .agg #[.int .i64 10, .int .i64 0]] w fun e w' => e = .returned (.tuple #[.agg #[.int .i64 0, .int .i64 10, .int .i64 0, .int .i64 0, .int .i64 0, .int .i64 10, .int .i64 0, .int .i64 10], .int .i64 0]) ∧ Below w.heap.size w w' := by
  have hm1 := fun W => Move_any noReg noReg ⟨0, 0⟩ W (by decide +kernel) (by decide +kernel) tightZ
  have hm2 := fun W => Move_any noReg noReg ⟨10, 0⟩ W (by decide +kernel) (by decide +kernel) tightZ
  rw [movA] at hm1
  rw [movB] at hm2
  have hj := fun W => Join_any noReg regT regU W (by decide +kernel) (by decide +kernel) hullA
  simp only [regA, noReg, regT, regU] at hm1 hm2 hj
  obtain ⟨w1, hw1⟩ : ∃ w1, w1 = (((w.alloc (.cells #[.int .i64 0, .int .i64 0, .int .i64 0, .int .i64 0, .int .i64 0, .int .i64 0, .int .i64 0, .int .i64 0] 68)).alloc (.cells #[.int .i64 0, .int .i64 0] 48)).alloc (.cells #[.int .i64 10, .int .i64 0] 48)).alloc (.cells #[.int .i64 0, .int .i64 0, .int .i64 0, .int .i64 0, .int .i64 0, .int .i64 0, .int .i64 0, .int .i64 0] 68) := ⟨_, rfl⟩
  have k3 : Blk w1 w.heap.size 68 #[.int .i64 0, .int .i64 0, .int .i64 0, .int .i64 0, .int .i64 0, .int .i64 0, .int .i64 0, .int .i64 0] := by rw [hw1]; exact (((Blk.new _ _ _).alloc _).alloc _).alloc _
  have k4 : Blk w1 (w.heap.size + 1) 48 #[.int .i64 0, .int .i64 0] := by rw [hw1]; exact ((Blk.newAt (by simp)).alloc _).alloc _
  have k5 : Blk w1 (w.heap.size + 1 + 1) 48 #[.int .i64 10, .int .i64 0] := by rw [hw1]; exact (Blk.newAt (by simp)).alloc _
  have k6 : Blk w1 (w.heap.size + 1 + 1 + 1) 68 #[.int .i64 0, .int .i64 0, .int .i64 0, .int .i64 0, .int .i64 0, .int .i64 0, .int .i64 0, .int .i64 0] := by rw [hw1]; exact Blk.newAt (by simp)
  have hb : Below w.heap.size w w1 := by rw [hw1]; exact ((((Below.refl _ _).alloc (Nat.le_refl _) _).alloc (by simp) _).alloc (by simp; omega) _).alloc (by simp; omega) _
  go_enter Tryz.func180, Tryz.ntmps180
  go_upto_region 1 with fail
  rw [← hw1]
  clear hw1
  obtain ⟨c3, f3, l3⟩ := k3.rules
  obtain ⟨c4, f4, l4⟩ := k4.rules
  go_wp2_with fail
  refine (hm1 _).mono ?_
  rintro e W1 ⟨rfl, hbel⟩
  clear c3 f3 l3 c4 f4 l4 k4 hm1
  replace k3 := k3.below hbel
  replace k5 := k5.below hbel
  replace k6 := k6.below hbel
  replace hb := hb.trans (hbel.mono hb.size)
  clear hbel
  go_upto_region 2 with fail
  have hbel := (Below.refl W1.heap.size W1).alloc (Nat.le_refl _) (.cells #[.int .i64 0, .int .i64 0, .int .i64 0, .int .i64 0, .int .i64 0, .int .i64 0, .int .i64 0, .int .i64 0] 68)
  have k8 := Blk.new W1 68 #[.int .i64 0, .int .i64 0, .int .i64 0, .int .i64 0, .int .i64 0, .int .i64 0, .int .i64 0, .int .i64 0]
  replace k3 := k3.below hbel
  replace k5 := k5.below hbel
  replace k6 := k6.below hbel
  replace hb := hb.trans (hbel.mono hb.size)
  clear hbel
  generalize W1.alloc (.cells #[.int .i64 0, .int .i64 0, .int .i64 0, .int .i64 0, .int .i64 0, .int .i64 0, .int .i64 0, .int .i64 0] 68) = W2 at *
  generalize W1.heap.size = g8 at *
  obtain ⟨c3, f3, l3⟩ := k3.rules
  obtain ⟨c5, f5, l5⟩ := k5.rules
  go_wp2_with fail
  refine (hm2 _).mono ?_
  rintro e W3 ⟨rfl, hbel⟩
  clear c3 f3 l3 c5 f5 l5 k5 k3 hm2
  replace k6 := k6.below hbel
  replace k8 := k8.below hbel
  replace hb := hb.trans (hbel.mono hb.size)
  clear hbel
  go_upto_region 5 with fail
  have hbel := (Below.refl W3.heap.size W3).alloc (Nat.le_refl _) (.cells #[.int .i64 10, .int .i64 10, .int .i64 0, .int .i64 0, .int .i64 10, .int .i64 10, .int .i64 10, .int .i64 10] 68)
  have k10 := Blk.new W3 68 #[.int .i64 10, .int .i64 10, .int .i64 0, .int .i64 0, .int .i64 10, .int .i64 10, .int .i64 10, .int .i64 10]
  replace k6 := k6.below hbel
  replace k8 := k8.below hbel
  replace hb := hb.trans (hbel.mono hb.size)
  clear hbel
  generalize W3.alloc (.cells #[.int .i64 10, .int .i64 10, .int .i64 0, .int .i64 0, .int .i64 10, .int .i64 10, .int .i64 10, .int .i64 10] 68) = W4 at *
  generalize W3.heap.size = g10 at *
  obtain ⟨c8, f8, l8⟩ := k8.rules
  obtain ⟨c10, f10, l10⟩ := k10.rules
  go_wp2_with fail
  refine (hj _).mono ?_
  rintro e W5 ⟨rfl, hbel⟩
  clear c8 f8 l8 c10 f10 l10 k8 k10 hj
  replace k6 := k6.below hbel
  replace hb := hb.trans (hbel.mono hb.size)
  clear hbel
  have kz := k6.set8 (.int .i64 0) (.int .i64 10) (.int .i64 0) (.int .i64 0) (.int .i64 0) (.int .i64 10) (.int .i64 0) (.int .i64 10)
  have bz := below_set8 (g := w.heap.size + 1 + 1 + 1) hb (by omega) (.int .i64 0) (.int .i64 10) (.int .i64 0) (.int .i64 0) (.int .i64 0) (.int .i64 10) (.int .i64 0) (.int .i64 10)
  obtain ⟨wz, hwz⟩ : ∃ x, x = set8 W5 (w.heap.size + 1 + 1 + 1) (.int .i64 0) (.int .i64 10) (.int .i64 0) (.int .i64 0) (.int .i64 0) (.int .i64 10) (.int .i64 0) (.int .i64 10) := ⟨_, rfl⟩
  rw [← hwz] at kz bz
  simp only [set8] at hwz
  obtain ⟨c6, f6, l6⟩ := k6.rules
  go_wp2
  rw [← hwz]
  clear hwz c6 f6 l6
  obtain ⟨c0, f0, l0⟩ := kz.rules
  exact bodyPost_ret (v := .tuple #[.agg #[.int .i64 0, .int .i64 10, .int .i64 0, .int .i64 0, .int .i64 0, .int .i64 10, .int .i64 0, .int .i64 10], .int .i64 0]) (by simp [results, Tryz.results180, go_sem, c0]) rfl ⟨rfl, bz⟩
theorem sweptB_any (w : World) : Calls Tryz.prog 180 #[.agg #[.int .i64 0, .int .i64 0, .int .i64 0, .int .i64 0, .int .i64 0, .int .i64 0, .int .i64 0, .int .i64 0], .agg #[.int .i64 10, .int .i64 0], .agg #[.int .i64 0, .int .i64 0]] w fun e w' => e = .returned (.tuple #[.agg #[.int .i64 0, .int .i64 10, .int .i64 0, .int .i64 0, .int .i64 0, .int .i64 10, .int .i64 0, .int .i64 10], .int .i64 0]) ∧ Below w.heap.size w w' := by
  have hm1 := fun W => Move_any noReg noReg ⟨10, 0⟩ W (by decide +kernel) (by decide +kernel) tightZ
  have hm2 := fun W => Move_any noReg noReg ⟨0, 0⟩ W (by decide +kernel) (by decide +kernel) tightZ
  rw [movB] at hm1
  rw [movA] at hm2
  have hj := fun W => Join_any regT noReg regU W (by decide +kernel) (by decide +kernel) hullB
  simp only [regA, noReg, regT, regU] at hm1 hm2 hj
  obtain ⟨w1, hw1⟩ : ∃ w1, w1 = (((w.alloc (.cells #[.int .i64 0, .int .i64 0, .int .i64 0, .int .i64 0, .int .i64 0, .int .i64 0, .int .i64 0, .int .i64 0] 68)).alloc (.cells #[.int .i64 10, .int .i64 0] 48)).alloc (.cells #[.int .i64 0, .int .i64 0] 48)).alloc (.cells #[.int .i64 0, .int .i64 0, .int .i64 0, .int .i64 0, .int .i64 0, .int .i64 0, .int .i64 0, .int .i64 0] 68) := ⟨_, rfl⟩
  have k3 : Blk w1 w.heap.size 68 #[.int .i64 0, .int .i64 0, .int .i64 0, .int .i64 0, .int .i64 0, .int .i64 0, .int .i64 0, .int .i64 0] := by rw [hw1]; exact (((Blk.new _ _ _).alloc _).alloc _).alloc _
  have k4 : Blk w1 (w.heap.size + 1) 48 #[.int .i64 10, .int .i64 0] := by rw [hw1]; exact ((Blk.newAt (by simp)).alloc _).alloc _
  have k5 : Blk w1 (w.heap.size + 1 + 1) 48 #[.int .i64 0, .int .i64 0] := by rw [hw1]; exact (Blk.newAt (by simp)).alloc _
  have k6 : Blk w1 (w.heap.size + 1 + 1 + 1) 68 #[.int .i64 0, .int .i64 0, .int .i64 0, .int .i64 0, .int .i64 0, .int .i64 0, .int .i64 0, .int .i64 0] := by rw [hw1]; exact Blk.newAt (by simp)
  have hb : Below w.heap.size w w1 := by rw [hw1]; exact ((((Below.refl _ _).alloc (Nat.le_refl _) _).alloc (by simp) _).alloc (by simp; omega) _).alloc (by simp; omega) _
  go_enter Tryz.func180, Tryz.ntmps180
  go_upto_region 1 with fail
  rw [← hw1]
  clear hw1
  obtain ⟨c3, f3, l3⟩ := k3.rules
  obtain ⟨c4, f4, l4⟩ := k4.rules
  go_wp2_with fail
  refine (hm1 _).mono ?_
  rintro e W1 ⟨rfl, hbel⟩
  clear c3 f3 l3 c4 f4 l4 k4 hm1
  replace k3 := k3.below hbel
  replace k5 := k5.below hbel
  replace k6 := k6.below hbel
  replace hb := hb.trans (hbel.mono hb.size)
  clear hbel
  go_upto_region 2 with fail
  have hbel := (Below.refl W1.heap.size W1).alloc (Nat.le_refl _) (.cells #[.int .i64 10, .int .i64 10, .int .i64 0, .int .i64 0, .int .i64 10, .int .i64 10, .int .i64 10, .int .i64 10] 68)
  have k8 := Blk.new W1 68 #[.int .i64 10, .int .i64 10, .int .i64 0, .int .i64 0, .int .i64 10, .int .i64 10, .int .i64 10, .int .i64 10]
  replace k3 := k3.below hbel
  replace k5 := k5.below hbel
  replace k6 := k6.below hbel
  replace hb := hb.trans (hbel.mono hb.size)
  clear hbel
  generalize W1.alloc (.cells #[.int .i64 10, .int .i64 10, .int .i64 0, .int .i64 0, .int .i64 10, .int .i64 10, .int .i64 10, .int .i64 10] 68) = W2 at *
  generalize W1.heap.size = g8 at *
  obtain ⟨c3, f3, l3⟩ := k3.rules
  obtain ⟨c5, f5, l5⟩ := k5.rules
  go_wp2_with fail
  refine (hm2 _).mono ?_
  rintro e W3 ⟨rfl, hbel⟩
  clear c3 f3 l3 c5 f5 l5 k5 k3 hm2
  replace k6 := k6.below hbel
  replace k8 := k8.below hbel
  replace hb := hb.trans (hbel.mono hb.size)
  clear hbel
  go_upto_region 5 with fail
  have hbel := (Below.refl W3.heap.size W3).alloc (Nat.le_refl _) (.cells #[.int .i64 0, .int .i64 0, .int .i64 0, .int .i64 0, .int .i64 0, .int .i64 0, .int .i64 0, .int .i64 0] 68)
  have k10 := Blk.new W3 68 #[.int .i64 0, .int .i64 0, .int .i64 0, .int .i64 0, .int .i64 0, .int .i64 0, .int .i64 0, .int .i64 0]
  replace k6 := k6.below hbel
  replace k8 := k8.below hbel
  replace hb := hb.trans (hbel.mono hb.size)
  clear hbel
  generalize W3.alloc (.cells #[.int .i64 0, .int .i64 0, .int .i64 0, .int .i64 0, .int .i64 0, .int .i64 0, .int .i64 0, .int .i64 0] 68) = W4 at *
  generalize W3.heap.size = g10 at *
  obtain ⟨c8, f8, l8⟩ := k8.rules
  obtain ⟨c10, f10, l10⟩ := k10.rules
  go_wp2_with fail
  refine (hj _).mono ?_
  rintro e W5 ⟨rfl, hbel⟩
  clear c8 f8 l8 c10 f10 l10 k8 k10 hj
  replace k6 := k6.below hbel
  replace hb := hb.trans (hbel.mono hb.size)
  clear hbel
  have kz := k6.set8 (.int .i64 0) (.int .i64 10) (.int .i64 0) (.int .i64 0) (.int .i64 0) (.int .i64 10) (.int .i64 0) (.int .i64 10)
  have bz := below_set8 (g := w.heap.size + 1 + 1 + 1) hb (by omega) (.int .i64 0) (.int .i64 10) (.int .i64 0) (.int .i64 0) (.int .i64 0) (.int .i64 10) (.int .i64 0) (.int .i64 10)
  obtain ⟨wz, hwz⟩ : ∃ x, x = set8 W5 (w.heap.size + 1 + 1 + 1) (.int .i64 0) (.int .i64 10) (.int .i64 0) (.int .i64 0) (.int .i64 0) (.int .i64 10) (.int .i64 0) (.int .i64 10) := ⟨_, rfl⟩
  rw [← hwz] at kz bz
  simp only [set8] at hwz
  obtain ⟨c6, f6, l6⟩ := k6.rules
  go_wp2
  rw [← hwz]
  clear hwz c6 f6 l6
  obtain ⟨c0, f0, l0⟩ := kz.rules
  exact bodyPost_ret (v := .tuple #[.agg #[.int .i64 0, .int .i64 10, .int .i64 0, .int .i64 0, .int .i64 0, .int .i64 10, .int .i64 0, .int .i64 10], .int .i64 0]) (by simp [results, Tryz.results180, go_sem, c0]) rfl ⟨rfl, bz⟩

end Go.Proofs.YtcmbmmpihiekhaaGreat
