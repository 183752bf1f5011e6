/-
  Walks: where the nodes are in the plane.
-/
import Derived.Test.YthjdjpcomocffaaGreatG9
namespace Go.Proofs.YthjdjpcomocffaaGreat
open Go.RowKit Go.Shelf
set_option linter.unusedSimpArgs false
set_option linter.unusedVariables false

theorem place_eq {ship : Pnt} {h : Hdg} {r : Reg} (hh : okHdg h = true) (hp : okPnt ship = true) (hr : ∃ v, inR v r) (hi : inPlane (turnedS r h) = true) :
    okReg (turnedS r h) = true ∧ ∃ t, tightO (turnedS r h) = some t ∧ placeR ship h r = insideR (zipR plusB t (ofP ship)) := by
  have ho := turned_ok hh hr hi
  obtain ⟨v, hv⟩ := hr
  obtain ⟨u, hu, -⟩ := turned_near hh hv
  obtain ⟨t, ht, -⟩ := tight_has hu
  refine ⟨ho, t, ht, ?_⟩
  have := of_decide_eq_true hp
  rw [placeR, if_pos hi, moveR, if_pos ho, if_pos (by omega), ht]
theorem regcells_one (R : Reg) : ∀ u ∈ Reg.cells R, u.oneCell' = true := by
  intro u hu; simp [Reg.cells] at hu; rcases hu with rfl | rfl | rfl | rfl | rfl | rfl | rfl | rfl <;> rfl
set_option maxRecDepth 100000 in
set_option maxHeartbeats 4000000 in
theorem Where_any (s : Strm) (A O : Option Addr) (n c no co : Nat) (bs : List Bnd) (p : Pnt) (h : Hdg) (w : World) (hs : SlAt w 0 5 Sec.cells A n c s.secs) (hl : SlAt w 0 2 Bnd.cells O no co bs) :
    Calls Tryz.prog 17 #[.agg #[.int .i64 s.head, .slice A n c, .int .i64 s.lane.lo, .int .i64 s.lane.hi, .int .i64 s.bend], .slice O no co, .agg #[.int .i64 p.x, .int .i64 p.y], .agg #[.int .i64 h.p, .int .i64 h.q, .int .i64 h.c]] w (RetSl 8 Reg.cells (whereR s bs p h) w) := by
  obtain ⟨w1, hw1⟩ : ∃ w1, w1 = ((w.alloc (.cells #[.int .i64 s.head, .slice A n c, .int .i64 s.lane.lo, .int .i64 s.lane.hi, .int .i64 s.bend] 26)).alloc (.cells #[.int .i64 p.x, .int .i64 p.y] 65)).alloc (.cells #[.int .i64 h.p, .int .i64 h.q, .int .i64 h.c] 54) := ⟨_, rfl⟩
  have k4 : Blk w1 w.heap.size 26 #[.int .i64 s.head, .slice A n c, .int .i64 s.lane.lo, .int .i64 s.lane.hi, .int .i64 s.bend] := by rw [hw1]; exact ((Blk.new _ _ _).alloc _).alloc _
  have k6 : Blk w1 (w.heap.size + 1) 65 #[.int .i64 p.x, .int .i64 p.y] := by rw [hw1]; exact (Blk.newAt (by simp)).alloc _
  have k7 : Blk w1 (w.heap.size + 1 + 1) 54 #[.int .i64 h.p, .int .i64 h.q, .int .i64 h.c] := by rw [hw1]; exact Blk.newAt (by simp)
  have b : Below w.heap.size w w1 := by rw [hw1]; exact (((Below.refl _ _).alloc (Nat.le_refl _) _).alloc (by simp) _).alloc (by simp; omega) _
  replace hs : SlAt w1 0 5 Sec.cells A n c s.secs := by rw [hw1]; exact ((hs.alloc _).alloc _).alloc _
  replace hl : SlAt w1 0 2 Bnd.cells O no co bs := by rw [hw1]; exact ((hl.alloc _).alloc _).alloc _
  have hcp := fun W => CheckPoint_any p W
  have hch := fun W => CheckHeading_any h W
  by_cases h1 : errB s bs = 0
  · obtain ⟨e1, e2⟩ := errB_zero h1
    have hno : n = no := by have := okOffs_len e2; have := hs.len; have := hl.len; omega
    subst hno
    have hn8 : n ≤ 8 := by have := ok_head e1; unfold headOk at this; have := hs.len; omega
    have hbl := Lib.hid hl.len
    cases h2 : okPnt p
    · have hv : whereR s bs p h = ([], 10) := by simp [whereR, h1, h2]
      have hk : chkPnt p = 10 := by simp [chkPnt, h2]
      rw [hv]
      simp only [hk] at hcp
      replace h1 := Lib.hid h1
      clear hv hk h2 hch e1 e2
      go_enter Tryz.func17, Tryz.ntmps17
      go_wp2_with fail
      rw [← hw1]
      clear hw1
      refine (checked_any s A O n c n co 0 0 bs _ hs hl).mono ?_
      rintro e W ⟨r1, -, hb1⟩
      obtain rfl := r1 h1.out
      clear r1
      replace hb1 := hb1
      have hbel := hb1
      replace k4 := k4.below hbel
      replace k6 := k6.below hbel
      replace k7 := k7.below hbel
      replace b := b.trans (hbel.mono b.size)
      replace hs := hs.below hbel
      replace hl := hl.below hbel
      clear hbel hb1
      obtain ⟨c6, f6, l6⟩ := k6.rules
      go_wp2_with fail
      clear c6 f6 l6
      have hbel := (Below.refl W.heap.size W).alloc (Nat.le_refl _) (.cells #[.int .i64 s.head, .slice A n c, .int .i64 s.lane.lo, .int .i64 s.lane.hi, .int .i64 s.bend] 74)
      have k10 := Blk.new W 74 #[.int .i64 s.head, .slice A n c, .int .i64 s.lane.lo, .int .i64 s.lane.hi, .int .i64 s.bend]
      replace k4 := k4.below hbel
      replace k6 := k6.below hbel
      replace k7 := k7.below hbel
      replace b := b.trans (hbel.mono b.size)
      replace hs := hs.below hbel
      replace hl := hl.below hbel
      clear hbel
      generalize W.alloc (.cells #[.int .i64 s.head, .slice A n c, .int .i64 s.lane.lo, .int .i64 s.lane.hi, .int .i64 s.bend] 74) = W1 at *
      generalize W.heap.size = g10 at *
      refine (hcp _).mono ?_
      rintro e W ⟨rfl, hbel⟩
      replace k10 := k10.below hbel
      replace k4 := k4.below hbel
      replace k6 := k6.below hbel
      replace k7 := k7.below hbel
      replace b := b.trans (hbel.mono b.size)
      replace hs := hs.below hbel
      replace hl := hl.below hbel
      clear hbel hcp
      go_wp2
      go_ret2
      exact RetSl.none_ b
    · have hk : chkPnt p = 0 := by simp [chkPnt, h2]
      simp only [hk] at hcp
      cases h3 : okHdg h
      · have hv : whereR s bs p h = ([], 35) := by simp [whereR, h1, h2, h3]
        have hk3 : chkHdg h = 35 := by simp [chkHdg, h3]
        rw [hv]
        simp only [hk3] at hch
        replace h1 := Lib.hid h1
        clear hv hk hk3 h2 h3 e1 e2
        go_enter Tryz.func17, Tryz.ntmps17
        go_wp2_with fail
        rw [← hw1]
        clear hw1
        refine (checked_any s A O n c n co 0 0 bs _ hs hl).mono ?_
        rintro e W ⟨r1, -, hb1⟩
        obtain rfl := r1 h1.out
        clear r1
        replace hb1 := hb1
        have hbel := hb1
        replace k4 := k4.below hbel
        replace k6 := k6.below hbel
        replace k7 := k7.below hbel
        replace b := b.trans (hbel.mono b.size)
        replace hs := hs.below hbel
        replace hl := hl.below hbel
        clear hbel hb1
        obtain ⟨c6, f6, l6⟩ := k6.rules
        go_wp2_with fail
        clear c6 f6 l6
        have hbel := (Below.refl W.heap.size W).alloc (Nat.le_refl _) (.cells #[.int .i64 s.head, .slice A n c, .int .i64 s.lane.lo, .int .i64 s.lane.hi, .int .i64 s.bend] 74)
        have k10 := Blk.new W 74 #[.int .i64 s.head, .slice A n c, .int .i64 s.lane.lo, .int .i64 s.lane.hi, .int .i64 s.bend]
        replace k4 := k4.below hbel
        replace k6 := k6.below hbel
        replace k7 := k7.below hbel
        replace b := b.trans (hbel.mono b.size)
        replace hs := hs.below hbel
        replace hl := hl.below hbel
        clear hbel
        generalize W.alloc (.cells #[.int .i64 s.head, .slice A n c, .int .i64 s.lane.lo, .int .i64 s.lane.hi, .int .i64 s.bend] 74) = W1 at *
        generalize W.heap.size = g10 at *
        refine (hcp _).mono ?_
        rintro e W ⟨rfl, hbel⟩
        replace k10 := k10.below hbel
        replace k4 := k4.below hbel
        replace k6 := k6.below hbel
        replace k7 := k7.below hbel
        replace b := b.trans (hbel.mono b.size)
        replace hs := hs.below hbel
        replace hl := hl.below hbel
        clear hbel hcp
        obtain ⟨c7, f7, l7⟩ := k7.rules
        go_wp2_with fail
        clear c7 f7 l7
        refine (hch _).mono ?_
        rintro e W ⟨rfl, hbel⟩
        replace k10 := k10.below hbel
        replace k4 := k4.below hbel
        replace k6 := k6.below hbel
        replace k7 := k7.below hbel
        replace b := b.trans (hbel.mono b.size)
        replace hs := hs.below hbel
        replace hl := hl.below hbel
        clear hbel hch
        go_wp2
        go_ret2
        exact RetSl.none_ b
      · have hv : whereR s bs p h = whereN p h (nodesL s bs) := by simp [whereR, h1, h2, h3]
        have hk3 : chkHdg h = 0 := by simp [chkHdg, h3]
        rw [hv]
        simp only [hk3] at hch
        have hnt := fun i (hi : i < bs.length) => node_tight e1 e2 hi
        have hLl : (nodesL s bs).length = n := by rw [nodesL, List.length_map, List.length_range, hbl.out]
        have hLat := fun i (hi : i < bs.length) => nodesL_at s bs hi
        have hnd := fun W hs hl => nodes_any s A O n c co 0 0 bs W e1 e2 hs hl
        replace h1 := Lib.hid h1
        generalize nodesL s bs = L at *
        have hpl := fun i (hi : i < bs.length) (hq : inPlane (turnedS (nodeR s bs i) h) = true) => place_eq h3 h2 (let ⟨v, hv, _⟩ := (hnt i hi).1.xlo; ⟨v, hv⟩) hq
        replace hnt := Lib.hid hnt
        replace hLat := Lib.hid hLat
        replace hLl := Lib.hid hLl
        replace hpl := Lib.hid hpl
        replace h2 := Lib.hid h2
        replace h3 := Lib.hid h3
        clear hv hk hk3 e1 e2
        go_enter Tryz.func17, Tryz.ntmps17
        go_wp2_with fail
        rw [← hw1]
        clear hw1
        refine (checked_any s A O n c n co 0 0 bs _ hs hl).mono ?_
        rintro e W ⟨r1, -, hb1⟩
        obtain rfl := r1 h1.out
        clear r1
        replace hb1 := hb1
        have hbel := hb1
        replace k4 := k4.below hbel
        replace k6 := k6.below hbel
        replace k7 := k7.below hbel
        replace b := b.trans (hbel.mono b.size)
        replace hs := hs.below hbel
        replace hl := hl.below hbel
        clear hbel hb1
        obtain ⟨c6, f6, l6⟩ := k6.rules
        go_wp2_with fail
        clear c6 f6 l6
        have hbel := (Below.refl W.heap.size W).alloc (Nat.le_refl _) (.cells #[.int .i64 s.head, .slice A n c, .int .i64 s.lane.lo, .int .i64 s.lane.hi, .int .i64 s.bend] 74)
        have k10 := Blk.new W 74 #[.int .i64 s.head, .slice A n c, .int .i64 s.lane.lo, .int .i64 s.lane.hi, .int .i64 s.bend]
        replace k4 := k4.below hbel
        replace k6 := k6.below hbel
        replace k7 := k7.below hbel
        replace b := b.trans (hbel.mono b.size)
        replace hs := hs.below hbel
        replace hl := hl.below hbel
        clear hbel
        generalize W.alloc (.cells #[.int .i64 s.head, .slice A n c, .int .i64 s.lane.lo, .int .i64 s.lane.hi, .int .i64 s.bend] 74) = W1 at *
        generalize W.heap.size = g10 at *
        refine (hcp _).mono ?_
        rintro e W ⟨rfl, hbel⟩
        replace k10 := k10.below hbel
        replace k4 := k4.below hbel
        replace k6 := k6.below hbel
        replace k7 := k7.below hbel
        replace b := b.trans (hbel.mono b.size)
        replace hs := hs.below hbel
        replace hl := hl.below hbel
        clear hbel hcp
        obtain ⟨c7, f7, l7⟩ := k7.rules
        go_wp2_with fail
        clear c7 f7 l7
        refine (hch _).mono ?_
        rintro e W ⟨rfl, hbel⟩
        replace k10 := k10.below hbel
        replace k4 := k4.below hbel
        replace k6 := k6.below hbel
        replace k7 := k7.below hbel
        replace b := b.trans (hbel.mono b.size)
        replace hs := hs.below hbel
        replace hl := hl.below hbel
        clear hbel hch
        obtain ⟨c10, f10, l10⟩ := k10.rules
        go_wp2_with fail
        clear c10 f10 l10
        refine (hnd _ hs hl).mono ?_
        rintro e W ⟨PN, cn, rfl, hr, hbel⟩
        clear hnd k10
        replace k4 := k4.below hbel
        replace k6 := k6.below hbel
        replace k7 := k7.below hbel
        replace b := b.trans (hbel.mono b.size)
        replace hs := hs.below hbel
        replace hl := hl.below hbel
        clear hbel k4 hs hl
        replace hr := hr.mono (Nat.zero_le _)
        go_wp2_with fail
        go_loopw [14, 44] (fun v j wr => ∃ k : Nat, j = .int .i64 k ∧ k ≤ n ∧ whereE p h L k = 0 ∧ wr.ownsRow W.heap.size 58 8 v k ((whereTo p h L k).flatMap Reg.cells) ∧ Below W.heap.size W wr) (fun v j wr => n - (intOf j).toNat)
        case atStart => exact ⟨0, rfl, Nat.zero_le _, rfl, ⟨rfl, .inl ⟨rfl, rfl⟩⟩, Below.refl _ _⟩
        case round =>
          obtain ⟨k, rfl, hk, hE, hown, hb⟩ := hrel
          have hE9 := Lib.hid hE
          clear hE
          by_cases hlt : k < n
          · have hLk := hLat.out k (by rw [hbl.out]; exact hlt)
            obtain ⟨-, hok, -⟩ := hnt.out k (by rw [hbl.out]; exact hlt)
            have hplk := hpl.out k (by rw [hbl.out]; exact hlt)
            have hLg : L.getD k noReg = nodeR s bs k := getD_of _ hLk
            have hstop : (placeR p h (nodeR s bs k)).2 ≠ 0 → whereN p h L = ([], (placeR p h (nodeR s bs k)).2) := fun hne => by
              have e := whereE_stop hE9.out (by rw [hLg]; exact hne) L.length (by rw [hLl.out]; exact hlt)
              rw [hLg] at e
              rw [whereN, e, if_neg hne]
            have hstep : (placeR p h (nodeR s bs k)).2 = 0 → whereE p h L (k + 1) = 0 ∧ (whereTo p h L (k + 1)).flatMap Reg.cells = (whereTo p h L k).flatMap Reg.cells ++ Reg.cells (placeR p h (nodeR s bs k)).1 := fun he => by
              refine ⟨by rw [whereE, if_pos hE9.out, hLg, he], ?_⟩
              rw [whereTo_succ, List.flatMap_append, hLg]; simp
            have k6w := k6.below hb
            have k7w := k7.below hb
            obtain ⟨bN, oN, hA, -, hbN, z0, z1, z2, z3, z4, z5, z6, z7⟩ := (hr.below hb).reg hLk
            subst hA
            generalize nodeR s bs k = r at *
            have htu := fun W => turned_any r h W hok h3.out
            simp only [regA] at htu
            have hk0 : (0 : Int) ≤ (k : Int) := by omega
            have hk1 : (k : Int) < (n : Int) := by omega
            replace hLk := Lib.hid hLk
            replace hLg := Lib.hid hLg
            replace hok := Lib.hid hok
            replace hstop := Lib.hid hstop
            replace hstep := Lib.hid hstep
            obtain ⟨c7, f7, l7⟩ := k7w.rules
            go_wp2_with fail
            clear c7 f7 l7 z0 z1 z2 z3 z4 z5 z6 z7
            have hbel := (Below.refl wr.heap.size wr).alloc (Nat.le_refl _) (.cells #[.int .i64 r.x.lo, .int .i64 r.x.hi, .int .i64 r.y.lo, .int .i64 r.y.hi, .int .i64 r.s.lo, .int .i64 r.s.hi, .int .i64 r.d.lo, .int .i64 r.d.hi] 58)
            replace k6w := k6w.below hbel
            replace k7w := k7w.below hbel
            replace hb := hb.trans (hbel.mono hb.size)
            replace hown := ownsRow_below hown hbel
            clear hbel
            generalize wr.alloc (.cells #[.int .i64 r.x.lo, .int .i64 r.x.hi, .int .i64 r.y.lo, .int .i64 r.y.hi, .int .i64 r.s.lo, .int .i64 r.s.hi, .int .i64 r.d.lo, .int .i64 r.d.hi] 58) = Wa at *
            refine (htu _).mono ?_
            rintro e Wb ⟨rfl, hbel⟩
            clear htu
            replace k6w := k6w.below hbel
            replace k7w := k7w.below hbel
            replace hb := hb.trans (hbel.mono hb.size)
            replace hown := ownsRow_below hown hbel
            clear hbel
            cases hip : inPlane (turnedS r h) with
            | false =>
              have hpe : placeR p h r = (noReg, 7) := by rw [placeR, if_neg (by rw [hip]; simp)]
              have hv2 := hstop.out (by rw [hpe]; simp)
              rw [hpe] at hv2
              clear hpe
              replace hip := Lib.hid hip
              generalize turnedS r h = T at *
              have hbz := b.trans (hb.mono b.size)
              replace hv2 := Lib.hid hv2
              go_wp2
              go_ret2
              exact ⟨none, 0, 0, by rw [hv2.out]; rfl, by rw [hv2.out]; exact SlAt.nil _ _ _ _, Below.alloc hbz hbz.size _⟩
            | true =>
              obtain ⟨ho2, t, ht, hpe⟩ := hplk hip
              have hmv := fun W => Move_any (turnedS r h) t p W ho2 h2.out ht
              simp only [← hpe] at hmv
              obtain ⟨⟨R, er⟩, hR⟩ : ∃ R, placeR p h r = R := ⟨_, rfl⟩
              simp only [hR] at hmv
              replace hR := Lib.hid hR
              replace hpe := Lib.hid hpe
              replace ht := Lib.hid ht
              replace ho2 := Lib.hid ho2
              replace hip := Lib.hid hip
              simp only [regA] at hmv
              clear hplk
              obtain ⟨T, hT⟩ : ∃ T, turnedS r h = T := ⟨_, rfl⟩
              simp only [hT] at hmv ⊢
              replace hT := Lib.hid hT
              obtain ⟨c6, f6, l6⟩ := k6w.rules
              go_wp2_with fail
              clear c6 f6 l6
              have hbel := (Below.refl Wb.heap.size Wb).alloc (Nat.le_refl _) (.cells #[.int .i64 T.x.lo, .int .i64 T.x.hi, .int .i64 T.y.lo, .int .i64 T.y.hi, .int .i64 T.s.lo, .int .i64 T.s.hi, .int .i64 T.d.lo, .int .i64 T.d.hi] 58)
              replace k6w := k6w.below hbel
              replace k7w := k7w.below hbel
              replace hb := hb.trans (hbel.mono hb.size)
              replace hown := ownsRow_below hown hbel
              clear hbel
              generalize Wb.alloc (.cells #[.int .i64 T.x.lo, .int .i64 T.x.hi, .int .i64 T.y.lo, .int .i64 T.y.hi, .int .i64 T.s.lo, .int .i64 T.s.hi, .int .i64 T.d.lo, .int .i64 T.d.hi] 58) = Wc at *
              refine (hmv _).mono ?_
              rintro e Wd ⟨rfl, hbel⟩
              clear hmv
              replace k6w := k6w.below hbel
              replace k7w := k7w.below hbel
              replace hb := hb.trans (hbel.mono hb.size)
              replace hown := ownsRow_below hown hbel
              clear hbel
              by_cases her : er = 0
              · subst her
                obtain ⟨hE2, hnx⟩ := hstep.out (by rw [hR.out])
                rw [hR.out] at hnx
                replace hE2 := Lib.hid hE2
                replace hnx := Lib.hid hnx
                have hown0 := hown
                have hownf := (hown.alloc (.cells #[.int .i64 R.x.lo, .int .i64 R.x.hi, .int .i64 R.y.lo, .int .i64 R.y.hi, .int .i64 R.s.lo, .int .i64 R.s.hi, .int .i64 R.d.lo, .int .i64 R.d.hi] 58)).alloc (.cells #[.int .i64 R.x.lo, .int .i64 R.x.hi, .int .i64 R.y.lo, .int .i64 R.y.hi, .int .i64 R.s.lo, .int .i64 R.s.hi, .int .i64 R.d.lo, .int .i64 R.d.hi] 58)
                have hbf := Below.alloc (hb.alloc hb.size (.cells #[.int .i64 R.x.lo, .int .i64 R.x.hi, .int .i64 R.y.lo, .int .i64 R.y.hi, .int .i64 R.s.lo, .int .i64 R.s.hi, .int .i64 R.d.lo, .int .i64 R.d.hi] 58)) (by rw [World.size_alloc]; have := hb.size; omega) (.cells #[.int .i64 R.x.lo, .int .i64 R.x.hi, .int .i64 R.y.lo, .int .i64 R.y.hi, .int .i64 R.s.lo, .int .i64 R.s.hi, .int .i64 R.d.lo, .int .i64 R.d.hi] 58)
                have hnews : ∀ (j : Nat) (u : Value), (Reg.cells R)[j]? = some u → ((Wd.alloc (.cells #[.int .i64 R.x.lo, .int .i64 R.x.hi, .int .i64 R.y.lo, .int .i64 R.y.hi, .int .i64 R.s.lo, .int .i64 R.s.hi, .int .i64 R.d.lo, .int .i64 R.d.hi] 58)).alloc (.cells #[.int .i64 R.x.lo, .int .i64 R.x.hi, .int .i64 R.y.lo, .int .i64 R.y.hi, .int .i64 R.s.lo, .int .i64 R.s.hi, .int .i64 R.d.lo, .int .i64 R.d.hi] 58)).cell? ((⟨Wd.heap.size + 1, 0, none⟩ : Addr).add j) = some u :=
                  World.news_of_block (cs := #[.int .i64 R.x.lo, .int .i64 R.x.hi, .int .i64 R.y.lo, .int .i64 R.y.hi, .int .i64 R.s.lo, .int .i64 R.s.hi, .int .i64 R.d.lo, .int .i64 R.d.hi]) (t := 58) (fr := (0, 0)) (by have := World.alloc_heap_new (Wd.alloc (.cells #[.int .i64 R.x.lo, .int .i64 R.x.hi, .int .i64 R.y.lo, .int .i64 R.y.hi, .int .i64 R.s.lo, .int .i64 R.s.hi, .int .i64 R.d.lo, .int .i64 R.d.hi] 58)) (.cells #[.int .i64 R.x.lo, .int .i64 R.x.hi, .int .i64 R.y.lo, .int .i64 R.y.hi, .int .i64 R.s.lo, .int .i64 R.s.hi, .int .i64 R.d.lo, .int .i64 R.d.hi] 58); rw [World.size_alloc] at this; exact this)
                obtain ⟨i0, hi0, hz0, hz1, hz2⟩ := info_parts Tryz.infoReg
                have hbig1 : Hid (k + 1 ≤ maxLen) := by show k + 1 ≤ maxLen; unfold maxLen; omega
                have hbig2 : Hid ((k + 1) * 64 ≤ 140737488355328) := by show (k + 1) * 64 ≤ 140737488355328; omega
                have hone := Lib.hid (regcells_one R)
                go_wp2_with (at_builtin; refine wpList_append_lies _ rfl (.tmp 65) (.tmp 67) 61 rfl W.heap.size 58 i0 (.agg #[.int .i64 0, .int .i64 0, .int .i64 0, .int .i64 0, .int .i64 0, .int .i64 0, .int .i64 0, .int .i64 0]) 8 64 Tryz.underlying61 hi0 hz0 hz1 hz2 rfl (by decide) u14 k ((whereTo p h L k).flatMap Reg.cells) rfl hownf ⟨Wd.heap.size + 1, 0, none⟩ 1 1 (Reg.cells R) rfl rfl hnews hone.out (by decide) hbig1.out hbig2.out hbf.size (Wd.heap.size + 1 + 1) (by simp) ?_; intro g cap w7 hown7 hgrow hlies hlt7)
                have hbg : Below W.heap.size _ w7 := ⟨hgrow.os, hgrow.tape, hgrow.output, hgrow.size, fun b hb => hgrow.block b (Nat.lt_of_lt_of_le hb hbf.size) (fun e => by have := (hown0.lt _ e.symm).1; omega)⟩
                have hbh := hbf.trans hbg
                go_roundw
                case rel =>
                  refine ⟨k + 1, by go_num, by omega, hE2.out, ?_, hbh⟩
                  rw [hnx.out]
                  exact hown7
                case measure => simp [intOf]; omega
              · have her2 : (er != 0) = true := by rw [bne_iff_ne]; exact her
                have hv2 := hstop.out (by rw [hR.out]; exact her)
                rw [hR.out] at hv2
                replace her := Lib.hid her
                have hbz := b.trans (hb.mono b.size)
                replace hv2 := Lib.hid hv2
                go_wp2
                go_ret2
                exact ⟨none, 0, 0, by rw [hv2.out]; rfl, by rw [hv2.out]; exact SlAt.nil _ _ _ _, Below.alloc hbz hbz.size _⟩
          · obtain rfl : k = n := by omega
            have hv2 : whereN p h L = (whereTo p h L k, 0) := by rw [whereN, hLl.out, if_pos hE9.out]
            obtain ⟨P, pc, e5, h5⟩ := SlAt.of_own (enc := Reg.cells) hown (by omega) (whereTo p h L k) rfl (fun _ => rfl) (whereTo_len _ _ _ _)
            subst e5
            replace hv2 := Lib.hid hv2
            clear hown
            go_wp2
            go_ret2
            exact ⟨P, k, pc, by rw [hv2.out]; rfl, by rw [hv2.out]; exact h5.mono b.size, b.trans (hb.mono b.size)⟩
  · have hv : whereR s bs p h = ([], errB s bs) := by simp [whereR, h1]
    rw [hv]
    have h1' : (errB s bs != 0) = true := by rw [bne_iff_ne]; exact h1
    clear hv hcp hch
    go_enter Tryz.func17, Tryz.ntmps17
    go_wp2_with fail
    rw [← hw1]
    clear hw1
    refine (checked_any s A O n c no co 0 0 bs _ hs hl).mono ?_
    rintro e W ⟨-, r2, hb1⟩
    obtain rfl := r2 h1
    clear r2
    have b1 := b.trans (hb1.mono b.size)
    go_wp2
    go_ret2
    exact RetSl.none_ (Below.alloc b1 b1.size _)
end Go.Proofs.YthjdjpcomocffaaGreat
