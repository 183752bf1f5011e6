/-
  The law ShotTowed.
-/
import Derived.Test.YtfengddpfeneiaaGreatTL
import Derived.Test.YtfengddpfeneiaaGreatS28
namespace Go.Proofs.YtfengddpfeneiaaGreat
open Go.RowKit Go.Shelf
set_option linter.unusedSimpArgs false
set_option linter.unusedVariables false

theorem where_cases (s : Strm) (bs : List Bnd) (p : Pnt) (i : Nat) :
    (∃ er, er ≠ 0 ∧ whereR s bs p (axis i) = ([], er)) ∨ (errB s bs = 0 ∧ okPnt p = true ∧ whereR s bs p (axis i) = (farL s bs p i, 0) ∧ ∀ j, j < bs.length → okReg (zipR plusB (axisR i (nodeR s bs j)) (ofP p)) = true ∧ ∃ v, inR v (zipR plusB (axisR i (nodeR s bs j)) (ofP p))) := by
  by_cases he : errB s bs = 0
  · by_cases hp : okPnt p = true
    · rcases where_axis he hp i with h | h
      · exact .inl ⟨7, by decide, h⟩
      · exact .inr ⟨he, hp, h.1, h.2⟩
    · exact .inl ⟨10, by decide, where_out he hp⟩
  · exact .inl ⟨_, he, where_no he⟩
theorem where_later {s : Strm} {bs : List Bnd} (p : Pnt) (i : Nat) (he : errB s bs = 0) :
    whereR s bs p (axis i) = ([], 7) ∨ whereR s bs p (axis i) = ([], 10) ∨ (whereR s bs p (axis i) = (farL s bs p i, 0) ∧ ∀ j, j < bs.length → okReg (zipR plusB (axisR i (nodeR s bs j)) (ofP p)) = true ∧ ∃ v, inR v (zipR plusB (axisR i (nodeR s bs j)) (ofP p))) := by
  by_cases hp : okPnt p = true
  · rcases where_axis he hp i with h | h
    · exact .inl h
    · exact .inr (.inr h)
  · exact .inr (.inl (where_out he hp))
set_option maxRecDepth 100000 in
set_option maxHeartbeats 4000000 in
theorem ShotTowed_any (s : Strm) (A O : Option Addr) (n c no co : Nat) (bs : List Bnd) (p : Pnt) (na nb : Int) (w : World) (hs : SlAt w 0 5 Sec.cells A n c s.secs) (hl : SlAt w 0 2 Bnd.cells O no co bs) :
    Calls Tryz.prog 6 #[.agg #[.int .i64 s.head, .slice A n c, .int .i64 s.lane.lo, .int .i64 s.lane.hi, .int .i64 s.bend], .slice O no co, .agg #[.int .i64 p.x, .int .i64 p.y], .agg #[.int .i64 na, .int .i64 nb]] w fun e w' => e = .returned (.bool true) ∧ Below w.heap.size w w' := by
  have hR1 := fun W => Rest_any na 4 W (by omega)
  have hR2 := fun W => Rest_any nb 9000 W (by omega)
  obtain ⟨a1, a2⟩ := restS_bd na (many := 4) (by omega)
  obtain ⟨b1, b2⟩ := restS_bd nb (many := 9000) (by omega)
  generalize restS nb 9000 = k at *
  obtain ⟨i, hi⟩ : ∃ i : Nat, restS na 4 = (i : Int) := ⟨(restS na 4).toNat, by omega⟩
  rw [hi] at hR1 a1 a2
  clear hi
  have hi4 : i < 4 := by omega
  have hi5 : (i : Int) < 4 := a2
  have hwh := fun P W g1 g2 => Where_any s A O n c no co bs P (axis i) W g1 g2
  have hno := fun W g1 g2 => Nodes_any s A O n c no co 0 0 bs W g1 g2
  unfold RetSl at hwh hno
  obtain ⟨w1, hw1⟩ : ∃ w1, w1 = ((w.alloc (.cells #[.int .i64 s.head, .slice A n c, .int .i64 s.lane.lo, .int .i64 s.lane.hi, .int .i64 s.bend] 63)).alloc (.cells #[.int .i64 p.x, .int .i64 p.y] 23)).alloc (.cells #[.int .i64 na, .int .i64 nb] 64) := ⟨_, rfl⟩
  have k4 : Blk w1 w.heap.size 63 #[.int .i64 s.head, .slice A n c, .int .i64 s.lane.lo, .int .i64 s.lane.hi, .int .i64 s.bend] := by rw [hw1]; exact ((Blk.new _ _ _).alloc _).alloc _
  have k6 : Blk w1 (w.heap.size + 1) 23 #[.int .i64 p.x, .int .i64 p.y] := by rw [hw1]; exact (Blk.newAt (by simp)).alloc _
  have k7 : Blk w1 (w.heap.size + 1 + 1) 64 #[.int .i64 na, .int .i64 nb] := by rw [hw1]; exact Blk.newAt (by simp)
  have b : Below w.heap.size w w1 := by rw [hw1]; exact (((Below.refl _ _).alloc (Nat.le_refl _) _).alloc (by simp) _).alloc (by simp; omega) _
  have hs1 : SlAt w1 0 5 Sec.cells A n c s.secs := by rw [hw1]; exact ((hs.alloc _).alloc _).alloc _
  have hl1 : SlAt w1 0 2 Bnd.cells O no co bs := by rw [hw1]; exact ((hl.alloc _).alloc _).alloc _
  have hsz : w1.heap.size = w.heap.size + 1 + 1 + 1 := by rw [hw1]; simp
  clear hs hl
  go_enter Tryz.func6, Tryz.ntmps6
  go_wp2_with fail
  rw [← hw1]
  clear hw1
  have k9 : Blk (w1.alloc (.cells #[.int .i64 1, .int .i64 0, .int .i64 1, .int .i64 0, .int .i64 1, .int .i64 1, .int .i64 (-1), .int .i64 0, .int .i64 1, .int .i64 0, .int .i64 (-1), .int .i64 1] 65)) (w.heap.size + 1 + 1 + 1) 65 #[.int .i64 1, .int .i64 0, .int .i64 1, .int .i64 0, .int .i64 1, .int .i64 1, .int .i64 (-1), .int .i64 0, .int .i64 1, .int .i64 0, .int .i64 (-1), .int .i64 1] := Blk.newAt (by rw [hsz])
  have hbel := (Below.refl w1.heap.size w1).alloc (Nat.le_refl _) (.cells #[.int .i64 1, .int .i64 0, .int .i64 1, .int .i64 0, .int .i64 1, .int .i64 1, .int .i64 (-1), .int .i64 0, .int .i64 1, .int .i64 0, .int .i64 (-1), .int .i64 1] 65)
  replace k4 := k4.below hbel
  replace k6 := k6.below hbel
  replace k7 := k7.below hbel
  replace hs1 := hs1.below hbel
  replace hl1 := hl1.below hbel
  replace b := b.trans (hbel.mono b.size)
  clear hbel hsz
  generalize w1.alloc (.cells #[.int .i64 1, .int .i64 0, .int .i64 1, .int .i64 0, .int .i64 1, .int .i64 1, .int .i64 (-1), .int .i64 0, .int .i64 1, .int .i64 0, .int .i64 (-1), .int .i64 1] 65) = W at *
  generalize hg9 : w.heap.size + 1 + 1 + 1 = g9 at *
  have hcx : W.cell? ⟨g9, i * 3, none⟩ = some (.int .i64 (axis i).p) ∧ W.cell? ⟨g9, i * 3 + 1, none⟩ = some (.int .i64 (axis i).q) ∧ W.cell? ⟨g9, i * 3 + 2, none⟩ = some (.int .i64 (axis i).c) := by
    match i, hi4 with
    | 0, _ => exact ⟨k9.cell 0, k9.cell 1, k9.cell 2⟩
    | 1, _ => exact ⟨k9.cell 3, k9.cell 4, k9.cell 5⟩
    | 2, _ => exact ⟨k9.cell 6, k9.cell 7, k9.cell 8⟩
    | 3, _ => exact ⟨k9.cell 9, k9.cell 10, k9.cell 11⟩
  obtain ⟨x0, x1, x2⟩ := hcx
  have hax : -1 ≤ (axis i).p ∧ (axis i).p ≤ 1 ∧ -1 ≤ (axis i).q ∧ (axis i).q ≤ 1 := by
    match i, hi4 with
    | 0, _ => decide
    | 1, _ => decide
    | 2, _ => decide
    | 3, _ => decide
  obtain ⟨c7, f7, l7⟩ := k7.rules
  obtain ⟨c9, f9, l9⟩ := k9.rules
  go_wp2_with fail
  refine (hR1 _).mono ?_
  rintro e w' ⟨rfl, rfl⟩
  clear hR1
  have k10 := Blk.new W 25 #[.int .i64 (axis i).p, .int .i64 (axis i).q, .int .i64 (axis i).c]
  have hbel := (Below.refl W.heap.size W).alloc (Nat.le_refl _) (.cells #[.int .i64 (axis i).p, .int .i64 (axis i).q, .int .i64 (axis i).c] 25)
  go_upto_region 3 with fail
  clear c7 f7 l7 c9 f9 l9 x0 x1 x2 k9
  replace k4 := k4.below hbel
  replace k6 := k6.below hbel
  replace k7 := k7.below hbel
  replace hs1 := hs1.below hbel
  replace hl1 := hl1.below hbel
  replace b := b.trans (hbel.mono b.size)
  clear hbel
  generalize W.alloc (.cells #[.int .i64 (axis i).p, .int .i64 (axis i).q, .int .i64 (axis i).c] 25) = V at *
  generalize W.heap.size = g10 at *
  obtain ⟨c7, f7, l7⟩ := k7.rules
  go_wp2_with fail
  refine (hR2 _).mono ?_
  rintro e w' ⟨rfl, rfl⟩
  clear c7 f7 l7 k7 hR2
  obtain ⟨c4, f4, l4⟩ := k4.rules
  obtain ⟨c6, f6, l6⟩ := k6.rules
  obtain ⟨c10, f10, l10⟩ := k10.rules
  go_wp2_with fail
  refine (hwh p _ hs1 hl1).mono ?_
  rintro e W ⟨R, n1, c1, rfl, hR, hb⟩
  clear c4 f4 l4 c6 f6 l6 c10 f10 l10
  skip
  replace k4 := k4.below hb
  replace k6 := k6.below hb
  replace k10 := k10.below hb
  replace hs1 := hs1.below hb
  replace hl1 := hl1.below hb
  replace b := b.trans (hb.mono b.size)
  clear hb
  rcases where_cases s bs p i with ⟨er, her, hcase⟩ | ⟨he, hp, hcase, hok⟩
  · rw [hcase] at hR ⊢
    have her2 : (er != 0) = true := by rw [bne_iff_ne]; exact her
    obtain rfl : n1 = 0 := hR.len.symm
    go_wp2_with fail
    refine (works_any _).mono ?_
    rintro e W11 ⟨rfl, hb11⟩
    go_wp2_with fail
    go_ret
    exact ⟨rfl, b.trans (hb11.mono b.size)⟩
  · rw [hcase] at hR ⊢
    dsimp only at hR ⊢
    have hlenF : (farL s bs p i).length = no := by rw [show (farL s bs p i).length = bs.length by simp [farL]]; exact hl1.len
    obtain rfl : n1 = no := by have := hR.len; omega
    have hc0 : waysR p (axis i) (farL s bs p i) = (comeL s bs 0, 0) := by
      have := come_said (p := p) he hp i 0 (by rw [goS_zero]; exact hok)
      rwa [goS_zero] at this
    have hwy := fun W g => Ways_any p (axis i) (farL s bs p i) R n1 c1 0 W g
    unfold RetSl at hwy
    rw [hc0, come_none he] at hwy
    have hbl := Lib.hid hl1.len
    have hn8 : n1 ≤ 8 := by
      obtain ⟨hs, hb⟩ := errB_zero he
      have h8 := ok_head hs
      unfold headOk at h8
      have := okOffs_len hb
      have := hbl.out
      omega
    replace hR := hR.mono (Nat.zero_le _)
    clear hcase hc0 hok hlenF
    obtain ⟨c4, f4, l4⟩ := k4.rules
    obtain ⟨c6, f6, l6⟩ := k6.rules
    obtain ⟨c10, f10, l10⟩ := k10.rules
    go_wp2_with fail
    refine (hwy _ hR).mono ?_
    rintro e W ⟨T, n2, c2, rfl, hT, hb⟩
    clear c4 f4 l4 c6 f6 l6 c10 f10 l10
    skip
    replace k4 := k4.below hb
    replace k6 := k6.below hb
    replace k10 := k10.below hb
    replace hs1 := hs1.below hb
    replace hl1 := hl1.below hb
    replace b := b.trans (hb.mono b.size)
    clear hb
    clear hwy hR
    obtain rfl : n2 = n1 := by have := hT.len; have := hbl.out; simp at *; omega
    go_wp2_with fail
    go_loopw [15] (fun j wr => ∃ q : Nat, j = .int .i64 (q : Int) ∧ q ≤ n2 ∧ Below W.heap.size W wr) (fun j wr => n2 - (intOf j).toNat)
    case atStart => exact ⟨0, rfl, Nat.zero_le _, Below.refl _ _⟩
    case round =>
      obtain ⟨q, rfl, hq, hb⟩ := hrel
      by_cases hlt : q < n2
      · have hq0 : (0 : Int) ≤ (q : Int) := by omega
        have hq1 : (q : Int) < (n2 : Int) := by omega
        have u9 := IntWalk.i64_in ((q : Int) + 1) (by omega)
        have hz : ((List.range bs.length).map fun _ => (⟨0, 0⟩ : Bnd))[q]? = some ⟨0, 0⟩ := mapRange_at (fun _ => (⟨0, 0⟩ : Bnd)) (by have := hbl.out; omega)
        obtain ⟨bt, ot, hA, -, -, e0, e1⟩ := (hT.below hb).bnd hz
        subst hA
        clear hz
        go_wp2_with fail
        go_roundw
        case rel => exact ⟨q + 1, by go_num, by omega, hb⟩
        case measure => simp [intOf]; omega
      · obtain rfl : q = n2 := by omega
        clear hT
        replace k4 := k4.below hb
        replace k6 := k6.below hb
        replace k10 := k10.below hb
        replace hs1 := hs1.below hb
        replace hl1 := hl1.below hb
        replace b := b.trans (hb.mono b.size)
        clear hb
        have hno2 : nodesR s bs = (nodesL s bs, 0) := by unfold nodesR; rw [if_pos he]
        rw [hno2] at hno
        clear hno2
        obtain ⟨c4, f4, l4⟩ := k4.rules
        obtain ⟨c6, f6, l6⟩ := k6.rules
        obtain ⟨c10, f10, l10⟩ := k10.rules
        go_wp2_with fail
        refine (hno _ hs1 hl1).mono ?_
        rintro e W ⟨N1, n3, c3, rfl, hN, hb⟩
        clear c4 f4 l4 c6 f6 l6 c10 f10 l10
        skip
        replace k4 := k4.below hb
        replace k6 := k6.below hb
        replace k10 := k10.below hb
        replace hs1 := hs1.below hb
        replace hl1 := hl1.below hb
        replace b := b.trans (hb.mono b.size)
        clear hb
        clear hno
        obtain rfl : n3 = q := by have := hN.len; have := hbl.out; simp [nodesL] at *; omega
        have hpb := pnt_bd hp
        obtain ⟨d1, d2, d3, d4⟩ := hax
        have m1 := smul_bd (A := 9000) (B := 1) (show -9000 ≤ k by omega) (show k ≤ 9000 by omega) d1 d2
        have m2 := smul_bd (A := 9000) (B := 1) (show -9000 ≤ k by omega) (show k ≤ 9000 by omega) d3 d4
        have v1 := IntWalk.i64_in (k * (axis i).p) (by omega)
        have v2 := IntWalk.i64_in (k * (axis i).q) (by omega)
        have v3 := IntWalk.i64_in (p.x + k * (axis i).p) (by omega)
        have v4 := IntWalk.i64_in (p.y + k * (axis i).q) (by omega)
        have hw2 := fun W g1 g2 => hwh (goS p i k) W g1 g2
        have hlat := where_later (goS p i k) i he
        clear hwh m1 m2 d1 d2 d3 d4 hpb
        generalize hR2e : whereR s bs (goS p i k) (axis i) = wr2 at *
        simp only [goS] at hw2
        obtain ⟨c4, f4, l4⟩ := k4.rules
        obtain ⟨c6, f6, l6⟩ := k6.rules
        obtain ⟨c10, f10, l10⟩ := k10.rules
        go_wp2_with fail
        refine (hw2 _ hs1 hl1).mono ?_
        rintro e W ⟨R2, n4, c4x, rfl, hR2, hb⟩
        clear c4 f4 l4 c6 f6 l6 c10 f10 l10
        replace hN := hN.below hb
        replace k4 := k4.below hb
        replace k6 := k6.below hb
        replace k10 := k10.below hb
        replace hs1 := hs1.below hb
        replace hl1 := hl1.below hb
        replace b := b.trans (hb.mono b.size)
        clear hb
        clear hw2 v1 v2 v3 v4
        rcases hlat with hcase | hcase | ⟨hcase, hok⟩
        · rw [hcase] at hR2 ⊢
          go_wp2_with fail
          refine (works_any _).mono ?_
          rintro e W11 ⟨rfl, hb11⟩
          go_wp2_with fail
          go_ret
          exact ⟨rfl, b.trans (hb11.mono b.size)⟩
        · rw [hcase] at hR2 ⊢
          go_wp2_with fail
          refine (works_any _).mono ?_
          rintro e W11 ⟨rfl, hb11⟩
          go_wp2_with fail
          go_ret
          exact ⟨rfl, b.trans (hb11.mono b.size)⟩
        · rw [hcase] at hR2 ⊢
          dsimp only at hR2 ⊢
          obtain rfl : n4 = n3 := by have := hR2.len; have := hbl.out; simp [farL] at *; omega
          have hc1 := come_said (p := p) he hp i k hok
          have hwy := fun W g => Ways_any p (axis i) (farL s bs (goS p i k) i) R2 n4 c4x 0 W g
          unfold RetSl at hwy
          rw [hc1] at hwy
          replace hR2 := hR2.mono (Nat.zero_le _)
          clear hc1 hok hcase hR2e
          obtain ⟨c4, f4, l4⟩ := k4.rules
          obtain ⟨c6, f6, l6⟩ := k6.rules
          obtain ⟨c10, f10, l10⟩ := k10.rules
          go_wp2_with fail
          refine (hwy _ hR2).mono ?_
          rintro e W ⟨T2, n5, c5x, rfl, hT2, hb⟩
          clear c4 f4 l4 c6 f6 l6 c10 f10 l10
          replace hN := hN.below hb
          replace k4 := k4.below hb
          replace k6 := k6.below hb
          replace k10 := k10.below hb
          replace hs1 := hs1.below hb
          replace hl1 := hl1.below hb
          replace b := b.trans (hb.mono b.size)
          clear hb
          clear hwy hR2
          obtain rfl : n5 = n4 := by have := hT2.len; have := hbl.out; simp [comeL] at *; omega
          obtain ⟨hso, hbo⟩ := errB_zero he
          have hnt := Lib.hid (fun (j : Nat) (hj : j < bs.length) => node_tight hso hbo hj)
          replace hso := Lib.hid hso
          replace hbo := Lib.hid hbo
          replace hp := Lib.hid hp
          go_wp2_with fail
          go_loopw [19] (fun j wr => ∃ q : Nat, j = .int .i64 (q : Int) ∧ q ≤ n5 ∧ Below W.heap.size W wr) (fun j wr => n5 - (intOf j).toNat)
          case atStart => exact ⟨0, rfl, Nat.zero_le _, Below.refl _ _⟩
          case round =>
            obtain ⟨q, rfl, hq, hb⟩ := hrel
            by_cases hlt : q < n5
            · have hq0 : (0 : Int) ≤ (q : Int) := by omega
              have hq1 : (q : Int) < (n5 : Int) := by omega
              have u9 := IntWalk.i64_in ((q : Int) + 1) (by omega)
              have hqb : q < bs.length := by have := hbl.out; omega
              have hz : (comeL s bs k)[q]? = some ⟨max 0 (k + (nodeR s bs q).x.lo), max 0 (k + (nodeR s bs q).x.hi)⟩ := mapRange_at _ hqb
              have hz2 : (nodesL s bs)[q]? = some (nodeR s bs q) := nodesL_at s bs hqb
              obtain ⟨-, ho, o1, o2, -, -⟩ := hnt.out q hqb
              rw [okReg_iff] at ho
              obtain ⟨⟨o3, o4, o5⟩, -, -, -⟩ := ho
              obtain ⟨bt, ot, hA, -, -, e0, e1⟩ := (hT2.below hb).bnd hz
              obtain ⟨bn, on, hB, -, -, f0, f1, -, -, -, -, -, -⟩ := (hN.below hb).reg hz2
              subst hA hB
              clear hz hz2
              generalize (nodeR s bs q).x.lo = lo at *
              generalize (nodeR s bs q).x.hi = hi at *
              have v1 := IntWalk.i64_in (k + lo) (by omega)
              have v2 := IntWalk.i64_in (k + hi) (by omega)
              have hmax := max2_int
              go_wp2_with fail
              go_quiet (fail)
              go_wp2_with fail
              go_roundw
              case rel => exact ⟨q + 1, by go_num, by omega, below_drewN hb _⟩
              case measure => simp [intOf]; omega
            · obtain rfl : q = n5 := by omega
              replace b := b.trans (hb.mono b.size)
              go_wp2_with fail
              refine (works_any _).mono ?_
              rintro e W11 ⟨rfl, hb11⟩
              go_wp2_with fail
              go_ret
              exact ⟨rfl, b.trans (hb11.mono b.size)⟩
end Go.Proofs.YtfengddpfeneiaaGreat
