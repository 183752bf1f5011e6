/-
  Walks: a chosen place; the region within 2.
-/
import Derived.Test.YtjiaepphnddpoaaG9
import Derived.Test.YtjiaepphnddpoaaH2
namespace Go.Proofs.Ytjiaepphnddpoaa
open Go.RowKit Go.Shelf
set_option linter.unusedSimpArgs false
set_option linter.unusedVariables false

set_option maxRecDepth 100000 in
set_option maxHeartbeats 2000000 in
theorem chosen_any (r t : Reg) (a b : Int) (w : World) (hr : okReg r = true) (ht : tightO r = some t) :
    Calls Try.prog 50 #[.agg (regA r), .int .i64 a, .int .i64 b] w fun e w' => e = .returned (.tuple #[.agg #[.int .i64 (chosenP t a b).x, .int .i64 (chosenP t a b).y], .bool true]) ∧ Below w.heap.size w w' := by
  have hti := fun W => Tight_any r W
  have e1 : tightR r = (t, 0) := by rw [tightR, if_pos hr, ht]; rfl
  simp only [e1] at hti
  have hok := okReg_iff.1 (tight_ok hr ht)
  have hT := tight_tight ht
  have hx := restS_bd a (many := t.x.hi - t.x.lo + 1) (by omega)
  have hrow := tight_row hT (x := t.x.lo + restS a (t.x.hi - t.x.lo + 1)) (by omega) (by omega)
  have hc : chosenP t a b = ⟨t.x.lo + restS a (t.x.hi - t.x.lo + 1), (rowB t (t.x.lo + restS a (t.x.hi - t.x.lo + 1))).fr + restS b ((rowB t (t.x.lo + restS a (t.x.hi - t.x.lo + 1))).to - (rowB t (t.x.lo + restS a (t.x.hi - t.x.lo + 1))).fr + 1)⟩ := rfl
  rw [hc]
  have hR1 := fun W => Rest_any a (t.x.hi - t.x.lo + 1) W (by omega)
  have u1 := IntWalk.i64_in (t.x.hi - t.x.lo) (by omega)
  have u2 := IntWalk.i64_in (t.x.hi - t.x.lo + 1) (by omega)
  have hfr : (rowB t (t.x.lo + restS a (t.x.hi - t.x.lo + 1))).fr = max t.y.lo (max (t.s.lo - (t.x.lo + restS a (t.x.hi - t.x.lo + 1))) (t.x.lo + restS a (t.x.hi - t.x.lo + 1) - t.d.hi)) := rfl
  have hto : (rowB t (t.x.lo + restS a (t.x.hi - t.x.lo + 1))).to = min t.y.hi (min (t.s.hi - (t.x.lo + restS a (t.x.hi - t.x.lo + 1))) (t.x.lo + restS a (t.x.hi - t.x.lo + 1) - t.d.lo)) := rfl
  have hxb : -32768 ≤ t.x.lo + restS a (t.x.hi - t.x.lo + 1) ∧ t.x.lo + restS a (t.x.hi - t.x.lo + 1) ≤ 32768 := by omega
  generalize rowB t (t.x.lo + restS a (t.x.hi - t.x.lo + 1)) = q at *
  generalize restS a (t.x.hi - t.x.lo + 1) = k at *
  obtain ⟨x, hX⟩ : ∃ x, t.x.lo + k = x := ⟨_, rfl⟩
  rw [hX] at hfr hto hxb ⊢
  obtain ⟨qx, fr, to⟩ := q
  dsimp only at hfr hto hrow ⊢
  have hw3 : Hid (wrap64 (t.x.lo + k) = x) := by show _ = _; rw [hX]; unfold wrap64; omega
  replace hX := Lib.hid hX
  have v1 := IntWalk.i64_in (t.s.lo - x) (by omega)
  have v2 := IntWalk.i64_in (x - t.d.hi) (by omega)
  have v3 := IntWalk.i64_in (t.s.hi - x) (by omega)
  have v4 := IntWalk.i64_in (x - t.d.lo) (by omega)
  have hmax3 := max3_int
  have hmin3 := min3_int
  have hfb : -200000 ≤ fr ∧ fr ≤ 200000 ∧ -200000 ≤ to ∧ to ≤ 200000 := by omega
  have hR2 := fun W => Rest_any b (to - fr + 1) W (by omega)
  have hy := restS_bd b (many := to - fr + 1) (by omega)
  replace hfr := hfr.symm
  replace hto := hto.symm
  simp only [regA] at hti ⊢
  clear hx hT hok e1 hc hr ht
  replace v1 := Lib.hid v1
  replace v2 := Lib.hid v2
  replace v3 := Lib.hid v3
  replace v4 := Lib.hid v4
  replace hfr := Lib.hid hfr
  replace hto := Lib.hid hto
  obtain ⟨w1, hw1⟩ : ∃ w1, w1 = (w.alloc (.cells #[.int .i64 r.x.lo, .int .i64 r.x.hi, .int .i64 r.y.lo, .int .i64 r.y.hi, .int .i64 r.s.lo, .int .i64 r.s.hi, .int .i64 r.d.lo, .int .i64 r.d.hi] 86)).alloc (.cells #[.int .i64 0, .int .i64 0] 88) := ⟨_, rfl⟩
  have k3 : Blk w1 w.heap.size 86 #[.int .i64 r.x.lo, .int .i64 r.x.hi, .int .i64 r.y.lo, .int .i64 r.y.hi, .int .i64 r.s.lo, .int .i64 r.s.hi, .int .i64 r.d.lo, .int .i64 r.d.hi] := by rw [hw1]; exact (Blk.new _ _ _).alloc _
  have k6 : Blk w1 (w.heap.size + 1) 88 #[.int .i64 0, .int .i64 0] := by rw [hw1]; exact Blk.newAt (by simp)
  have hb : Below w.heap.size w w1 := by rw [hw1]; exact ((Below.refl _ _).alloc (Nat.le_refl _) _).alloc (by simp) _
  go_enter Try.func50, Try.ntmps50
  go_wp2_with fail
  rw [← hw1]
  clear hw1
  refine (hti _).mono ?_
  rintro e W ⟨rfl, hbel⟩
  replace k3 := k3.below hbel
  replace k6 := k6.below hbel
  replace hb := hb.trans (hbel.mono hb.size)
  clear hbel
  go_wp2_with fail
  have k8 := Blk.new W 86 #[.int .i64 t.x.lo, .int .i64 t.x.hi, .int .i64 t.y.lo, .int .i64 t.y.hi, .int .i64 t.s.lo, .int .i64 t.s.hi, .int .i64 t.d.lo, .int .i64 t.d.hi]
  have hbel := (Below.refl W.heap.size W).alloc (Nat.le_refl _) (.cells #[.int .i64 t.x.lo, .int .i64 t.x.hi, .int .i64 t.y.lo, .int .i64 t.y.hi, .int .i64 t.s.lo, .int .i64 t.s.hi, .int .i64 t.d.lo, .int .i64 t.d.hi] 86)
  have hg8 : w.heap.size + 1 < W.heap.size := k6.lt
  replace k3 := k3.below hbel
  replace k6 := k6.below hbel
  replace hb := hb.trans (hbel.mono hb.size)
  clear hbel
  generalize W.alloc (.cells #[.int .i64 t.x.lo, .int .i64 t.x.hi, .int .i64 t.y.lo, .int .i64 t.y.hi, .int .i64 t.s.lo, .int .i64 t.s.hi, .int .i64 t.d.lo, .int .i64 t.d.hi] 86) = W2 at *
  generalize W.heap.size = g8 at *
  obtain ⟨c8, f8, l8⟩ := k8.rules
  go_quiet ((go_at_call 34; with_reducible exact Calls.quiet_of_same (flip_w (hR1 _))))
  clear c8 f8 l8 u1 u2 hR1
  rw [hw3.out]
  replace k8 := k8.drewN nq
  replace k6 := k6.drewN nq
  replace hb := below_drewN hb nq
  generalize W2.drewN nq = W3 at *
  have v1 := v1.out
  have v2 := v2.out
  have v3 := v3.out
  have v4 := v4.out
  have hfr := hfr.out
  have hto := hto.out
  obtain ⟨c8, f8, l8⟩ := k8.rules
  go_wp2_with fail
  go_quiet (fail)
  try rw [hfr]
  try rw [hto]
  clear c8 f8 l8 v1 v2 v3 v4 hfr hto k8 k3
  replace k6 := k6.drewN nq
  replace hb := below_drewN hb nq
  generalize W3.drewN nq = W4 at *
  go_wp2_with fail
  refine (hR2 _).mono ?_
  clear hR2
  rintro e W' ⟨rfl, rfl⟩
  have kz := (k6.set_ 0 (.int .i64 x)).set_ 1 (.int .i64 (fr + restS b (to - fr + 1)))
  simp only [List.setIfInBounds_toArray, List.set_cons_zero, List.set_cons_succ] at kz
  have bz := (hb.setCell (p := ⟨w.heap.size + 1, 0, none⟩) (by dsimp only; omega) (.int .i64 x)).setCell (p := ⟨w.heap.size + 1, 1, none⟩) (by dsimp only; omega) (.int .i64 (fr + restS b (to - fr + 1)))
  obtain ⟨wz, hwz⟩ : ∃ q, q = (W4.setCell ⟨w.heap.size + 1, 0, none⟩ (.int .i64 x)).setCell ⟨w.heap.size + 1, 1, none⟩ (.int .i64 (fr + restS b (to - fr + 1))) := ⟨_, rfl⟩
  rw [← hwz] at kz bz
  obtain ⟨c6, f6, l6⟩ := k6.rules
  clear k6 hb
  go_wp2
  rw [← hwz]
  clear hwz c6 f6 l6
  obtain ⟨c6, f6, l6⟩ := kz.rules
  exact bodyPost_ret (v := .tuple #[.agg #[.int .i64 x, .int .i64 (fr + restS b (to - fr + 1))], .bool true]) (by simp [results, Try.results50, go_sem, c6]) rfl ⟨rfl, bz⟩
set_option maxRecDepth 100000 in
set_option maxHeartbeats 400000 in
theorem farthest2_any (w : World) : Calls Try.prog 103 #[.int .i64 2] w fun e w' => e = .returned (.int .i64 2) ∧ w = w' := by
  have hr := fun W => root_any 8 W (by omega) (by omega)
  have e8 : rootS 8 = 2 := by decide
  simp only [e8] at hr
  clear e8
  go_enter Try.func103, Try.ntmps103
  go_wp2_with fail
  refine (hr _).mono ?_
  rintro e w' ⟨rfl, rfl⟩
  clear hr
  go_wp2_with fail
  go_loopw [3] (fun i wr => i = .int .i64 2 ∧ wr = w) (fun i wr => 0)
  case atStart => exact ⟨rfl, rfl⟩
  case round =>
    obtain ⟨rfl, rfl⟩ := hrel
    go_wp2
    go_ret
    exact ⟨rfl, rfl⟩
def wideK (t : Reg) : Nat → Reg
  | 0 => t
  | 1 => { t with x := wideB 32768 2 t.x }
  | 2 => { t with x := wideB 32768 2 t.x, y := wideB 32768 2 t.y }
  | 3 => { t with x := wideB 32768 2 t.x, y := wideB 32768 2 t.y, s := wideB 65536 2 t.s }
  | _ => wideR 2 2 t
set_option maxRecDepth 100000 in
set_option maxHeartbeats 4000000 in
theorem Reach2_any (r t N : Reg) (w : World) (hr : okReg r = true) (ht : tightO r = some t) (hN : tightO (wideR 2 2 t) = some N) :
    Calls Try.prog 51 #[.agg (regA r), .int .i64 2] w fun e w' => e = .returned (.tuple #[.agg (regA N), .int .i64 0]) ∧ Below w.heap.size w w' := by
  have i0 : ∀ (a b c d a' b' c' d' : Value) w, (Instr.index 151 (.agg #[a, a', b, b', c, c', d, d']) (.int .i64 0)).run Try.prog w = .ok (.agg #[a, a']) w := fun _ _ _ _ _ _ _ _ _ => by kernel_rfl
  have i1 : ∀ (a b c d a' b' c' d' : Value) w, (Instr.index 151 (.agg #[a, a', b, b', c, c', d, d']) (.int .i64 1)).run Try.prog w = .ok (.agg #[b, b']) w := fun _ _ _ _ _ _ _ _ _ => by kernel_rfl
  have i2 : ∀ (a b c d a' b' c' d' : Value) w, (Instr.index 151 (.agg #[a, a', b, b', c, c', d, d']) (.int .i64 2)).run Try.prog w = .ok (.agg #[c, c']) w := fun _ _ _ _ _ _ _ _ _ => by kernel_rfl
  have i3 : ∀ (a b c d a' b' c' d' : Value) w, (Instr.index 151 (.agg #[a, a', b, b', c, c', d, d']) (.int .i64 3)).run Try.prog w = .ok (.agg #[d, d']) w := fun _ _ _ _ _ _ _ _ _ => by kernel_rfl
  have hchk := fun W => rCheck_any r W
  have hk : chkReg r = 0 := by simp [chkReg, hr]
  simp only [hk] at hchk
  have hbo := fun W => rbounds_any r W
  have hti := fun W => tight_any r W hr
  simp only [ht, doneR] at hti
  have htk := tight_ok hr ht
  have hb8 := okReg_iff.1 htk
  have hti2 := fun W => tight_any (wideR 2 2 t) W (wide_ok htk)
  simp only [hN, doneR] at hti2
  have hdo := fun W => done_any N 0 W
  simp only [if_pos] at hdo
  have hwi := fun W => rwithin_any 2 0 32768 W
  have ewi : decide ((0 : Int) ≤ 2 ∧ (2 : Int) ≤ 32768) = true := by decide
  simp only [ewi] at hwi
  simp only [regA] at hchk hbo hti hdo ⊢
  clear hk htk ewi hr ht hN
  replace hti2 := Lib.hid hti2
  obtain ⟨⟨x1, x2, x3⟩, ⟨y1, y2, y3⟩, ⟨s1, s2, s3⟩, ⟨d1, d2, d3⟩⟩ := hb8
  obtain ⟨w1, hw1⟩ : ∃ w1, w1 = (w.alloc (.cells #[.int .i64 r.x.lo, .int .i64 r.x.hi, .int .i64 r.y.lo, .int .i64 r.y.hi, .int .i64 r.s.lo, .int .i64 r.s.hi, .int .i64 r.d.lo, .int .i64 r.d.hi] 86)).alloc (.cells #[.int .i64 0, .int .i64 0, .int .i64 0, .int .i64 0, .int .i64 0, .int .i64 0, .int .i64 0, .int .i64 0] 86) := ⟨_, rfl⟩
  have k2 : Blk w1 w.heap.size 86 #[.int .i64 r.x.lo, .int .i64 r.x.hi, .int .i64 r.y.lo, .int .i64 r.y.hi, .int .i64 r.s.lo, .int .i64 r.s.hi, .int .i64 r.d.lo, .int .i64 r.d.hi] := by rw [hw1]; exact (Blk.new _ _ _).alloc _
  have k4 : Blk w1 (w.heap.size + 1) 86 #[.int .i64 0, .int .i64 0, .int .i64 0, .int .i64 0, .int .i64 0, .int .i64 0, .int .i64 0, .int .i64 0] := by rw [hw1]; exact Blk.newAt (by simp)
  have hb : Below w.heap.size w w1 := by rw [hw1]; exact ((Below.refl _ _).alloc (Nat.le_refl _) _).alloc (by simp) _
  go_enter Try.func51, Try.ntmps51
  go_wp2_with fail
  rw [← hw1]
  clear hw1
  refine (hchk _).mono ?_
  rintro e W ⟨rfl, hbel⟩
  replace k2 := k2.below hbel
  replace k4 := k4.below hbel
  replace hb := hb.trans (hbel.mono hb.size)
  clear hbel hchk
  go_wp2_with fail
  refine (hwi _).mono ?_
  rintro e W' ⟨rfl, rfl⟩
  clear hwi
  obtain ⟨c2, f2, l2⟩ := k2.rules
  go_wp2_with fail
  clear c2 f2 l2
  refine (hbo _).mono ?_
  rintro e W ⟨rfl, hbel⟩
  replace k2 := k2.below hbel
  replace k4 := k4.below hbel
  replace hb := hb.trans (hbel.mono hb.size)
  clear hbel hbo
  go_wp2_with fail
  refine (hti _).mono ?_
  rintro e W ⟨rfl, hbel⟩
  replace k2 := k2.below hbel
  replace k4 := k4.below hbel
  replace hb := hb.trans (hbel.mono hb.size)
  clear hbel hti
  go_wp2_with fail
  have k7 := Blk.new W 151 #[.int .i64 t.x.lo, .int .i64 t.x.hi, .int .i64 t.y.lo, .int .i64 t.y.hi, .int .i64 t.s.lo, .int .i64 t.s.hi, .int .i64 t.d.lo, .int .i64 t.d.hi]
  have hbel := (Below.refl W.heap.size W).alloc (Nat.le_refl _) (.cells #[.int .i64 t.x.lo, .int .i64 t.x.hi, .int .i64 t.y.lo, .int .i64 t.y.hi, .int .i64 t.s.lo, .int .i64 t.s.hi, .int .i64 t.d.lo, .int .i64 t.d.hi] 151)
  have hg7 : w.heap.size + 1 < W.heap.size := k4.lt
  replace k2 := k2.below hbel
  replace k4 := k4.below hbel
  replace hb := hb.trans (hbel.mono hb.size)
  clear hbel
  generalize W.alloc (.cells #[.int .i64 t.x.lo, .int .i64 t.x.hi, .int .i64 t.y.lo, .int .i64 t.y.hi, .int .i64 t.s.lo, .int .i64 t.s.hi, .int .i64 t.d.lo, .int .i64 t.d.hi] 151) = W2 at *
  generalize W.heap.size = g7 at *
  refine (farthest2_any _).mono ?_
  rintro e W' ⟨rfl, rfl⟩
  have l7' := Lib.hid k7.lt
  obtain ⟨c7, f7, l7⟩ := k7.rules
  go_wp2_with fail
  clear c7 f7 l7
  have k10 := Blk.new W2 164 #[.int .i64 32768, .int .i64 32768, .int .i64 65536, .int .i64 65536]
  have hbel := (Below.refl W2.heap.size W2).alloc (Nat.le_refl _) (.cells #[.int .i64 32768, .int .i64 32768, .int .i64 65536, .int .i64 65536] 164)
  replace k2 := k2.below hbel
  replace k4 := k4.below hbel
  replace hb := hb.trans (hbel.mono hb.size)
  replace k7 := k7.below hbel
  clear hbel
  have hs10 : (W2.alloc (.cells #[.int .i64 32768, .int .i64 32768, .int .i64 65536, .int .i64 65536] 164)).heap.size = W2.heap.size + 1 := World.size_alloc _ _
  have hg10 : g7 < W2.heap.size := l7'.out
  generalize W2.alloc (.cells #[.int .i64 32768, .int .i64 32768, .int .i64 65536, .int .i64 65536] 164) = W3 at *
  have k11 := Blk.new W3 165 #[.int .i64 2, .int .i64 2, .int .i64 2, .int .i64 2]
  have hbel := (Below.refl W3.heap.size W3).alloc (Nat.le_refl _) (.cells #[.int .i64 2, .int .i64 2, .int .i64 2, .int .i64 2] 165)
  replace k2 := k2.below hbel
  replace k4 := k4.below hbel
  replace hb := hb.trans (hbel.mono hb.size)
  replace k7 := k7.below hbel
  replace k10 := k10.below hbel
  clear hbel
  generalize W3.alloc (.cells #[.int .i64 2, .int .i64 2, .int .i64 2, .int .i64 2] 165) = W5 at *
  rw [hs10] at k11
  clear hs10
  generalize hg11 : W2.heap.size + 1 = g11 at *
  generalize W2.heap.size = g10 at *
  go_loopw [43] (fun j wr => ∃ k : Nat, j = jv k ∧ k ≤ 4 ∧ Blk wr g7 151 (regA (wideK t k)) ∧ Blk wr (w.heap.size + 1) 86 #[.int .i64 0, .int .i64 0, .int .i64 0, .int .i64 0, .int .i64 0, .int .i64 0, .int .i64 0, .int .i64 0] ∧ Blk wr g10 164 #[.int .i64 32768, .int .i64 32768, .int .i64 65536, .int .i64 65536] ∧ Blk wr g11 165 #[.int .i64 2, .int .i64 2, .int .i64 2, .int .i64 2] ∧ Below w.heap.size w wr) (fun j wr => 4 - (intOf j).toNat)
  case atStart => exact ⟨0, rfl, by omega, k7, k4, k10, k11, hb⟩
  case round =>
    clear k7 k4 k10 k11 hb k2
    obtain ⟨k, rfl, hk, k7, k4, k10, k11, hb⟩ := hrel
    match k, hk with
    | 0, _ =>
      have hI1 := fun W => into_any 32768 (t.x.lo - 2) W (by omega) (by omega)
      have hI2 := fun W => into_any 32768 (t.x.hi + 2) W (by omega) (by omega)
      have u1 := IntWalk.i64_in (t.x.lo - 2) (by omega)
      have u2 := IntWalk.i64_in (t.x.hi + 2) (by omega)
      simp only [regA, wideK] at k7
      rw [show jv 0 = .int .i64 0 from rfl]
      go_wp2_with fail
      have k13 := Blk.new wr 24 #[.int .i64 t.x.lo, .int .i64 t.x.hi]
      have hbel := (Below.refl wr.heap.size wr).alloc (Nat.le_refl _) (.cells #[.int .i64 t.x.lo, .int .i64 t.x.hi] 24)
      have hl7 := k7.lt
      replace k7 := k7.below hbel
      replace k4 := k4.below hbel
      replace k10 := k10.below hbel
      replace k11 := k11.below hbel
      replace hb := hb.trans (hbel.mono hb.size)
      clear hbel
      generalize wr.alloc (.cells #[.int .i64 t.x.lo, .int .i64 t.x.hi] 24) = Wa at *
      generalize wr.heap.size = g13 at *
      refine wp_held_np (fun w' : World => (∀ j, w'.cell? ⟨g10, j, none⟩ = #[Value.int .i64 32768, .int .i64 32768, .int .i64 65536, .int .i64 65536][j]?) ∧ (∀ j, w'.cell? ⟨g11, j, none⟩ = #[Value.int .i64 2, .int .i64 2, .int .i64 2, .int .i64 2][j]?) ∧ (∀ j, w'.cell? ⟨g13, j, none⟩ = #[Value.int .i64 t.x.lo, .int .i64 t.x.hi][j]?)) (by kernel_rfl) ?_
      replace k7 := k7.drew
      replace k4 := k4.drew
      replace k10 := k10.drew
      replace k11 := k11.drew
      replace k13 := k13.drew
      replace hb := hb.drew
      generalize Wa.drew = wd at *
      have hS : (fun w' : World => (∀ j, w'.cell? ⟨g10, j, none⟩ = #[Value.int .i64 32768, .int .i64 32768, .int .i64 65536, .int .i64 65536][j]?) ∧ (∀ j, w'.cell? ⟨g11, j, none⟩ = #[Value.int .i64 2, .int .i64 2, .int .i64 2, .int .i64 2][j]?) ∧ (∀ j, w'.cell? ⟨g13, j, none⟩ = #[Value.int .i64 t.x.lo, .int .i64 t.x.hi][j]?)) wd := ⟨k10.cell, k11.cell, k13.cell⟩
      refine held_take (i := 0) (v := ?_) 47 rfl rfl (by kernel_rfl) (by kernel_rfl) (by kernel_rfl) (fun _ _ _ h => h) (Or.inl ⟨by rfl, ?_⟩) hS ?_
      rotate_left 1
      · intro w' hSw
        try dsimp only at hSw
        obtain ⟨q1, q2, q3⟩ := hSw
        go_simp
        all_goals with_reducible rfl
      try simp only [Act.put, List.setIfInBounds_toArray, List.set_cons_zero, List.set_cons_succ]
      refine held_take (i := 1) (v := ?_) 48 rfl rfl (by kernel_rfl) (by kernel_rfl) (by kernel_rfl) (fun _ _ _ h => h) (Or.inl ⟨by rfl, ?_⟩) hS ?_
      rotate_left 1
      · intro w' hSw
        try dsimp only at hSw
        obtain ⟨q1, q2, q3⟩ := hSw
        go_simp
        all_goals with_reducible rfl
      try simp only [Act.put, List.setIfInBounds_toArray, List.set_cons_zero, List.set_cons_succ]
      refine held_take (i := 2) (v := ?_) 49 rfl rfl (by kernel_rfl) (by kernel_rfl) (by kernel_rfl) (fun _ _ _ h => h) (Or.inl ⟨by rfl, ?_⟩) hS ?_
      rotate_left 1
      · intro w' hSw
        try dsimp only at hSw
        obtain ⟨q1, q2, q3⟩ := hSw
        go_simp
        all_goals with_reducible rfl
      try simp only [Act.put, List.setIfInBounds_toArray, List.set_cons_zero, List.set_cons_succ]
      refine held_take (i := 3) (v := ?_) 50 rfl rfl (by kernel_rfl) (by kernel_rfl) (by kernel_rfl) (fun _ _ _ h => h) (Or.inl ⟨by rfl, ?_⟩) hS ?_
      rotate_left 1
      · intro w' hSw
        try dsimp only at hSw
        obtain ⟨q1, q2, q3⟩ := hSw
        go_simp
        all_goals with_reducible rfl
      try simp only [Act.put, List.setIfInBounds_toArray, List.set_cons_zero, List.set_cons_succ]
      refine held_take (i := 4) (v := ?_) 51 rfl rfl (by kernel_rfl) (by kernel_rfl) (by kernel_rfl) (fun _ _ _ h => h) (Or.inl ⟨by rfl, ?_⟩) hS ?_
      rotate_left 1
      · intro w' hSw
        try dsimp only at hSw
        obtain ⟨q1, q2, q3⟩ := hSw
        go_simp
        all_goals with_reducible rfl
      try simp only [Act.put, List.setIfInBounds_toArray, List.set_cons_zero, List.set_cons_succ]
      refine held_take (i := 5) (v := ?_) 52 rfl rfl (by kernel_rfl) (by kernel_rfl) (by kernel_rfl) (fun _ _ _ h => h) (Or.inl ⟨by rfl, ?_⟩) hS ?_
      rotate_left 1
      · intro w' hSw
        try dsimp only at hSw
        obtain ⟨q1, q2, q3⟩ := hSw
        go_simp
        all_goals with_reducible rfl
      try simp only [Act.put, List.setIfInBounds_toArray, List.set_cons_zero, List.set_cons_succ]
      refine held_take (i := 6) (v := ?_) 53 rfl rfl (by kernel_rfl) (by kernel_rfl) (by kernel_rfl) (fun _ _ _ h => h) (Or.inl ⟨by rfl, ?_⟩) hS ?_
      rotate_left 1
      · intro w' hSw
        try dsimp only at hSw
        obtain ⟨q1, q2, q3⟩ := hSw
        go_simp
        all_goals with_reducible rfl
      try simp only [Act.put, List.setIfInBounds_toArray, List.set_cons_zero, List.set_cons_succ]
      refine held_take (i := 7) (v := ?_) 54 rfl rfl (by kernel_rfl) (by kernel_rfl) (by kernel_rfl) (fun _ _ _ h => h) (Or.inl ⟨by rfl, ?_⟩) hS ?_
      rotate_left 1
      · intro w' hSw
        try dsimp only at hSw
        obtain ⟨q1, q2, q3⟩ := hSw
        go_simp
        all_goals with_reducible rfl
      try simp only [Act.put, List.setIfInBounds_toArray, List.set_cons_zero, List.set_cons_succ]
      refine held_take (i := 8) (v := ?_) 55 rfl rfl (by kernel_rfl) (by kernel_rfl) (by kernel_rfl) (fun _ _ _ h => h) (Or.inl ⟨by rfl, ?_⟩) hS ?_
      rotate_left 1
      · intro w' hSw
        try dsimp only at hSw
        obtain ⟨q1, q2, q3⟩ := hSw
        go_simp
        all_goals with_reducible rfl
      try simp only [Act.put, List.setIfInBounds_toArray, List.set_cons_zero, List.set_cons_succ]
      refine held_take (i := 9) (v := ?_) 56 rfl rfl (by kernel_rfl) (by kernel_rfl) (by kernel_rfl) (fun _ _ _ h => h) (Or.inl ⟨by rfl, ?_⟩) hS ?_
      rotate_left 1
      · intro w' hSw
        try dsimp only at hSw
        obtain ⟨q1, q2, q3⟩ := hSw
        go_simp
        all_goals with_reducible rfl
      try simp only [Act.put, List.setIfInBounds_toArray, List.set_cons_zero, List.set_cons_succ]
      refine held_take (i := 11) (v := ?_) 58 rfl rfl (by kernel_rfl) (by kernel_rfl) (by kernel_rfl) (fun _ _ _ h => h) (Or.inl ⟨by rfl, ?_⟩) hS ?_
      rotate_left 1
      · intro w' hSw
        try dsimp only at hSw
        obtain ⟨q1, q2, q3⟩ := hSw
        go_simp
        all_goals with_reducible rfl
      try simp only [Act.put, List.setIfInBounds_toArray, List.set_cons_zero, List.set_cons_succ]
      refine held_take (i := 12) (v := ?_) 59 rfl rfl (by kernel_rfl) (by kernel_rfl) (by kernel_rfl) (fun _ _ _ h => h) (Or.inl ⟨by rfl, ?_⟩) hS ?_
      rotate_left 1
      · intro w' hSw
        try dsimp only at hSw
        obtain ⟨q1, q2, q3⟩ := hSw
        go_simp
        all_goals with_reducible rfl
      try simp only [Act.put, List.setIfInBounds_toArray, List.set_cons_zero, List.set_cons_succ]
      refine held_take (i := 13) (v := ?_) 60 rfl rfl (by kernel_rfl) (by kernel_rfl) (by kernel_rfl) (fun _ _ _ h => h) (Or.inl ⟨by rfl, ?_⟩) hS ?_
      rotate_left 1
      · intro w' hSw
        try dsimp only at hSw
        obtain ⟨q1, q2, q3⟩ := hSw
        go_simp
        all_goals with_reducible rfl
      try simp only [Act.put, List.setIfInBounds_toArray, List.set_cons_zero, List.set_cons_succ]
      refine held_take (i := 14) (v := ?_) 61 rfl rfl (by kernel_rfl) (by kernel_rfl) (by kernel_rfl) (fun _ _ _ h => h) (Or.inl ⟨by rfl, ?_⟩) hS ?_
      rotate_left 1
      · intro w' hSw
        try dsimp only at hSw
        obtain ⟨q1, q2, q3⟩ := hSw
        go_simp
        all_goals with_reducible rfl
      try simp only [Act.put, List.setIfInBounds_toArray, List.set_cons_zero, List.set_cons_succ]
      refine held_take (i := 15) (v := ?_) 62 rfl rfl (by kernel_rfl) (by kernel_rfl) (by kernel_rfl) (fun _ _ _ h => h) (Or.inl ⟨by rfl, ?_⟩) hS ?_
      rotate_left 1
      · intro w' hSw
        try dsimp only at hSw
        obtain ⟨q1, q2, q3⟩ := hSw
        go_simp
        all_goals with_reducible rfl
      try simp only [Act.put, List.setIfInBounds_toArray, List.set_cons_zero, List.set_cons_succ]
      refine held_take (i := 16) (v := ?_) 63 rfl rfl (by kernel_rfl) (by kernel_rfl) (by kernel_rfl) (fun _ _ _ h => h) (Or.inl ⟨by rfl, ?_⟩) hS ?_
      rotate_left 1
      · intro w' hSw
        try dsimp only at hSw
        obtain ⟨q1, q2, q3⟩ := hSw
        go_simp
        all_goals with_reducible rfl
      try simp only [Act.put, List.setIfInBounds_toArray, List.set_cons_zero, List.set_cons_succ]
      refine held_take (i := 17) (v := ?_) 64 rfl rfl (by kernel_rfl) (by kernel_rfl) (by kernel_rfl) (fun _ _ _ h => h) (Or.inl ⟨by rfl, ?_⟩) hS ?_
      rotate_left 1
      · intro w' hSw
        try dsimp only at hSw
        obtain ⟨q1, q2, q3⟩ := hSw
        go_simp
        all_goals with_reducible rfl
      try simp only [Act.put, List.setIfInBounds_toArray, List.set_cons_zero, List.set_cons_succ]
      refine held_take (i := 18) (v := ?_) 65 rfl rfl (by kernel_rfl) (by kernel_rfl) (by kernel_rfl) (fun _ _ _ h => h) (Or.inl ⟨by rfl, ?_⟩) hS ?_
      rotate_left 1
      · intro w' hSw
        try dsimp only at hSw
        obtain ⟨q1, q2, q3⟩ := hSw
        go_simp
        all_goals with_reducible rfl
      try simp only [Act.put, List.setIfInBounds_toArray, List.set_cons_zero, List.set_cons_succ]
      refine held_take (i := 19) (v := ?_) 66 rfl rfl (by kernel_rfl) (by kernel_rfl) (by kernel_rfl) (fun _ _ _ h => h) (Or.inl ⟨by rfl, ?_⟩) hS ?_
      rotate_left 1
      · intro w' hSw
        try dsimp only at hSw
        obtain ⟨q1, q2, q3⟩ := hSw
        go_simp
        all_goals with_reducible rfl
      try simp only [Act.put, List.setIfInBounds_toArray, List.set_cons_zero, List.set_cons_succ]
      refine held_one (i := 10) (by kernel_rfl) rfl rfl (fun K hK => ?_)
      go_simp
      refine (hI1 _).mono ?_
      rintro e W' ⟨rfl, rfl⟩
      refine hK _ _ hS ?_
      clear hK K hI1
      try simp only [Act.put, List.setIfInBounds_toArray, List.set_cons_zero, List.set_cons_succ]
      refine held_one (i := 20) (by kernel_rfl) rfl rfl (fun K hK => ?_)
      go_simp
      refine (hI2 _).mono ?_
      rintro e W' ⟨rfl, rfl⟩
      refine hK _ _ hS ?_
      clear hK K hI2 u1 u2
      try simp only [Act.put, List.setIfInBounds_toArray, List.set_cons_zero, List.set_cons_succ]
      generalize hE1 : intoL 32768 (t.x.lo - 2) = v1 at *
      generalize hE2 : intoL 32768 (t.x.hi + 2) = v2 at *
      replace hE1 := Lib.hid hE1
      replace hE2 := Lib.hid hE2
      refine held_take (i := 21) (v := ?_) 68 rfl rfl (by kernel_rfl) (by kernel_rfl) (by kernel_rfl) (fun _ _ _ h => h) (Or.inl ⟨by rfl, ?_⟩) hS ?_
      rotate_left 1
      · intro w' hSw
        try dsimp only at hSw
        obtain ⟨q1, q2, q3⟩ := hSw
        go_simp
        all_goals with_reducible rfl
      try simp only [Act.put, List.setIfInBounds_toArray, List.set_cons_zero, List.set_cons_succ]
      refine held_take (i := 22) (v := ?_) 69 rfl rfl (by kernel_rfl) (by kernel_rfl) (by kernel_rfl) (fun _ _ _ h => h) (Or.inl ⟨by rfl, ?_⟩) hS ?_
      rotate_left 1
      · intro w' hSw
        try dsimp only at hSw
        obtain ⟨q1, q2, q3⟩ := hSw
        go_simp
        all_goals with_reducible rfl
      try simp only [Act.put, List.setIfInBounds_toArray, List.set_cons_zero, List.set_cons_succ]
      have k7z := (k7.set_ 0 (.int .i64 v1)).set_ 1 (.int .i64 v2)
      simp only [List.setIfInBounds_toArray, List.set_cons_zero, List.set_cons_succ] at k7z
      have k4z := (k4.far (p := ⟨g7, 0, none⟩) (show w.heap.size + 1 ≠ g7 by omega) (.int .i64 v1)).far (p := ⟨g7, 1, none⟩) (show w.heap.size + 1 ≠ g7 by omega) (.int .i64 v2)
      have k10z := (k10.far (p := ⟨g7, 0, none⟩) (show g10 ≠ g7 by omega) (.int .i64 v1)).far (p := ⟨g7, 1, none⟩) (show g10 ≠ g7 by omega) (.int .i64 v2)
      have k11z := (k11.far (p := ⟨g7, 0, none⟩) (show g11 ≠ g7 by omega) (.int .i64 v1)).far (p := ⟨g7, 1, none⟩) (show g11 ≠ g7 by omega) (.int .i64 v2)
      have k13z := (k13.far (p := ⟨g7, 0, none⟩) (show g13 ≠ g7 by omega) (.int .i64 v1)).far (p := ⟨g7, 1, none⟩) (show g13 ≠ g7 by omega) (.int .i64 v2)
      have bz := (hb.setCell (p := ⟨g7, 0, none⟩) (show w.heap.size ≤ g7 by omega) (.int .i64 v1)).setCell (p := ⟨g7, 1, none⟩) (show w.heap.size ≤ g7 by omega) (.int .i64 v2)
      obtain ⟨c7, f7, l7⟩ := k7.rules
      refine held_one (i := 23) (by kernel_rfl) rfl rfl (fun K hK => ?_)
      go_simp
      refine hK _ _ ⟨k10z.cell, k11z.cell, k13z.cell⟩ ?_
      clear hK K c7 f7 l7 hS k7 k4 k10 k11 k13 hb
      generalize (wd.setCell ⟨g7, 0, none⟩ (.int .i64 v1)).setCell ⟨g7, 1, none⟩ (.int .i64 v2) = W6 at *
      refine wpAnyH_done (by kernel_rfl) (noPanic_normal ?_) _
      go_wp2_with fail
      go_roundw
      case rel => exact ⟨0 + 1, rfl, by omega, by rw [← hE1.out, ← hE2.out] at k7z; exact k7z, k4z, k10z, k11z, bz⟩
      case measure => simp [intOf]
    | 1, _ =>
      have hI1 := fun W => into_any 32768 (t.y.lo - 2) W (by omega) (by omega)
      have hI2 := fun W => into_any 32768 (t.y.hi + 2) W (by omega) (by omega)
      have u1 := IntWalk.i64_in (t.y.lo - 2) (by omega)
      have u2 := IntWalk.i64_in (t.y.hi + 2) (by omega)
      simp only [regA, wideK] at k7
      rw [show jv 1 = .int .i64 1 from rfl]
      go_wp2_with fail
      have k13 := Blk.new wr 24 #[.int .i64 t.y.lo, .int .i64 t.y.hi]
      have hbel := (Below.refl wr.heap.size wr).alloc (Nat.le_refl _) (.cells #[.int .i64 t.y.lo, .int .i64 t.y.hi] 24)
      have hl7 := k7.lt
      replace k7 := k7.below hbel
      replace k4 := k4.below hbel
      replace k10 := k10.below hbel
      replace k11 := k11.below hbel
      replace hb := hb.trans (hbel.mono hb.size)
      clear hbel
      generalize wr.alloc (.cells #[.int .i64 t.y.lo, .int .i64 t.y.hi] 24) = Wa at *
      generalize wr.heap.size = g13 at *
      refine wp_held_np (fun w' : World => (∀ j, w'.cell? ⟨g10, j, none⟩ = #[Value.int .i64 32768, .int .i64 32768, .int .i64 65536, .int .i64 65536][j]?) ∧ (∀ j, w'.cell? ⟨g11, j, none⟩ = #[Value.int .i64 2, .int .i64 2, .int .i64 2, .int .i64 2][j]?) ∧ (∀ j, w'.cell? ⟨g13, j, none⟩ = #[Value.int .i64 t.y.lo, .int .i64 t.y.hi][j]?)) (by kernel_rfl) ?_
      replace k7 := k7.drew
      replace k4 := k4.drew
      replace k10 := k10.drew
      replace k11 := k11.drew
      replace k13 := k13.drew
      replace hb := hb.drew
      generalize Wa.drew = wd at *
      have hS : (fun w' : World => (∀ j, w'.cell? ⟨g10, j, none⟩ = #[Value.int .i64 32768, .int .i64 32768, .int .i64 65536, .int .i64 65536][j]?) ∧ (∀ j, w'.cell? ⟨g11, j, none⟩ = #[Value.int .i64 2, .int .i64 2, .int .i64 2, .int .i64 2][j]?) ∧ (∀ j, w'.cell? ⟨g13, j, none⟩ = #[Value.int .i64 t.y.lo, .int .i64 t.y.hi][j]?)) wd := ⟨k10.cell, k11.cell, k13.cell⟩
      refine held_take (i := 0) (v := ?_) 47 rfl rfl (by kernel_rfl) (by kernel_rfl) (by kernel_rfl) (fun _ _ _ h => h) (Or.inl ⟨by rfl, ?_⟩) hS ?_
      rotate_left 1
      · intro w' hSw
        try dsimp only at hSw
        obtain ⟨q1, q2, q3⟩ := hSw
        go_simp
        all_goals with_reducible rfl
      try simp only [Act.put, List.setIfInBounds_toArray, List.set_cons_zero, List.set_cons_succ]
      refine held_take (i := 1) (v := ?_) 48 rfl rfl (by kernel_rfl) (by kernel_rfl) (by kernel_rfl) (fun _ _ _ h => h) (Or.inl ⟨by rfl, ?_⟩) hS ?_
      rotate_left 1
      · intro w' hSw
        try dsimp only at hSw
        obtain ⟨q1, q2, q3⟩ := hSw
        go_simp
        all_goals with_reducible rfl
      try simp only [Act.put, List.setIfInBounds_toArray, List.set_cons_zero, List.set_cons_succ]
      refine held_take (i := 2) (v := ?_) 49 rfl rfl (by kernel_rfl) (by kernel_rfl) (by kernel_rfl) (fun _ _ _ h => h) (Or.inl ⟨by rfl, ?_⟩) hS ?_
      rotate_left 1
      · intro w' hSw
        try dsimp only at hSw
        obtain ⟨q1, q2, q3⟩ := hSw
        go_simp
        all_goals with_reducible rfl
      try simp only [Act.put, List.setIfInBounds_toArray, List.set_cons_zero, List.set_cons_succ]
      refine held_take (i := 3) (v := ?_) 50 rfl rfl (by kernel_rfl) (by kernel_rfl) (by kernel_rfl) (fun _ _ _ h => h) (Or.inl ⟨by rfl, ?_⟩) hS ?_
      rotate_left 1
      · intro w' hSw
        try dsimp only at hSw
        obtain ⟨q1, q2, q3⟩ := hSw
        go_simp
        all_goals with_reducible rfl
      try simp only [Act.put, List.setIfInBounds_toArray, List.set_cons_zero, List.set_cons_succ]
      refine held_take (i := 4) (v := ?_) 51 rfl rfl (by kernel_rfl) (by kernel_rfl) (by kernel_rfl) (fun _ _ _ h => h) (Or.inl ⟨by rfl, ?_⟩) hS ?_
      rotate_left 1
      · intro w' hSw
        try dsimp only at hSw
        obtain ⟨q1, q2, q3⟩ := hSw
        go_simp
        all_goals with_reducible rfl
      try simp only [Act.put, List.setIfInBounds_toArray, List.set_cons_zero, List.set_cons_succ]
      refine held_take (i := 5) (v := ?_) 52 rfl rfl (by kernel_rfl) (by kernel_rfl) (by kernel_rfl) (fun _ _ _ h => h) (Or.inl ⟨by rfl, ?_⟩) hS ?_
      rotate_left 1
      · intro w' hSw
        try dsimp only at hSw
        obtain ⟨q1, q2, q3⟩ := hSw
        go_simp
        all_goals with_reducible rfl
      try simp only [Act.put, List.setIfInBounds_toArray, List.set_cons_zero, List.set_cons_succ]
      refine held_take (i := 6) (v := ?_) 53 rfl rfl (by kernel_rfl) (by kernel_rfl) (by kernel_rfl) (fun _ _ _ h => h) (Or.inl ⟨by rfl, ?_⟩) hS ?_
      rotate_left 1
      · intro w' hSw
        try dsimp only at hSw
        obtain ⟨q1, q2, q3⟩ := hSw
        go_simp
        all_goals with_reducible rfl
      try simp only [Act.put, List.setIfInBounds_toArray, List.set_cons_zero, List.set_cons_succ]
      refine held_take (i := 7) (v := ?_) 54 rfl rfl (by kernel_rfl) (by kernel_rfl) (by kernel_rfl) (fun _ _ _ h => h) (Or.inl ⟨by rfl, ?_⟩) hS ?_
      rotate_left 1
      · intro w' hSw
        try dsimp only at hSw
        obtain ⟨q1, q2, q3⟩ := hSw
        go_simp
        all_goals with_reducible rfl
      try simp only [Act.put, List.setIfInBounds_toArray, List.set_cons_zero, List.set_cons_succ]
      refine held_take (i := 8) (v := ?_) 55 rfl rfl (by kernel_rfl) (by kernel_rfl) (by kernel_rfl) (fun _ _ _ h => h) (Or.inl ⟨by rfl, ?_⟩) hS ?_
      rotate_left 1
      · intro w' hSw
        try dsimp only at hSw
        obtain ⟨q1, q2, q3⟩ := hSw
        go_simp
        all_goals with_reducible rfl
      try simp only [Act.put, List.setIfInBounds_toArray, List.set_cons_zero, List.set_cons_succ]
      refine held_take (i := 9) (v := ?_) 56 rfl rfl (by kernel_rfl) (by kernel_rfl) (by kernel_rfl) (fun _ _ _ h => h) (Or.inl ⟨by rfl, ?_⟩) hS ?_
      rotate_left 1
      · intro w' hSw
        try dsimp only at hSw
        obtain ⟨q1, q2, q3⟩ := hSw
        go_simp
        all_goals with_reducible rfl
      try simp only [Act.put, List.setIfInBounds_toArray, List.set_cons_zero, List.set_cons_succ]
      refine held_take (i := 11) (v := ?_) 58 rfl rfl (by kernel_rfl) (by kernel_rfl) (by kernel_rfl) (fun _ _ _ h => h) (Or.inl ⟨by rfl, ?_⟩) hS ?_
      rotate_left 1
      · intro w' hSw
        try dsimp only at hSw
        obtain ⟨q1, q2, q3⟩ := hSw
        go_simp
        all_goals with_reducible rfl
      try simp only [Act.put, List.setIfInBounds_toArray, List.set_cons_zero, List.set_cons_succ]
      refine held_take (i := 12) (v := ?_) 59 rfl rfl (by kernel_rfl) (by kernel_rfl) (by kernel_rfl) (fun _ _ _ h => h) (Or.inl ⟨by rfl, ?_⟩) hS ?_
      rotate_left 1
      · intro w' hSw
        try dsimp only at hSw
        obtain ⟨q1, q2, q3⟩ := hSw
        go_simp
        all_goals with_reducible rfl
      try simp only [Act.put, List.setIfInBounds_toArray, List.set_cons_zero, List.set_cons_succ]
      refine held_take (i := 13) (v := ?_) 60 rfl rfl (by kernel_rfl) (by kernel_rfl) (by kernel_rfl) (fun _ _ _ h => h) (Or.inl ⟨by rfl, ?_⟩) hS ?_
      rotate_left 1
      · intro w' hSw
        try dsimp only at hSw
        obtain ⟨q1, q2, q3⟩ := hSw
        go_simp
        all_goals with_reducible rfl
      try simp only [Act.put, List.setIfInBounds_toArray, List.set_cons_zero, List.set_cons_succ]
      refine held_take (i := 14) (v := ?_) 61 rfl rfl (by kernel_rfl) (by kernel_rfl) (by kernel_rfl) (fun _ _ _ h => h) (Or.inl ⟨by rfl, ?_⟩) hS ?_
      rotate_left 1
      · intro w' hSw
        try dsimp only at hSw
        obtain ⟨q1, q2, q3⟩ := hSw
        go_simp
        all_goals with_reducible rfl
      try simp only [Act.put, List.setIfInBounds_toArray, List.set_cons_zero, List.set_cons_succ]
      refine held_take (i := 15) (v := ?_) 62 rfl rfl (by kernel_rfl) (by kernel_rfl) (by kernel_rfl) (fun _ _ _ h => h) (Or.inl ⟨by rfl, ?_⟩) hS ?_
      rotate_left 1
      · intro w' hSw
        try dsimp only at hSw
        obtain ⟨q1, q2, q3⟩ := hSw
        go_simp
        all_goals with_reducible rfl
      try simp only [Act.put, List.setIfInBounds_toArray, List.set_cons_zero, List.set_cons_succ]
      refine held_take (i := 16) (v := ?_) 63 rfl rfl (by kernel_rfl) (by kernel_rfl) (by kernel_rfl) (fun _ _ _ h => h) (Or.inl ⟨by rfl, ?_⟩) hS ?_
      rotate_left 1
      · intro w' hSw
        try dsimp only at hSw
        obtain ⟨q1, q2, q3⟩ := hSw
        go_simp
        all_goals with_reducible rfl
      try simp only [Act.put, List.setIfInBounds_toArray, List.set_cons_zero, List.set_cons_succ]
      refine held_take (i := 17) (v := ?_) 64 rfl rfl (by kernel_rfl) (by kernel_rfl) (by kernel_rfl) (fun _ _ _ h => h) (Or.inl ⟨by rfl, ?_⟩) hS ?_
      rotate_left 1
      · intro w' hSw
        try dsimp only at hSw
        obtain ⟨q1, q2, q3⟩ := hSw
        go_simp
        all_goals with_reducible rfl
      try simp only [Act.put, List.setIfInBounds_toArray, List.set_cons_zero, List.set_cons_succ]
      refine held_take (i := 18) (v := ?_) 65 rfl rfl (by kernel_rfl) (by kernel_rfl) (by kernel_rfl) (fun _ _ _ h => h) (Or.inl ⟨by rfl, ?_⟩) hS ?_
      rotate_left 1
      · intro w' hSw
        try dsimp only at hSw
        obtain ⟨q1, q2, q3⟩ := hSw
        go_simp
        all_goals with_reducible rfl
      try simp only [Act.put, List.setIfInBounds_toArray, List.set_cons_zero, List.set_cons_succ]
      refine held_take (i := 19) (v := ?_) 66 rfl rfl (by kernel_rfl) (by kernel_rfl) (by kernel_rfl) (fun _ _ _ h => h) (Or.inl ⟨by rfl, ?_⟩) hS ?_
      rotate_left 1
      · intro w' hSw
        try dsimp only at hSw
        obtain ⟨q1, q2, q3⟩ := hSw
        go_simp
        all_goals with_reducible rfl
      try simp only [Act.put, List.setIfInBounds_toArray, List.set_cons_zero, List.set_cons_succ]
      refine held_one (i := 10) (by kernel_rfl) rfl rfl (fun K hK => ?_)
      go_simp
      refine (hI1 _).mono ?_
      rintro e W' ⟨rfl, rfl⟩
      refine hK _ _ hS ?_
      clear hK K hI1
      try simp only [Act.put, List.setIfInBounds_toArray, List.set_cons_zero, List.set_cons_succ]
      refine held_one (i := 20) (by kernel_rfl) rfl rfl (fun K hK => ?_)
      go_simp
      refine (hI2 _).mono ?_
      rintro e W' ⟨rfl, rfl⟩
      refine hK _ _ hS ?_
      clear hK K hI2 u1 u2
      try simp only [Act.put, List.setIfInBounds_toArray, List.set_cons_zero, List.set_cons_succ]
      generalize hE1 : intoL 32768 (t.y.lo - 2) = v1 at *
      generalize hE2 : intoL 32768 (t.y.hi + 2) = v2 at *
      replace hE1 := Lib.hid hE1
      replace hE2 := Lib.hid hE2
      refine held_take (i := 21) (v := ?_) 68 rfl rfl (by kernel_rfl) (by kernel_rfl) (by kernel_rfl) (fun _ _ _ h => h) (Or.inl ⟨by rfl, ?_⟩) hS ?_
      rotate_left 1
      · intro w' hSw
        try dsimp only at hSw
        obtain ⟨q1, q2, q3⟩ := hSw
        go_simp
        all_goals with_reducible rfl
      try simp only [Act.put, List.setIfInBounds_toArray, List.set_cons_zero, List.set_cons_succ]
      refine held_take (i := 22) (v := ?_) 69 rfl rfl (by kernel_rfl) (by kernel_rfl) (by kernel_rfl) (fun _ _ _ h => h) (Or.inl ⟨by rfl, ?_⟩) hS ?_
      rotate_left 1
      · intro w' hSw
        try dsimp only at hSw
        obtain ⟨q1, q2, q3⟩ := hSw
        go_simp
        all_goals with_reducible rfl
      try simp only [Act.put, List.setIfInBounds_toArray, List.set_cons_zero, List.set_cons_succ]
      have k7z := (k7.set_ 2 (.int .i64 v1)).set_ 3 (.int .i64 v2)
      simp only [List.setIfInBounds_toArray, List.set_cons_zero, List.set_cons_succ] at k7z
      have k4z := (k4.far (p := ⟨g7, 2, none⟩) (show w.heap.size + 1 ≠ g7 by omega) (.int .i64 v1)).far (p := ⟨g7, 3, none⟩) (show w.heap.size + 1 ≠ g7 by omega) (.int .i64 v2)
      have k10z := (k10.far (p := ⟨g7, 2, none⟩) (show g10 ≠ g7 by omega) (.int .i64 v1)).far (p := ⟨g7, 3, none⟩) (show g10 ≠ g7 by omega) (.int .i64 v2)
      have k11z := (k11.far (p := ⟨g7, 2, none⟩) (show g11 ≠ g7 by omega) (.int .i64 v1)).far (p := ⟨g7, 3, none⟩) (show g11 ≠ g7 by omega) (.int .i64 v2)
      have k13z := (k13.far (p := ⟨g7, 2, none⟩) (show g13 ≠ g7 by omega) (.int .i64 v1)).far (p := ⟨g7, 3, none⟩) (show g13 ≠ g7 by omega) (.int .i64 v2)
      have bz := (hb.setCell (p := ⟨g7, 2, none⟩) (show w.heap.size ≤ g7 by omega) (.int .i64 v1)).setCell (p := ⟨g7, 3, none⟩) (show w.heap.size ≤ g7 by omega) (.int .i64 v2)
      obtain ⟨c7, f7, l7⟩ := k7.rules
      refine held_one (i := 23) (by kernel_rfl) rfl rfl (fun K hK => ?_)
      go_simp
      refine hK _ _ ⟨k10z.cell, k11z.cell, k13z.cell⟩ ?_
      clear hK K c7 f7 l7 hS k7 k4 k10 k11 k13 hb
      generalize (wd.setCell ⟨g7, 2, none⟩ (.int .i64 v1)).setCell ⟨g7, 3, none⟩ (.int .i64 v2) = W6 at *
      refine wpAnyH_done (by kernel_rfl) (noPanic_normal ?_) _
      go_wp2_with fail
      go_roundw
      case rel => exact ⟨1 + 1, rfl, by omega, by rw [← hE1.out, ← hE2.out] at k7z; exact k7z, k4z, k10z, k11z, bz⟩
      case measure => simp [intOf]
    | 2, _ =>
      have hI1 := fun W => into_any 65536 (t.s.lo - 2) W (by omega) (by omega)
      have hI2 := fun W => into_any 65536 (t.s.hi + 2) W (by omega) (by omega)
      have u1 := IntWalk.i64_in (t.s.lo - 2) (by omega)
      have u2 := IntWalk.i64_in (t.s.hi + 2) (by omega)
      simp only [regA, wideK] at k7
      rw [show jv 2 = .int .i64 2 from rfl]
      go_wp2_with fail
      have k13 := Blk.new wr 24 #[.int .i64 t.s.lo, .int .i64 t.s.hi]
      have hbel := (Below.refl wr.heap.size wr).alloc (Nat.le_refl _) (.cells #[.int .i64 t.s.lo, .int .i64 t.s.hi] 24)
      have hl7 := k7.lt
      replace k7 := k7.below hbel
      replace k4 := k4.below hbel
      replace k10 := k10.below hbel
      replace k11 := k11.below hbel
      replace hb := hb.trans (hbel.mono hb.size)
      clear hbel
      generalize wr.alloc (.cells #[.int .i64 t.s.lo, .int .i64 t.s.hi] 24) = Wa at *
      generalize wr.heap.size = g13 at *
      refine wp_held_np (fun w' : World => (∀ j, w'.cell? ⟨g10, j, none⟩ = #[Value.int .i64 32768, .int .i64 32768, .int .i64 65536, .int .i64 65536][j]?) ∧ (∀ j, w'.cell? ⟨g11, j, none⟩ = #[Value.int .i64 2, .int .i64 2, .int .i64 2, .int .i64 2][j]?) ∧ (∀ j, w'.cell? ⟨g13, j, none⟩ = #[Value.int .i64 t.s.lo, .int .i64 t.s.hi][j]?)) (by kernel_rfl) ?_
      replace k7 := k7.drew
      replace k4 := k4.drew
      replace k10 := k10.drew
      replace k11 := k11.drew
      replace k13 := k13.drew
      replace hb := hb.drew
      generalize Wa.drew = wd at *
      have hS : (fun w' : World => (∀ j, w'.cell? ⟨g10, j, none⟩ = #[Value.int .i64 32768, .int .i64 32768, .int .i64 65536, .int .i64 65536][j]?) ∧ (∀ j, w'.cell? ⟨g11, j, none⟩ = #[Value.int .i64 2, .int .i64 2, .int .i64 2, .int .i64 2][j]?) ∧ (∀ j, w'.cell? ⟨g13, j, none⟩ = #[Value.int .i64 t.s.lo, .int .i64 t.s.hi][j]?)) wd := ⟨k10.cell, k11.cell, k13.cell⟩
      refine held_take (i := 0) (v := ?_) 47 rfl rfl (by kernel_rfl) (by kernel_rfl) (by kernel_rfl) (fun _ _ _ h => h) (Or.inl ⟨by rfl, ?_⟩) hS ?_
      rotate_left 1
      · intro w' hSw
        try dsimp only at hSw
        obtain ⟨q1, q2, q3⟩ := hSw
        go_simp
        all_goals with_reducible rfl
      try simp only [Act.put, List.setIfInBounds_toArray, List.set_cons_zero, List.set_cons_succ]
      refine held_take (i := 1) (v := ?_) 48 rfl rfl (by kernel_rfl) (by kernel_rfl) (by kernel_rfl) (fun _ _ _ h => h) (Or.inl ⟨by rfl, ?_⟩) hS ?_
      rotate_left 1
      · intro w' hSw
        try dsimp only at hSw
        obtain ⟨q1, q2, q3⟩ := hSw
        go_simp
        all_goals with_reducible rfl
      try simp only [Act.put, List.setIfInBounds_toArray, List.set_cons_zero, List.set_cons_succ]
      refine held_take (i := 2) (v := ?_) 49 rfl rfl (by kernel_rfl) (by kernel_rfl) (by kernel_rfl) (fun _ _ _ h => h) (Or.inl ⟨by rfl, ?_⟩) hS ?_
      rotate_left 1
      · intro w' hSw
        try dsimp only at hSw
        obtain ⟨q1, q2, q3⟩ := hSw
        go_simp
        all_goals with_reducible rfl
      try simp only [Act.put, List.setIfInBounds_toArray, List.set_cons_zero, List.set_cons_succ]
      refine held_take (i := 3) (v := ?_) 50 rfl rfl (by kernel_rfl) (by kernel_rfl) (by kernel_rfl) (fun _ _ _ h => h) (Or.inl ⟨by rfl, ?_⟩) hS ?_
      rotate_left 1
      · intro w' hSw
        try dsimp only at hSw
        obtain ⟨q1, q2, q3⟩ := hSw
        go_simp
        all_goals with_reducible rfl
      try simp only [Act.put, List.setIfInBounds_toArray, List.set_cons_zero, List.set_cons_succ]
      refine held_take (i := 4) (v := ?_) 51 rfl rfl (by kernel_rfl) (by kernel_rfl) (by kernel_rfl) (fun _ _ _ h => h) (Or.inl ⟨by rfl, ?_⟩) hS ?_
      rotate_left 1
      · intro w' hSw
        try dsimp only at hSw
        obtain ⟨q1, q2, q3⟩ := hSw
        go_simp
        all_goals with_reducible rfl
      try simp only [Act.put, List.setIfInBounds_toArray, List.set_cons_zero, List.set_cons_succ]
      refine held_take (i := 5) (v := ?_) 52 rfl rfl (by kernel_rfl) (by kernel_rfl) (by kernel_rfl) (fun _ _ _ h => h) (Or.inl ⟨by rfl, ?_⟩) hS ?_
      rotate_left 1
      · intro w' hSw
        try dsimp only at hSw
        obtain ⟨q1, q2, q3⟩ := hSw
        go_simp
        all_goals with_reducible rfl
      try simp only [Act.put, List.setIfInBounds_toArray, List.set_cons_zero, List.set_cons_succ]
      refine held_take (i := 6) (v := ?_) 53 rfl rfl (by kernel_rfl) (by kernel_rfl) (by kernel_rfl) (fun _ _ _ h => h) (Or.inl ⟨by rfl, ?_⟩) hS ?_
      rotate_left 1
      · intro w' hSw
        try dsimp only at hSw
        obtain ⟨q1, q2, q3⟩ := hSw
        go_simp
        all_goals with_reducible rfl
      try simp only [Act.put, List.setIfInBounds_toArray, List.set_cons_zero, List.set_cons_succ]
      refine held_take (i := 7) (v := ?_) 54 rfl rfl (by kernel_rfl) (by kernel_rfl) (by kernel_rfl) (fun _ _ _ h => h) (Or.inl ⟨by rfl, ?_⟩) hS ?_
      rotate_left 1
      · intro w' hSw
        try dsimp only at hSw
        obtain ⟨q1, q2, q3⟩ := hSw
        go_simp
        all_goals with_reducible rfl
      try simp only [Act.put, List.setIfInBounds_toArray, List.set_cons_zero, List.set_cons_succ]
      refine held_take (i := 8) (v := ?_) 55 rfl rfl (by kernel_rfl) (by kernel_rfl) (by kernel_rfl) (fun _ _ _ h => h) (Or.inl ⟨by rfl, ?_⟩) hS ?_
      rotate_left 1
      · intro w' hSw
        try dsimp only at hSw
        obtain ⟨q1, q2, q3⟩ := hSw
        go_simp
        all_goals with_reducible rfl
      try simp only [Act.put, List.setIfInBounds_toArray, List.set_cons_zero, List.set_cons_succ]
      refine held_take (i := 9) (v := ?_) 56 rfl rfl (by kernel_rfl) (by kernel_rfl) (by kernel_rfl) (fun _ _ _ h => h) (Or.inl ⟨by rfl, ?_⟩) hS ?_
      rotate_left 1
      · intro w' hSw
        try dsimp only at hSw
        obtain ⟨q1, q2, q3⟩ := hSw
        go_simp
        all_goals with_reducible rfl
      try simp only [Act.put, List.setIfInBounds_toArray, List.set_cons_zero, List.set_cons_succ]
      refine held_take (i := 11) (v := ?_) 58 rfl rfl (by kernel_rfl) (by kernel_rfl) (by kernel_rfl) (fun _ _ _ h => h) (Or.inl ⟨by rfl, ?_⟩) hS ?_
      rotate_left 1
      · intro w' hSw
        try dsimp only at hSw
        obtain ⟨q1, q2, q3⟩ := hSw
        go_simp
        all_goals with_reducible rfl
      try simp only [Act.put, List.setIfInBounds_toArray, List.set_cons_zero, List.set_cons_succ]
      refine held_take (i := 12) (v := ?_) 59 rfl rfl (by kernel_rfl) (by kernel_rfl) (by kernel_rfl) (fun _ _ _ h => h) (Or.inl ⟨by rfl, ?_⟩) hS ?_
      rotate_left 1
      · intro w' hSw
        try dsimp only at hSw
        obtain ⟨q1, q2, q3⟩ := hSw
        go_simp
        all_goals with_reducible rfl
      try simp only [Act.put, List.setIfInBounds_toArray, List.set_cons_zero, List.set_cons_succ]
      refine held_take (i := 13) (v := ?_) 60 rfl rfl (by kernel_rfl) (by kernel_rfl) (by kernel_rfl) (fun _ _ _ h => h) (Or.inl ⟨by rfl, ?_⟩) hS ?_
      rotate_left 1
      · intro w' hSw
        try dsimp only at hSw
        obtain ⟨q1, q2, q3⟩ := hSw
        go_simp
        all_goals with_reducible rfl
      try simp only [Act.put, List.setIfInBounds_toArray, List.set_cons_zero, List.set_cons_succ]
      refine held_take (i := 14) (v := ?_) 61 rfl rfl (by kernel_rfl) (by kernel_rfl) (by kernel_rfl) (fun _ _ _ h => h) (Or.inl ⟨by rfl, ?_⟩) hS ?_
      rotate_left 1
      · intro w' hSw
        try dsimp only at hSw
        obtain ⟨q1, q2, q3⟩ := hSw
        go_simp
        all_goals with_reducible rfl
      try simp only [Act.put, List.setIfInBounds_toArray, List.set_cons_zero, List.set_cons_succ]
      refine held_take (i := 15) (v := ?_) 62 rfl rfl (by kernel_rfl) (by kernel_rfl) (by kernel_rfl) (fun _ _ _ h => h) (Or.inl ⟨by rfl, ?_⟩) hS ?_
      rotate_left 1
      · intro w' hSw
        try dsimp only at hSw
        obtain ⟨q1, q2, q3⟩ := hSw
        go_simp
        all_goals with_reducible rfl
      try simp only [Act.put, List.setIfInBounds_toArray, List.set_cons_zero, List.set_cons_succ]
      refine held_take (i := 16) (v := ?_) 63 rfl rfl (by kernel_rfl) (by kernel_rfl) (by kernel_rfl) (fun _ _ _ h => h) (Or.inl ⟨by rfl, ?_⟩) hS ?_
      rotate_left 1
      · intro w' hSw
        try dsimp only at hSw
        obtain ⟨q1, q2, q3⟩ := hSw
        go_simp
        all_goals with_reducible rfl
      try simp only [Act.put, List.setIfInBounds_toArray, List.set_cons_zero, List.set_cons_succ]
      refine held_take (i := 17) (v := ?_) 64 rfl rfl (by kernel_rfl) (by kernel_rfl) (by kernel_rfl) (fun _ _ _ h => h) (Or.inl ⟨by rfl, ?_⟩) hS ?_
      rotate_left 1
      · intro w' hSw
        try dsimp only at hSw
        obtain ⟨q1, q2, q3⟩ := hSw
        go_simp
        all_goals with_reducible rfl
      try simp only [Act.put, List.setIfInBounds_toArray, List.set_cons_zero, List.set_cons_succ]
      refine held_take (i := 18) (v := ?_) 65 rfl rfl (by kernel_rfl) (by kernel_rfl) (by kernel_rfl) (fun _ _ _ h => h) (Or.inl ⟨by rfl, ?_⟩) hS ?_
      rotate_left 1
      · intro w' hSw
        try dsimp only at hSw
        obtain ⟨q1, q2, q3⟩ := hSw
        go_simp
        all_goals with_reducible rfl
      try simp only [Act.put, List.setIfInBounds_toArray, List.set_cons_zero, List.set_cons_succ]
      refine held_take (i := 19) (v := ?_) 66 rfl rfl (by kernel_rfl) (by kernel_rfl) (by kernel_rfl) (fun _ _ _ h => h) (Or.inl ⟨by rfl, ?_⟩) hS ?_
      rotate_left 1
      · intro w' hSw
        try dsimp only at hSw
        obtain ⟨q1, q2, q3⟩ := hSw
        go_simp
        all_goals with_reducible rfl
      try simp only [Act.put, List.setIfInBounds_toArray, List.set_cons_zero, List.set_cons_succ]
      refine held_one (i := 10) (by kernel_rfl) rfl rfl (fun K hK => ?_)
      go_simp
      refine (hI1 _).mono ?_
      rintro e W' ⟨rfl, rfl⟩
      refine hK _ _ hS ?_
      clear hK K hI1
      try simp only [Act.put, List.setIfInBounds_toArray, List.set_cons_zero, List.set_cons_succ]
      refine held_one (i := 20) (by kernel_rfl) rfl rfl (fun K hK => ?_)
      go_simp
      refine (hI2 _).mono ?_
      rintro e W' ⟨rfl, rfl⟩
      refine hK _ _ hS ?_
      clear hK K hI2 u1 u2
      try simp only [Act.put, List.setIfInBounds_toArray, List.set_cons_zero, List.set_cons_succ]
      generalize hE1 : intoL 65536 (t.s.lo - 2) = v1 at *
      generalize hE2 : intoL 65536 (t.s.hi + 2) = v2 at *
      replace hE1 := Lib.hid hE1
      replace hE2 := Lib.hid hE2
      refine held_take (i := 21) (v := ?_) 68 rfl rfl (by kernel_rfl) (by kernel_rfl) (by kernel_rfl) (fun _ _ _ h => h) (Or.inl ⟨by rfl, ?_⟩) hS ?_
      rotate_left 1
      · intro w' hSw
        try dsimp only at hSw
        obtain ⟨q1, q2, q3⟩ := hSw
        go_simp
        all_goals with_reducible rfl
      try simp only [Act.put, List.setIfInBounds_toArray, List.set_cons_zero, List.set_cons_succ]
      refine held_take (i := 22) (v := ?_) 69 rfl rfl (by kernel_rfl) (by kernel_rfl) (by kernel_rfl) (fun _ _ _ h => h) (Or.inl ⟨by rfl, ?_⟩) hS ?_
      rotate_left 1
      · intro w' hSw
        try dsimp only at hSw
        obtain ⟨q1, q2, q3⟩ := hSw
        go_simp
        all_goals with_reducible rfl
      try simp only [Act.put, List.setIfInBounds_toArray, List.set_cons_zero, List.set_cons_succ]
      have k7z := (k7.set_ 4 (.int .i64 v1)).set_ 5 (.int .i64 v2)
      simp only [List.setIfInBounds_toArray, List.set_cons_zero, List.set_cons_succ] at k7z
      have k4z := (k4.far (p := ⟨g7, 4, none⟩) (show w.heap.size + 1 ≠ g7 by omega) (.int .i64 v1)).far (p := ⟨g7, 5, none⟩) (show w.heap.size + 1 ≠ g7 by omega) (.int .i64 v2)
      have k10z := (k10.far (p := ⟨g7, 4, none⟩) (show g10 ≠ g7 by omega) (.int .i64 v1)).far (p := ⟨g7, 5, none⟩) (show g10 ≠ g7 by omega) (.int .i64 v2)
      have k11z := (k11.far (p := ⟨g7, 4, none⟩) (show g11 ≠ g7 by omega) (.int .i64 v1)).far (p := ⟨g7, 5, none⟩) (show g11 ≠ g7 by omega) (.int .i64 v2)
      have k13z := (k13.far (p := ⟨g7, 4, none⟩) (show g13 ≠ g7 by omega) (.int .i64 v1)).far (p := ⟨g7, 5, none⟩) (show g13 ≠ g7 by omega) (.int .i64 v2)
      have bz := (hb.setCell (p := ⟨g7, 4, none⟩) (show w.heap.size ≤ g7 by omega) (.int .i64 v1)).setCell (p := ⟨g7, 5, none⟩) (show w.heap.size ≤ g7 by omega) (.int .i64 v2)
      obtain ⟨c7, f7, l7⟩ := k7.rules
      refine held_one (i := 23) (by kernel_rfl) rfl rfl (fun K hK => ?_)
      go_simp
      refine hK _ _ ⟨k10z.cell, k11z.cell, k13z.cell⟩ ?_
      clear hK K c7 f7 l7 hS k7 k4 k10 k11 k13 hb
      generalize (wd.setCell ⟨g7, 4, none⟩ (.int .i64 v1)).setCell ⟨g7, 5, none⟩ (.int .i64 v2) = W6 at *
      refine wpAnyH_done (by kernel_rfl) (noPanic_normal ?_) _
      go_wp2_with fail
      go_roundw
      case rel => exact ⟨2 + 1, rfl, by omega, by rw [← hE1.out, ← hE2.out] at k7z; exact k7z, k4z, k10z, k11z, bz⟩
      case measure => simp [intOf]
    | 3, _ =>
      have hI1 := fun W => into_any 65536 (t.d.lo - 2) W (by omega) (by omega)
      have hI2 := fun W => into_any 65536 (t.d.hi + 2) W (by omega) (by omega)
      have u1 := IntWalk.i64_in (t.d.lo - 2) (by omega)
      have u2 := IntWalk.i64_in (t.d.hi + 2) (by omega)
      simp only [regA, wideK] at k7
      rw [show jv 3 = .int .i64 3 from rfl]
      go_wp2_with fail
      have k13 := Blk.new wr 24 #[.int .i64 t.d.lo, .int .i64 t.d.hi]
      have hbel := (Below.refl wr.heap.size wr).alloc (Nat.le_refl _) (.cells #[.int .i64 t.d.lo, .int .i64 t.d.hi] 24)
      have hl7 := k7.lt
      replace k7 := k7.below hbel
      replace k4 := k4.below hbel
      replace k10 := k10.below hbel
      replace k11 := k11.below hbel
      replace hb := hb.trans (hbel.mono hb.size)
      clear hbel
      generalize wr.alloc (.cells #[.int .i64 t.d.lo, .int .i64 t.d.hi] 24) = Wa at *
      generalize wr.heap.size = g13 at *
      refine wp_held_np (fun w' : World => (∀ j, w'.cell? ⟨g10, j, none⟩ = #[Value.int .i64 32768, .int .i64 32768, .int .i64 65536, .int .i64 65536][j]?) ∧ (∀ j, w'.cell? ⟨g11, j, none⟩ = #[Value.int .i64 2, .int .i64 2, .int .i64 2, .int .i64 2][j]?) ∧ (∀ j, w'.cell? ⟨g13, j, none⟩ = #[Value.int .i64 t.d.lo, .int .i64 t.d.hi][j]?)) (by kernel_rfl) ?_
      replace k7 := k7.drew
      replace k4 := k4.drew
      replace k10 := k10.drew
      replace k11 := k11.drew
      replace k13 := k13.drew
      replace hb := hb.drew
      generalize Wa.drew = wd at *
      have hS : (fun w' : World => (∀ j, w'.cell? ⟨g10, j, none⟩ = #[Value.int .i64 32768, .int .i64 32768, .int .i64 65536, .int .i64 65536][j]?) ∧ (∀ j, w'.cell? ⟨g11, j, none⟩ = #[Value.int .i64 2, .int .i64 2, .int .i64 2, .int .i64 2][j]?) ∧ (∀ j, w'.cell? ⟨g13, j, none⟩ = #[Value.int .i64 t.d.lo, .int .i64 t.d.hi][j]?)) wd := ⟨k10.cell, k11.cell, k13.cell⟩
      refine held_take (i := 0) (v := ?_) 47 rfl rfl (by kernel_rfl) (by kernel_rfl) (by kernel_rfl) (fun _ _ _ h => h) (Or.inl ⟨by rfl, ?_⟩) hS ?_
      rotate_left 1
      · intro w' hSw
        try dsimp only at hSw
        obtain ⟨q1, q2, q3⟩ := hSw
        go_simp
        all_goals with_reducible rfl
      try simp only [Act.put, List.setIfInBounds_toArray, List.set_cons_zero, List.set_cons_succ]
      refine held_take (i := 1) (v := ?_) 48 rfl rfl (by kernel_rfl) (by kernel_rfl) (by kernel_rfl) (fun _ _ _ h => h) (Or.inl ⟨by rfl, ?_⟩) hS ?_
      rotate_left 1
      · intro w' hSw
        try dsimp only at hSw
        obtain ⟨q1, q2, q3⟩ := hSw
        go_simp
        all_goals with_reducible rfl
      try simp only [Act.put, List.setIfInBounds_toArray, List.set_cons_zero, List.set_cons_succ]
      refine held_take (i := 2) (v := ?_) 49 rfl rfl (by kernel_rfl) (by kernel_rfl) (by kernel_rfl) (fun _ _ _ h => h) (Or.inl ⟨by rfl, ?_⟩) hS ?_
      rotate_left 1
      · intro w' hSw
        try dsimp only at hSw
        obtain ⟨q1, q2, q3⟩ := hSw
        go_simp
        all_goals with_reducible rfl
      try simp only [Act.put, List.setIfInBounds_toArray, List.set_cons_zero, List.set_cons_succ]
      refine held_take (i := 3) (v := ?_) 50 rfl rfl (by kernel_rfl) (by kernel_rfl) (by kernel_rfl) (fun _ _ _ h => h) (Or.inl ⟨by rfl, ?_⟩) hS ?_
      rotate_left 1
      · intro w' hSw
        try dsimp only at hSw
        obtain ⟨q1, q2, q3⟩ := hSw
        go_simp
        all_goals with_reducible rfl
      try simp only [Act.put, List.setIfInBounds_toArray, List.set_cons_zero, List.set_cons_succ]
      refine held_take (i := 4) (v := ?_) 51 rfl rfl (by kernel_rfl) (by kernel_rfl) (by kernel_rfl) (fun _ _ _ h => h) (Or.inl ⟨by rfl, ?_⟩) hS ?_
      rotate_left 1
      · intro w' hSw
        try dsimp only at hSw
        obtain ⟨q1, q2, q3⟩ := hSw
        go_simp
        all_goals with_reducible rfl
      try simp only [Act.put, List.setIfInBounds_toArray, List.set_cons_zero, List.set_cons_succ]
      refine held_take (i := 5) (v := ?_) 52 rfl rfl (by kernel_rfl) (by kernel_rfl) (by kernel_rfl) (fun _ _ _ h => h) (Or.inl ⟨by rfl, ?_⟩) hS ?_
      rotate_left 1
      · intro w' hSw
        try dsimp only at hSw
        obtain ⟨q1, q2, q3⟩ := hSw
        go_simp
        all_goals with_reducible rfl
      try simp only [Act.put, List.setIfInBounds_toArray, List.set_cons_zero, List.set_cons_succ]
      refine held_take (i := 6) (v := ?_) 53 rfl rfl (by kernel_rfl) (by kernel_rfl) (by kernel_rfl) (fun _ _ _ h => h) (Or.inl ⟨by rfl, ?_⟩) hS ?_
      rotate_left 1
      · intro w' hSw
        try dsimp only at hSw
        obtain ⟨q1, q2, q3⟩ := hSw
        go_simp
        all_goals with_reducible rfl
      try simp only [Act.put, List.setIfInBounds_toArray, List.set_cons_zero, List.set_cons_succ]
      refine held_take (i := 7) (v := ?_) 54 rfl rfl (by kernel_rfl) (by kernel_rfl) (by kernel_rfl) (fun _ _ _ h => h) (Or.inl ⟨by rfl, ?_⟩) hS ?_
      rotate_left 1
      · intro w' hSw
        try dsimp only at hSw
        obtain ⟨q1, q2, q3⟩ := hSw
        go_simp
        all_goals with_reducible rfl
      try simp only [Act.put, List.setIfInBounds_toArray, List.set_cons_zero, List.set_cons_succ]
      refine held_take (i := 8) (v := ?_) 55 rfl rfl (by kernel_rfl) (by kernel_rfl) (by kernel_rfl) (fun _ _ _ h => h) (Or.inl ⟨by rfl, ?_⟩) hS ?_
      rotate_left 1
      · intro w' hSw
        try dsimp only at hSw
        obtain ⟨q1, q2, q3⟩ := hSw
        go_simp
        all_goals with_reducible rfl
      try simp only [Act.put, List.setIfInBounds_toArray, List.set_cons_zero, List.set_cons_succ]
      refine held_take (i := 9) (v := ?_) 56 rfl rfl (by kernel_rfl) (by kernel_rfl) (by kernel_rfl) (fun _ _ _ h => h) (Or.inl ⟨by rfl, ?_⟩) hS ?_
      rotate_left 1
      · intro w' hSw
        try dsimp only at hSw
        obtain ⟨q1, q2, q3⟩ := hSw
        go_simp
        all_goals with_reducible rfl
      try simp only [Act.put, List.setIfInBounds_toArray, List.set_cons_zero, List.set_cons_succ]
      refine held_take (i := 11) (v := ?_) 58 rfl rfl (by kernel_rfl) (by kernel_rfl) (by kernel_rfl) (fun _ _ _ h => h) (Or.inl ⟨by rfl, ?_⟩) hS ?_
      rotate_left 1
      · intro w' hSw
        try dsimp only at hSw
        obtain ⟨q1, q2, q3⟩ := hSw
        go_simp
        all_goals with_reducible rfl
      try simp only [Act.put, List.setIfInBounds_toArray, List.set_cons_zero, List.set_cons_succ]
      refine held_take (i := 12) (v := ?_) 59 rfl rfl (by kernel_rfl) (by kernel_rfl) (by kernel_rfl) (fun _ _ _ h => h) (Or.inl ⟨by rfl, ?_⟩) hS ?_
      rotate_left 1
      · intro w' hSw
        try dsimp only at hSw
        obtain ⟨q1, q2, q3⟩ := hSw
        go_simp
        all_goals with_reducible rfl
      try simp only [Act.put, List.setIfInBounds_toArray, List.set_cons_zero, List.set_cons_succ]
      refine held_take (i := 13) (v := ?_) 60 rfl rfl (by kernel_rfl) (by kernel_rfl) (by kernel_rfl) (fun _ _ _ h => h) (Or.inl ⟨by rfl, ?_⟩) hS ?_
      rotate_left 1
      · intro w' hSw
        try dsimp only at hSw
        obtain ⟨q1, q2, q3⟩ := hSw
        go_simp
        all_goals with_reducible rfl
      try simp only [Act.put, List.setIfInBounds_toArray, List.set_cons_zero, List.set_cons_succ]
      refine held_take (i := 14) (v := ?_) 61 rfl rfl (by kernel_rfl) (by kernel_rfl) (by kernel_rfl) (fun _ _ _ h => h) (Or.inl ⟨by rfl, ?_⟩) hS ?_
      rotate_left 1
      · intro w' hSw
        try dsimp only at hSw
        obtain ⟨q1, q2, q3⟩ := hSw
        go_simp
        all_goals with_reducible rfl
      try simp only [Act.put, List.setIfInBounds_toArray, List.set_cons_zero, List.set_cons_succ]
      refine held_take (i := 15) (v := ?_) 62 rfl rfl (by kernel_rfl) (by kernel_rfl) (by kernel_rfl) (fun _ _ _ h => h) (Or.inl ⟨by rfl, ?_⟩) hS ?_
      rotate_left 1
      · intro w' hSw
        try dsimp only at hSw
        obtain ⟨q1, q2, q3⟩ := hSw
        go_simp
        all_goals with_reducible rfl
      try simp only [Act.put, List.setIfInBounds_toArray, List.set_cons_zero, List.set_cons_succ]
      refine held_take (i := 16) (v := ?_) 63 rfl rfl (by kernel_rfl) (by kernel_rfl) (by kernel_rfl) (fun _ _ _ h => h) (Or.inl ⟨by rfl, ?_⟩) hS ?_
      rotate_left 1
      · intro w' hSw
        try dsimp only at hSw
        obtain ⟨q1, q2, q3⟩ := hSw
        go_simp
        all_goals with_reducible rfl
      try simp only [Act.put, List.setIfInBounds_toArray, List.set_cons_zero, List.set_cons_succ]
      refine held_take (i := 17) (v := ?_) 64 rfl rfl (by kernel_rfl) (by kernel_rfl) (by kernel_rfl) (fun _ _ _ h => h) (Or.inl ⟨by rfl, ?_⟩) hS ?_
      rotate_left 1
      · intro w' hSw
        try dsimp only at hSw
        obtain ⟨q1, q2, q3⟩ := hSw
        go_simp
        all_goals with_reducible rfl
      try simp only [Act.put, List.setIfInBounds_toArray, List.set_cons_zero, List.set_cons_succ]
      refine held_take (i := 18) (v := ?_) 65 rfl rfl (by kernel_rfl) (by kernel_rfl) (by kernel_rfl) (fun _ _ _ h => h) (Or.inl ⟨by rfl, ?_⟩) hS ?_
      rotate_left 1
      · intro w' hSw
        try dsimp only at hSw
        obtain ⟨q1, q2, q3⟩ := hSw
        go_simp
        all_goals with_reducible rfl
      try simp only [Act.put, List.setIfInBounds_toArray, List.set_cons_zero, List.set_cons_succ]
      refine held_take (i := 19) (v := ?_) 66 rfl rfl (by kernel_rfl) (by kernel_rfl) (by kernel_rfl) (fun _ _ _ h => h) (Or.inl ⟨by rfl, ?_⟩) hS ?_
      rotate_left 1
      · intro w' hSw
        try dsimp only at hSw
        obtain ⟨q1, q2, q3⟩ := hSw
        go_simp
        all_goals with_reducible rfl
      try simp only [Act.put, List.setIfInBounds_toArray, List.set_cons_zero, List.set_cons_succ]
      refine held_one (i := 10) (by kernel_rfl) rfl rfl (fun K hK => ?_)
      go_simp
      refine (hI1 _).mono ?_
      rintro e W' ⟨rfl, rfl⟩
      refine hK _ _ hS ?_
      clear hK K hI1
      try simp only [Act.put, List.setIfInBounds_toArray, List.set_cons_zero, List.set_cons_succ]
      refine held_one (i := 20) (by kernel_rfl) rfl rfl (fun K hK => ?_)
      go_simp
      refine (hI2 _).mono ?_
      rintro e W' ⟨rfl, rfl⟩
      refine hK _ _ hS ?_
      clear hK K hI2 u1 u2
      try simp only [Act.put, List.setIfInBounds_toArray, List.set_cons_zero, List.set_cons_succ]
      generalize hE1 : intoL 65536 (t.d.lo - 2) = v1 at *
      generalize hE2 : intoL 65536 (t.d.hi + 2) = v2 at *
      replace hE1 := Lib.hid hE1
      replace hE2 := Lib.hid hE2
      refine held_take (i := 21) (v := ?_) 68 rfl rfl (by kernel_rfl) (by kernel_rfl) (by kernel_rfl) (fun _ _ _ h => h) (Or.inl ⟨by rfl, ?_⟩) hS ?_
      rotate_left 1
      · intro w' hSw
        try dsimp only at hSw
        obtain ⟨q1, q2, q3⟩ := hSw
        go_simp
        all_goals with_reducible rfl
      try simp only [Act.put, List.setIfInBounds_toArray, List.set_cons_zero, List.set_cons_succ]
      refine held_take (i := 22) (v := ?_) 69 rfl rfl (by kernel_rfl) (by kernel_rfl) (by kernel_rfl) (fun _ _ _ h => h) (Or.inl ⟨by rfl, ?_⟩) hS ?_
      rotate_left 1
      · intro w' hSw
        try dsimp only at hSw
        obtain ⟨q1, q2, q3⟩ := hSw
        go_simp
        all_goals with_reducible rfl
      try simp only [Act.put, List.setIfInBounds_toArray, List.set_cons_zero, List.set_cons_succ]
      have k7z := (k7.set_ 6 (.int .i64 v1)).set_ 7 (.int .i64 v2)
      simp only [List.setIfInBounds_toArray, List.set_cons_zero, List.set_cons_succ] at k7z
      have k4z := (k4.far (p := ⟨g7, 6, none⟩) (show w.heap.size + 1 ≠ g7 by omega) (.int .i64 v1)).far (p := ⟨g7, 7, none⟩) (show w.heap.size + 1 ≠ g7 by omega) (.int .i64 v2)
      have k10z := (k10.far (p := ⟨g7, 6, none⟩) (show g10 ≠ g7 by omega) (.int .i64 v1)).far (p := ⟨g7, 7, none⟩) (show g10 ≠ g7 by omega) (.int .i64 v2)
      have k11z := (k11.far (p := ⟨g7, 6, none⟩) (show g11 ≠ g7 by omega) (.int .i64 v1)).far (p := ⟨g7, 7, none⟩) (show g11 ≠ g7 by omega) (.int .i64 v2)
      have k13z := (k13.far (p := ⟨g7, 6, none⟩) (show g13 ≠ g7 by omega) (.int .i64 v1)).far (p := ⟨g7, 7, none⟩) (show g13 ≠ g7 by omega) (.int .i64 v2)
      have bz := (hb.setCell (p := ⟨g7, 6, none⟩) (show w.heap.size ≤ g7 by omega) (.int .i64 v1)).setCell (p := ⟨g7, 7, none⟩) (show w.heap.size ≤ g7 by omega) (.int .i64 v2)
      obtain ⟨c7, f7, l7⟩ := k7.rules
      refine held_one (i := 23) (by kernel_rfl) rfl rfl (fun K hK => ?_)
      go_simp
      refine hK _ _ ⟨k10z.cell, k11z.cell, k13z.cell⟩ ?_
      clear hK K c7 f7 l7 hS k7 k4 k10 k11 k13 hb
      generalize (wd.setCell ⟨g7, 6, none⟩ (.int .i64 v1)).setCell ⟨g7, 7, none⟩ (.int .i64 v2) = W6 at *
      refine wpAnyH_done (by kernel_rfl) (noPanic_normal ?_) _
      go_wp2_with fail
      go_roundw
      case rel => exact ⟨3 + 1, rfl, by omega, by rw [← hE1.out, ← hE2.out] at k7z; exact k7z, k4z, k10z, k11z, bz⟩
      case measure => simp [intOf]
    | 4, _ =>
      have hti2 := hti2.out
      simp only [regA] at hti2
      simp only [regA, wideK] at k7
      rw [show jv 4 = .int .i64 4 from rfl]
      obtain ⟨c7, f7, l7⟩ := k7.rules
      go_wp2_with fail
      clear c7 f7 l7
      refine (hti2 _).mono ?_
      rintro e Wb ⟨rfl, hbel⟩
      replace k4 := k4.below hbel
      replace hb := hb.trans (hbel.mono hb.size)
      clear hbel hti2 k7 k10 k11
      go_wp2_with fail
      refine (hdo _).mono ?_
      rintro e Wc ⟨rfl, hbel⟩
      replace k4 := k4.below hbel
      replace hb := hb.trans (hbel.mono hb.size)
      clear hbel hdo
      have kz := k4.set8 (.int .i64 N.x.lo) (.int .i64 N.x.hi) (.int .i64 N.y.lo) (.int .i64 N.y.hi) (.int .i64 N.s.lo) (.int .i64 N.s.hi) (.int .i64 N.d.lo) (.int .i64 N.d.hi)
      have bz := below_set8 (g := w.heap.size + 1) hb (by omega) (.int .i64 N.x.lo) (.int .i64 N.x.hi) (.int .i64 N.y.lo) (.int .i64 N.y.hi) (.int .i64 N.s.lo) (.int .i64 N.s.hi) (.int .i64 N.d.lo) (.int .i64 N.d.hi)
      obtain ⟨wz, hwz⟩ : ∃ x, x = set8 Wc (w.heap.size + 1) (.int .i64 N.x.lo) (.int .i64 N.x.hi) (.int .i64 N.y.lo) (.int .i64 N.y.hi) (.int .i64 N.s.lo) (.int .i64 N.s.hi) (.int .i64 N.d.lo) (.int .i64 N.d.hi) := ⟨_, rfl⟩
      rw [← hwz] at kz bz
      simp only [set8] at hwz
      obtain ⟨c2, f2, l2⟩ := k4.rules
      clear k4 hb
      go_wp2
      rw [← hwz]
      clear hwz c2 f2 l2
      obtain ⟨c2, f2, l2⟩ := kz.rules
      exact bodyPost_ret (v := .tuple #[.agg #[.int .i64 N.x.lo, .int .i64 N.x.hi, .int .i64 N.y.lo, .int .i64 N.y.hi, .int .i64 N.s.lo, .int .i64 N.s.hi, .int .i64 N.d.lo, .int .i64 N.d.hi], .int .i64 0]) (by simp [results, Try.results51, go_sem, c2]) rfl ⟨rfl, bz⟩
end Go.Proofs.Ytjiaepphnddpoaa
