/-
  The law TowPlaces.
-/
import Derived.Test.YtjiaepphnddpoaaE1
import Derived.Test.YtjiaepphnddpoaaG10
namespace Go.Proofs.Ytjiaepphnddpoaa
open Go.RowKit Go.Shelf
set_option linter.unusedSimpArgs false
set_option linter.unusedVariables false

theorem turnedR_no {r : Reg} {h : Hdg} (e : (turnedR r h).2 ≠ 0) : turnedR r h = (noReg, (turnedR r h).2) := by
  unfold turnedR at *
  by_cases h1 : okReg r = true
  · rw [if_pos h1] at e ⊢
    by_cases h2 : okHdg h = true
    · rw [if_pos h2] at e ⊢
      cases h3 : tightO r with
      | none => rfl
      | some t =>
        rw [h3] at e
        dsimp only at e ⊢
        by_cases h4 : inPlane (turnedS t h) = true
        · rw [if_pos h4] at e; exact absurd rfl e
        · rw [if_neg h4]
    · rw [if_neg h2]
  · rw [if_neg h1]
theorem turnedR_yes {r : Reg} {h : Hdg} (e : (turnedR r h).2 = 0) : okReg r = true ∧ okHdg h = true ∧ ∃ t, tightO r = some t ∧ inPlane (turnedS t h) = true ∧ turnedR r h = (turnedS t h, 0) := by
  unfold turnedR at *
  by_cases h1 : okReg r = true
  · rw [if_pos h1] at e ⊢
    by_cases h2 : okHdg h = true
    · rw [if_pos h2] at e ⊢
      cases h3 : tightO r with
      | none => rw [h3] at e; simp at e
      | some t =>
        rw [h3] at e
        dsimp only at e ⊢
        by_cases h4 : inPlane (turnedS t h) = true
        · rw [if_pos h4]; exact ⟨h1, h2, t, rfl, h4, rfl⟩
        · rw [if_neg h4] at e; simp at e
    · rw [if_neg h2] at e; simp at e
  · rw [if_neg h1] at e; simp at e
theorem turnedR_seven {r t : Reg} {h : Hdg} (h1 : okReg r = true) (h2 : okHdg h = true) (h3 : tightO r = some t) (e : (turnedR r h).2 ≠ 0) : turnedR r h = (noReg, 7) := by
  unfold turnedR at *
  rw [if_pos h1, if_pos h2, h3] at e ⊢
  dsimp only at e ⊢
  by_cases h4 : inPlane (turnedS t h) = true
  · rw [if_pos h4] at e; exact absurd rfl e
  · rw [if_neg h4]
theorem in_pnt {r : Reg} {p : Pnt} (hr : okReg r = true) (h : inR p r) : okPnt p = true := by
  rw [okReg_iff] at hr
  unfold inR inB at h
  exact decide_eq_true (by omega)
/-- A place within two of a place of a region. -/
theorem near_wide {r : Reg} {p w : Pnt} (hp : okPnt p = true) (h : inR w r) (n : w.x - p.x ≤ 2 ∧ p.x - w.x ≤ 2 ∧ w.y - p.y ≤ 2 ∧ p.y - w.y ≤ 2 ∧ w.x + w.y - (p.x + p.y) ≤ 2 ∧ p.x + p.y - (w.x + w.y) ≤ 2 ∧ w.x - w.y - (p.x - p.y) ≤ 2 ∧ p.x - p.y - (w.x - w.y) ≤ 2) : inR p (wideR 2 2 r) := by
  have hp := of_decide_eq_true hp
  unfold inR inB at *
  unfold wideR wideB intoL
  dsimp only
  omega
/-- What is turned back, with all within two of it, has the place. -/
theorem back_has {r t : Reg} {h : Hdg} {p : Pnt} (hh : okHdg h = true) (hp : okPnt p = true) (hv : inR p r) (ht : tightO (turnedS r h) = some t) (hb : inPlane (turnedS t ⟨h.p, -h.q, h.c⟩) = true) :
    ∃ T N, okReg (turnedS t ⟨h.p, -h.q, h.c⟩) = true ∧ tightO (turnedS t ⟨h.p, -h.q, h.c⟩) = some T ∧ tightO (wideR 2 2 T) = some N ∧ okReg N = true ∧ inR p N := by
  obtain ⟨w, hw, hn⟩ := back_near hh hv ht
  obtain ⟨u, hu, -⟩ := turned_near hh hv
  have ok := turned_ok (inv_ok hh) ⟨_, tight_in ht hu⟩ hb
  obtain ⟨T, hT, hwT⟩ := tight_has hw
  have hpw := near_wide hp hwT hn
  obtain ⟨N, hN, hpN⟩ := tight_has hpw
  exact ⟨T, N, ok, hT, hN, tight_ok (wide_ok (tight_ok ok hT)) hN, hpN⟩
/-- A place that turns into a place. -/
theorem turned_exact {r : Reg} {h : Hdg} {p : Pnt} (hh : okHdg h = true) (hv : inR p r) (hx : (h.p * p.x - h.q * p.y).tmod h.c = 0) (hy : (h.q * p.x + h.p * p.y).tmod h.c = 0) :
    inR ⟨(h.p * p.x - h.q * p.y).tdiv h.c, (h.q * p.x + h.p * p.y).tdiv h.c⟩ (turnedS r h) := by
  obtain ⟨c1, c2, p1, p2, q1, q2, hn⟩ := okHdg_iff.1 hh
  have B1 := turnB_has (p := h.p) (q := -h.q) c1 hv
  have B2 := turnB_has (p := h.q) (q := h.p) c1 hv
  have B3 := turnB_has (p := h.p + h.q) (q := h.p - h.q) c1 hv
  have B4 := turnB_has (p := h.p - h.q) (q := -h.q - h.p) c1 hv
  have e1 := (Int.mul_tdiv_add_tmod (h.p * p.x - h.q * p.y) h.c)
  have e2 := (Int.mul_tdiv_add_tmod (h.q * p.x + h.p * p.y) h.c)
  rw [hx] at e1
  rw [hy] at e2
  have E1 : h.p * p.x + -h.q * p.y = h.p * p.x - h.q * p.y := by grind
  have E3 : (h.p + h.q) * p.x + (h.p - h.q) * p.y = (h.p * p.x - h.q * p.y) + (h.q * p.x + h.p * p.y) := by grind
  have E4 : (h.p - h.q) * p.x + (-h.q - h.p) * p.y = (h.p * p.x - h.q * p.y) - (h.q * p.x + h.p * p.y) := by grind
  rw [E1] at B1
  rw [E3] at B3
  rw [E4] at B4
  clear E1 E3 E4 hx hy
  generalize h.p * p.x - h.q * p.y = X at *
  generalize h.q * p.x + h.p * p.y = Y at *
  unfold inR inB turnedS
  dsimp only
  generalize turnB r h.c h.p (-h.q) = A1 at *
  generalize turnB r h.c h.q h.p = A2 at *
  generalize turnB r h.c (h.p + h.q) (h.p - h.q) = A3 at *
  generalize turnB r h.c (h.p - h.q) (-h.q - h.p) = A4 at *
  have F : ∀ a b : Int, h.c * (a - b) = h.c * a - h.c * b := fun a b => Int.mul_sub _ _ _
  have E : ∀ a b : Int, h.c * (a + b) = h.c * a + h.c * b := fun a b => Int.mul_add _ _ _
  refine ⟨⟨mul_le_of c1 ?_, mul_le_of c1 ?_⟩, ⟨mul_le_of c1 ?_, mul_le_of c1 ?_⟩, ⟨mul_le_of c1 ?_, mul_le_of c1 ?_⟩, mul_le_of c1 ?_, mul_le_of c1 ?_⟩
  all_goals ((try simp only [F, E]); omega)
theorem turn_bd {h : Hdg} {p : Pnt} (hh : okHdg h = true) (hp : okPnt p = true) : -32768000 ≤ h.p * p.x ∧ h.p * p.x ≤ 32768000 ∧ -32768000 ≤ h.q * p.y ∧ h.q * p.y ≤ 32768000 ∧ -32768000 ≤ h.q * p.x ∧ h.q * p.x ≤ 32768000 ∧ -32768000 ≤ h.p * p.y ∧ h.p * p.y ≤ 32768000 := by
  obtain ⟨c1, c2, p1, p2, q1, q2, hn⟩ := okHdg_iff.1 hh
  have hp := of_decide_eq_true hp
  have m1 := smul_bd (a := h.p) (b := p.x) (A := 1000) (B := 32768) (by omega) (by omega) (by omega) (by omega)
  have m2 := smul_bd (a := h.q) (b := p.y) (A := 1000) (B := 32768) (by omega) (by omega) (by omega) (by omega)
  have m3 := smul_bd (a := h.q) (b := p.x) (A := 1000) (B := 32768) (by omega) (by omega) (by omega) (by omega)
  have m4 := smul_bd (a := h.p) (b := p.y) (A := 1000) (B := 32768) (by omega) (by omega) (by omega) (by omega)
  omega
def quarN : Nat → Reg → Reg
  | 0, r => r
  | k + 1, r => quarR (quarN k r)
theorem quarN_all {r : Reg} (h : TightR r) (ho : okReg r = true) : ∀ k, TightR (quarN k r) ∧ okReg (quarN k r) = true
  | 0 => ⟨h, ho⟩
  | k + 1 => ⟨tight_quar (quarN_all h ho k).1, quar_ok (quarN_all h ho k).2⟩
theorem eq_regd (r : Reg) (w : World) : (Op.equalIn 10000 86 (.agg (regA r)) (.agg (regA r))).run Try.prog w = .ok true w := by
  simp only [regA]
  go_simp
set_option maxRecDepth 100000 in
set_option maxHeartbeats 4000000 in
theorem TowPlaces_any (r : Reg) (h : Hdg) (n0 n1 : Int) (w : World) :
    Calls Try.prog 14 #[.agg (regA r), .agg #[.int .i64 h.p, .int .i64 h.q, .int .i64 h.c], .agg #[.int .i64 n0, .int .i64 n1]] w fun e w' => e = .returned (.bool true) ∧ Below w.heap.size w w' := by
  have h1 := fun W => Turned_any r h W
  have heq := fun W t => eq_regd t W
  simp only [regA] at heq
  obtain ⟨w1, hw1⟩ : ∃ w1, w1 = ((w.alloc (.cells #[.int .i64 r.x.lo, .int .i64 r.x.hi, .int .i64 r.y.lo, .int .i64 r.y.hi, .int .i64 r.s.lo, .int .i64 r.s.hi, .int .i64 r.d.lo, .int .i64 r.d.hi] 86)).alloc (.cells #[.int .i64 h.p, .int .i64 h.q, .int .i64 h.c] 96)).alloc (.cells #[.int .i64 n0, .int .i64 n1] 54) := ⟨_, rfl⟩
  have k3 : Blk w1 w.heap.size 86 #[.int .i64 r.x.lo, .int .i64 r.x.hi, .int .i64 r.y.lo, .int .i64 r.y.hi, .int .i64 r.s.lo, .int .i64 r.s.hi, .int .i64 r.d.lo, .int .i64 r.d.hi] := by rw [hw1]; exact ((Blk.new _ _ _).alloc _).alloc _
  have k4 : Blk w1 (w.heap.size + 1) 96 #[.int .i64 h.p, .int .i64 h.q, .int .i64 h.c] := by rw [hw1]; exact (Blk.newAt (by simp)).alloc _
  have k5 : Blk w1 (w.heap.size + 1 + 1) 54 #[.int .i64 n0, .int .i64 n1] := by rw [hw1]; exact Blk.newAt (by simp)
  have b : Below w.heap.size w w1 := by rw [hw1]; exact (((Below.refl _ _).alloc (Nat.le_refl _) _).alloc (by simp) _).alloc (by simp; omega) _
  by_cases he : (turnedR r h).2 = 0
  · obtain ⟨hr, hh, T, hT, hpl, hv⟩ := turnedR_yes he
    simp only [hv] at h1
    obtain ⟨c1, c2, p1, p2, q1, q2, hn⟩ := okHdg_iff.1 hh
    have hTt := tight_tight hT
    have hTo := tight_ok hr hT
    obtain ⟨p, hp⟩ : ∃ p, chosenP T n0 n1 = p := ⟨_, rfl⟩
    have hpT : inR p T := by rw [← hp]; exact chosen_in hTt n0 n1
    have hpo := in_pnt hTo hpT
    obtain ⟨t, ht⟩ : ∃ t, turnedS T h = t := ⟨_, rfl⟩
    have hto : okReg t = true := by rw [← ht]; exact turned_ok hh ⟨p, hpT⟩ hpl
    obtain ⟨u, hu, -⟩ := turned_near hh hpT
    rw [ht] at hu
    obtain ⟨t', ht', -⟩ := tight_has hu
    clear hu
    have htr : tightR t = (t', 0) := by rw [tightR, if_pos hto, ht']; rfl
    have hTr : tightR r = (T, 0) := by rw [tightR, if_pos hr, hT]; rfl
    have h2 := fun W => Tight_any t W
    have h3 := fun W => Turned_any t ⟨h.p, -h.q, h.c⟩ W
    have h4 := fun W => chosen_any r T n0 n1 W hr hT
    have h7 := fun W => Tight_any r W
    simp only [htr] at h2
    simp only [hTr] at h7
    simp only [hp] at h4
    have hQ := quarN_all hTt hTo
    have h8 := fun k W => Turned_any (quarN k T) ⟨0, 1, 1⟩ W
    have hq8 := fun k => turnedR_quar (hQ k).1 (hQ k).2
    simp only [hq8] at h8
    have hbd := turn_bd hh hpo
    have u1 := IntWalk.i64_in (h.p * p.x) (by omega)
    have u2 := IntWalk.i64_in (h.q * p.y) (by omega)
    have u3 := IntWalk.i64_in (h.p * p.x - h.q * p.y) (by omega)
    have u4 := IntWalk.i64_in (h.q * p.x) (by omega)
    have u5 := IntWalk.i64_in (h.p * p.y) (by omega)
    have u6 := IntWalk.i64_in (h.q * p.x + h.p * p.y) (by omega)
    have u7 := IntWalk.i64_in (-h.q) (by omega)
    have hti := fun hx hy => turned_exact hh hpT hx hy
    rw [ht] at hti
    have hbk := fun hb => back_has (t := t') hh hpo hpT (by rw [ht]; exact ht') hb
    have h3y := fun e => turnedR_yes (r := t) (h := ⟨h.p, -h.q, h.c⟩) e
    have h3n := fun e => turnedR_seven (r := t) (h := ⟨h.p, -h.q, h.c⟩) hto (inv_ok hh) ht' e
    have hte : ∀ X, tightO t = some X → t' = X := fun X e => by rw [ht'] at e; exact Option.some.inj e
    rw [ht] at h1
    have hz : ¬ h.c = 0 := by omega
    simp only [regA] at h1 h2 h4 h7 h8 ⊢
    clear he hv hpl hn hTr htr hr hh hTt hTo hQ hq8 hp ht hbd
    replace hpT := Lib.hid hpT
    replace hT := Lib.hid hT
    replace ht' := Lib.hid ht'
    replace hti := Lib.hid hti
    replace hbk := Lib.hid hbk
    replace h3y := Lib.hid h3y
    replace h3n := Lib.hid h3n
    replace hte := Lib.hid hte
    replace u1 := Lib.hid u1
    replace u2 := Lib.hid u2
    replace u3 := Lib.hid u3
    replace u4 := Lib.hid u4
    replace u5 := Lib.hid u5
    replace u6 := Lib.hid u6
    replace heq := Lib.hid heq
    by_cases he3 : (turnedR t ⟨h.p, -h.q, h.c⟩).2 = 0
    · obtain ⟨-, -, X, hX, hXp, hv3⟩ := h3y.out he3
      obtain rfl := hte.out X hX
      obtain ⟨T2, N, hBo, hB2, hN, hNo, hpN⟩ := hbk.out hXp
      simp only [hv3] at h3
      generalize turnedS t' ⟨h.p, -h.q, h.c⟩ = B at *
      have h5 := fun W => Reach2_any B T2 N W hBo hB2 hN
      have h6 := fun W => Has_yes N p W hNo hpo hpN
      simp only [regA] at h3 h5 h6
      clear hXp hBo hB2 hN hNo hpN hv3 he3 hX hbk h3y h3n hte
      go_enter Try.func14, Try.ntmps14
      go_wp2_with fail
      rw [← hw1]
      clear hw1
      refine (h1 _).mono ?_
      rintro e W ⟨rfl, hbel⟩
      replace k3 := k3.below hbel
      replace k4 := k4.below hbel
      replace k5 := k5.below hbel
      replace b := b.trans (hbel.mono b.size)
      clear hbel h1
      go_wp2_with fail
      have k7 := Blk.new W 86 #[.int .i64 t.x.lo, .int .i64 t.x.hi, .int .i64 t.y.lo, .int .i64 t.y.hi, .int .i64 t.s.lo, .int .i64 t.s.hi, .int .i64 t.d.lo, .int .i64 t.d.hi]
      have hbel := (Below.refl W.heap.size W).alloc (Nat.le_refl _) (.cells #[.int .i64 t.x.lo, .int .i64 t.x.hi, .int .i64 t.y.lo, .int .i64 t.y.hi, .int .i64 t.s.lo, .int .i64 t.s.hi, .int .i64 t.d.lo, .int .i64 t.d.hi] 86)
      replace k3 := k3.below hbel
      replace k4 := k4.below hbel
      replace k5 := k5.below hbel
      replace b := b.trans (hbel.mono b.size)
      skip
      clear hbel
      generalize W.alloc (.cells #[.int .i64 t.x.lo, .int .i64 t.x.hi, .int .i64 t.y.lo, .int .i64 t.y.hi, .int .i64 t.s.lo, .int .i64 t.s.hi, .int .i64 t.d.lo, .int .i64 t.d.hi] 86) = W1 at *
      generalize W.heap.size = g7 at *
      obtain ⟨c7, f7, l7⟩ := k7.rules
      go_wp2_with fail
      clear c7 f7 l7
      refine (h2 _).mono ?_
      rintro e W ⟨rfl, hbel⟩
      replace k3 := k3.below hbel
      replace k4 := k4.below hbel
      replace k5 := k5.below hbel
      replace b := b.trans (hbel.mono b.size)
      replace k7 := k7.below hbel
      clear hbel h2
      obtain ⟨c7, f7, l7⟩ := k7.rules
      obtain ⟨c4, f4, l4⟩ := k4.rules
      go_wp2_with fail
      clear c7 f7 l7 c4 f4 l4
      have k9 := Blk.new W 86 #[.int .i64 t'.x.lo, .int .i64 t'.x.hi, .int .i64 t'.y.lo, .int .i64 t'.y.hi, .int .i64 t'.s.lo, .int .i64 t'.s.hi, .int .i64 t'.d.lo, .int .i64 t'.d.hi]
      have hbel := (Below.refl W.heap.size W).alloc (Nat.le_refl _) (.cells #[.int .i64 t'.x.lo, .int .i64 t'.x.hi, .int .i64 t'.y.lo, .int .i64 t'.y.hi, .int .i64 t'.s.lo, .int .i64 t'.s.hi, .int .i64 t'.d.lo, .int .i64 t'.d.hi] 86)
      replace k3 := k3.below hbel
      replace k4 := k4.below hbel
      replace k5 := k5.below hbel
      replace b := b.trans (hbel.mono b.size)
      replace k7 := k7.below hbel
      clear hbel
      generalize W.alloc (.cells #[.int .i64 t'.x.lo, .int .i64 t'.x.hi, .int .i64 t'.y.lo, .int .i64 t'.y.hi, .int .i64 t'.s.lo, .int .i64 t'.s.hi, .int .i64 t'.d.lo, .int .i64 t'.d.hi] 86) = W1 at *
      generalize W.heap.size = g9 at *
      clear k9
      refine (h3 _).mono ?_
      rintro e W ⟨rfl, hbel⟩
      replace k3 := k3.below hbel
      replace k4 := k4.below hbel
      replace k5 := k5.below hbel
      replace b := b.trans (hbel.mono b.size)
      replace k7 := k7.below hbel
      clear hbel h3
      obtain ⟨c3, f3, l3⟩ := k3.rules
      obtain ⟨c5, f5, l5⟩ := k5.rules
      go_wp2_with fail
      clear c3 f3 l3 c5 f5 l5
      have k11 := Blk.new W 86 #[.int .i64 B.x.lo, .int .i64 B.x.hi, .int .i64 B.y.lo, .int .i64 B.y.hi, .int .i64 B.s.lo, .int .i64 B.s.hi, .int .i64 B.d.lo, .int .i64 B.d.hi]
      have hbel := (Below.refl W.heap.size W).alloc (Nat.le_refl _) (.cells #[.int .i64 B.x.lo, .int .i64 B.x.hi, .int .i64 B.y.lo, .int .i64 B.y.hi, .int .i64 B.s.lo, .int .i64 B.s.hi, .int .i64 B.d.lo, .int .i64 B.d.hi] 86)
      replace k3 := k3.below hbel
      replace k4 := k4.below hbel
      replace k5 := k5.below hbel
      replace b := b.trans (hbel.mono b.size)
      replace k7 := k7.below hbel
      clear hbel
      generalize W.alloc (.cells #[.int .i64 B.x.lo, .int .i64 B.x.hi, .int .i64 B.y.lo, .int .i64 B.y.hi, .int .i64 B.s.lo, .int .i64 B.s.hi, .int .i64 B.d.lo, .int .i64 B.d.hi] 86) = W1 at *
      generalize W.heap.size = g11 at *
      refine (h4 _).mono ?_
      rintro e W ⟨rfl, hbel⟩
      replace k3 := k3.below hbel
      replace k4 := k4.below hbel
      replace k5 := k5.below hbel
      replace b := b.trans (hbel.mono b.size)
      replace k7 := k7.below hbel
      replace k11 := k11.below hbel
      clear hbel h4
      obtain ⟨c11, f11, l11⟩ := k11.rules
      go_wp2_with fail
      clear c11 f11 l11
      have k12 := Blk.new W 88 #[.int .i64 p.x, .int .i64 p.y]
      have hbel := (Below.refl W.heap.size W).alloc (Nat.le_refl _) (.cells #[.int .i64 p.x, .int .i64 p.y] 88)
      replace k3 := k3.below hbel
      replace k4 := k4.below hbel
      replace k5 := k5.below hbel
      replace b := b.trans (hbel.mono b.size)
      replace k7 := k7.below hbel
      replace k11 := k11.below hbel
      clear hbel
      generalize W.alloc (.cells #[.int .i64 p.x, .int .i64 p.y] 88) = W1 at *
      generalize W.heap.size = g12 at *
      clear k11
      refine (h5 _).mono ?_
      rintro e W ⟨rfl, hbel⟩
      replace k3 := k3.below hbel
      replace k4 := k4.below hbel
      replace k5 := k5.below hbel
      replace b := b.trans (hbel.mono b.size)
      replace k7 := k7.below hbel
      replace k12 := k12.below hbel
      clear hbel h5
      obtain ⟨c12, f12, l12⟩ := k12.rules
      go_wp2_with fail
      clear c12 f12 l12
      have k14 := Blk.new W 86 #[.int .i64 N.x.lo, .int .i64 N.x.hi, .int .i64 N.y.lo, .int .i64 N.y.hi, .int .i64 N.s.lo, .int .i64 N.s.hi, .int .i64 N.d.lo, .int .i64 N.d.hi]
      have hbel := (Below.refl W.heap.size W).alloc (Nat.le_refl _) (.cells #[.int .i64 N.x.lo, .int .i64 N.x.hi, .int .i64 N.y.lo, .int .i64 N.y.hi, .int .i64 N.s.lo, .int .i64 N.s.hi, .int .i64 N.d.lo, .int .i64 N.d.hi] 86)
      replace k3 := k3.below hbel
      replace k4 := k4.below hbel
      replace k5 := k5.below hbel
      replace b := b.trans (hbel.mono b.size)
      replace k7 := k7.below hbel; replace k12 := k12.below hbel
      clear hbel
      generalize W.alloc (.cells #[.int .i64 N.x.lo, .int .i64 N.x.hi, .int .i64 N.y.lo, .int .i64 N.y.hi, .int .i64 N.s.lo, .int .i64 N.s.hi, .int .i64 N.d.lo, .int .i64 N.d.hi] 86) = W1 at *
      generalize W.heap.size = g14 at *
      clear k14
      refine (h6 _).mono ?_
      rintro e W ⟨rfl, hbel⟩
      replace k3 := k3.below hbel
      replace k4 := k4.below hbel
      replace k5 := k5.below hbel
      replace b := b.trans (hbel.mono b.size)
      replace k7 := k7.below hbel
      replace k12 := k12.below hbel
      clear hbel h6
      obtain ⟨c4, f4, l4⟩ := k4.rules
      obtain ⟨c12, f12, l12⟩ := k12.rules
      have u1 := u1.out
      have u2 := u2.out
      have u3 := u3.out
      have u4 := u4.out
      have u5 := u5.out
      have u6 := u6.out
      go_wp2_with fail
      go_quiet (fail)
      clear c4 f4 l4 c12 f12 l12 u1 u2 u3 u4 u5 u6 k12 k5
      replace k3 := k3.drewN nq
      replace k4 := k4.drewN nq
      replace k7 := k7.drewN nq
      replace b := below_drewN b nq
      generalize (W).drewN nq = W2 at *
      generalize h.p * p.x - h.q * p.y = X at *
      generalize h.q * p.x + h.p * p.y = Y at *
      have hm1 := IntWalk.i64_in (X.tmod h.c) (by have := (tdiv_spec X h.c (by omega)); omega)
      have hm2 := IntWalk.i64_in (Y.tmod h.c) (by have := (tdiv_spec Y h.c (by omega)); omega)
      by_cases d1 : X.tmod h.c = 0
      · by_cases d2 : Y.tmod h.c = 0
        · skip
          have hx := hti.out d1 d2
          have hxo := in_pnt hto hx
          have hxb := of_decide_eq_true hxo
          have h9 := fun W => Has_yes t ⟨X.tdiv h.c, Y.tdiv h.c⟩ W hto hxo hx
          have v1 := IntWalk.i64_in (X.tdiv h.c) (by dsimp only at hxb; omega)
          have v2 := IntWalk.i64_in (Y.tdiv h.c) (by dsimp only at hxb; omega)
          simp only [regA] at h9
          replace hx := Lib.hid hx
          replace hxo := Lib.hid hxo
          replace hxb := Lib.hid hxb
          obtain ⟨c4, f4, l4⟩ := k4.rules
          go_wp2_with fail
          clear c4 f4 l4
          refine wp_held_np (fun w' : World => (∀ j, w'.cell? ⟨g7, j, none⟩ = #[Value.int .i64 t.x.lo, .int .i64 t.x.hi, .int .i64 t.y.lo, .int .i64 t.y.hi, .int .i64 t.s.lo, .int .i64 t.s.hi, .int .i64 t.d.lo, .int .i64 t.d.hi][j]?) ∧ (∀ j, w'.cell? ⟨w.heap.size + 1, j, none⟩ = #[Value.int .i64 h.p, .int .i64 h.q, .int .i64 h.c][j]?)) (by kernel_rfl) ?_
          have hbel : Below W2.heap.size W2 W2.drew := (Below.refl _ _).drew
          replace k3 := k3.below hbel
          replace k4 := k4.below hbel
          replace b := b.trans (hbel.mono b.size)
          replace k7 := k7.below hbel
          clear hbel
          generalize W2.drew = wd at *
          have hS : (fun w' : World => (∀ j, w'.cell? ⟨g7, j, none⟩ = #[Value.int .i64 t.x.lo, .int .i64 t.x.hi, .int .i64 t.y.lo, .int .i64 t.y.hi, .int .i64 t.s.lo, .int .i64 t.s.hi, .int .i64 t.d.lo, .int .i64 t.d.hi][j]?) ∧ (∀ j, w'.cell? ⟨w.heap.size + 1, j, none⟩ = #[Value.int .i64 h.p, .int .i64 h.q, .int .i64 h.c][j]?)) wd := ⟨k7.cell, k4.cell⟩
          refine held_take (i := 0) (v := ?_) 134 rfl rfl (by kernel_rfl) (by kernel_rfl) (by kernel_rfl) (fun _ _ _ h => h) (Or.inl ⟨by rfl, ?_⟩) hS ?_
          rotate_left 1
          · intro w' hSw
            try dsimp only at hSw
            obtain ⟨q1, q2⟩ := hSw
            go_simp
            all_goals with_reducible rfl
          try simp only [Act.put, List.setIfInBounds_toArray, List.set_cons_zero, List.set_cons_succ]
          refine held_take (i := 1) (v := ?_) 135 rfl rfl (by kernel_rfl) (by kernel_rfl) (by kernel_rfl) (fun _ _ _ h => h) (Or.inl ⟨by rfl, ?_⟩) hS ?_
          rotate_left 1
          · intro w' hSw
            try dsimp only at hSw
            obtain ⟨q1, q2⟩ := hSw
            go_simp
            all_goals with_reducible rfl
          try simp only [Act.put, List.setIfInBounds_toArray, List.set_cons_zero, List.set_cons_succ]
          refine held_take (i := 2) (v := ?_) 136 rfl rfl (by kernel_rfl) (by kernel_rfl) (by kernel_rfl) (fun _ _ _ h => h) (Or.inl ⟨by rfl, ?_⟩) hS ?_
          rotate_left 1
          · intro w' hSw
            try dsimp only at hSw
            obtain ⟨q1, q2⟩ := hSw
            go_simp
            all_goals with_reducible rfl
          try simp only [Act.put, List.setIfInBounds_toArray, List.set_cons_zero, List.set_cons_succ]
          refine held_take (i := 3) (v := ?_) 137 rfl rfl (by kernel_rfl) (by kernel_rfl) (by kernel_rfl) (fun _ _ _ h => h) (Or.inl ⟨by rfl, ?_⟩) hS ?_
          rotate_left 1
          · intro w' hSw
            try dsimp only at hSw
            obtain ⟨q1, q2⟩ := hSw
            go_simp
            all_goals with_reducible rfl
          try simp only [Act.put, List.setIfInBounds_toArray, List.set_cons_zero, List.set_cons_succ]
          refine held_take (i := 4) (v := ?_) 138 rfl rfl (by kernel_rfl) (by kernel_rfl) (by kernel_rfl) (fun _ _ _ h => h) (Or.inl ⟨by rfl, ?_⟩) hS ?_
          rotate_left 1
          · intro w' hSw
            try dsimp only at hSw
            obtain ⟨q1, q2⟩ := hSw
            go_simp
            all_goals with_reducible rfl
          try simp only [Act.put, List.setIfInBounds_toArray, List.set_cons_zero, List.set_cons_succ]
          refine held_take (i := 5) (v := ?_) 139 rfl rfl (by kernel_rfl) (by kernel_rfl) (by kernel_rfl) (fun _ _ _ h => h) (Or.inl ⟨by rfl, ?_⟩) hS ?_
          rotate_left 1
          · intro w' hSw
            try dsimp only at hSw
            obtain ⟨q1, q2⟩ := hSw
            go_simp
            all_goals with_reducible rfl
          try simp only [Act.put, List.setIfInBounds_toArray, List.set_cons_zero, List.set_cons_succ]
          refine held_take (i := 6) (v := ?_) 140 rfl rfl (by kernel_rfl) (by kernel_rfl) (by kernel_rfl) (fun _ _ _ h => h) (Or.inl ⟨by rfl, ?_⟩) hS ?_
          rotate_left 1
          · intro w' hSw
            try dsimp only at hSw
            obtain ⟨q1, q2⟩ := hSw
            go_simp
            all_goals with_reducible rfl
          try simp only [Act.put, List.setIfInBounds_toArray, List.set_cons_zero, List.set_cons_succ]
          refine held_take (i := 7) (v := ?_) 141 rfl rfl (by kernel_rfl) (by kernel_rfl) (by kernel_rfl) (fun _ _ _ h => h) (Or.inl ⟨by rfl, ?_⟩) hS ?_
          rotate_left 1
          · intro w' hSw
            try dsimp only at hSw
            obtain ⟨q1, q2⟩ := hSw
            go_simp
            all_goals with_reducible rfl
          try simp only [Act.put, List.setIfInBounds_toArray, List.set_cons_zero, List.set_cons_succ]
          refine held_take (i := 8) (v := ?_) 142 rfl rfl (by kernel_rfl) (by kernel_rfl) (by kernel_rfl) (fun _ _ _ h => h) (Or.inl ⟨by rfl, ?_⟩) hS ?_
          rotate_left 1
          · intro w' hSw
            try dsimp only at hSw
            obtain ⟨q1, q2⟩ := hSw
            go_simp
            all_goals with_reducible rfl
          try simp only [Act.put, List.setIfInBounds_toArray, List.set_cons_zero, List.set_cons_succ]
          refine held_take (i := 9) (v := ?_) 143 rfl rfl (by kernel_rfl) (by kernel_rfl) (by kernel_rfl) (fun _ _ _ h => h) (Or.inl ⟨by rfl, ?_⟩) hS ?_
          rotate_left 1
          · intro w' hSw
            try dsimp only at hSw
            obtain ⟨q1, q2⟩ := hSw
            go_simp
            all_goals with_reducible rfl
          try simp only [Act.put, List.setIfInBounds_toArray, List.set_cons_zero, List.set_cons_succ]
          refine held_one (i := 10) (by kernel_rfl) rfl rfl (fun K hK => ?_)
          go_simp
          refine (h9 _).mono ?_
          rintro e W1 ⟨rfl, hbel⟩
          clear hS
          replace k3 := k3.below hbel
          replace k4 := k4.below hbel
          replace k7 := k7.below hbel
          replace b := b.trans (hbel.mono b.size)
          clear hbel h9
          have hS : (fun w' : World => (∀ j, w'.cell? ⟨g7, j, none⟩ = #[Value.int .i64 t.x.lo, .int .i64 t.x.hi, .int .i64 t.y.lo, .int .i64 t.y.hi, .int .i64 t.s.lo, .int .i64 t.s.hi, .int .i64 t.d.lo, .int .i64 t.d.hi][j]?) ∧ (∀ j, w'.cell? ⟨w.heap.size + 1, j, none⟩ = #[Value.int .i64 h.p, .int .i64 h.q, .int .i64 h.c][j]?)) W1 := ⟨k7.cell, k4.cell⟩
          refine hK _ _ hS ?_
          clear hK K
          try simp only [Act.put, List.setIfInBounds_toArray, List.set_cons_zero, List.set_cons_succ]
          refine held_take (i := 11) (v := ?_) 133 rfl rfl (by kernel_rfl) (by kernel_rfl) (by kernel_rfl) (fun _ _ _ h => h) (Or.inl ⟨by rfl, ?_⟩) hS ?_
          rotate_left 1
          · intro w' hSw
            try dsimp only at hSw
            obtain ⟨q1, q2⟩ := hSw
            go_simp
            all_goals with_reducible rfl
          try simp only [Act.put, List.setIfInBounds_toArray, List.set_cons_zero, List.set_cons_succ]
          refine held_take (i := 12) (v := ?_) 145 rfl rfl (by kernel_rfl) (by kernel_rfl) (by kernel_rfl) (fun _ _ _ h => h) (Or.inl ⟨by rfl, ?_⟩) hS ?_
          rotate_left 1
          · intro w' hSw
            try dsimp only at hSw
            obtain ⟨q1, q2⟩ := hSw
            go_simp
            all_goals with_reducible rfl
          try simp only [Act.put, List.setIfInBounds_toArray, List.set_cons_zero, List.set_cons_succ]
          refine held_take (i := 13) (v := ?_) 146 rfl rfl (by kernel_rfl) (by kernel_rfl) (by kernel_rfl) (fun _ _ _ h => h) (Or.inl ⟨by rfl, ?_⟩) hS ?_
          rotate_left 1
          · intro w' hSw
            try dsimp only at hSw
            obtain ⟨q1, q2⟩ := hSw
            go_simp
            all_goals with_reducible rfl
          try simp only [Act.put, List.setIfInBounds_toArray, List.set_cons_zero, List.set_cons_succ]
          refine held_take (i := 14) (v := ?_) 20 rfl rfl (by kernel_rfl) (by kernel_rfl) (by kernel_rfl) (fun _ _ _ h => h) (Or.inl ⟨by rfl, ?_⟩) hS ?_
          rotate_left 1
          · intro w' hSw
            try dsimp only at hSw
            obtain ⟨q1, q2⟩ := hSw
            go_simp
            all_goals with_reducible rfl
          try simp only [Act.put, List.setIfInBounds_toArray, List.set_cons_zero, List.set_cons_succ]
          refine held_take (i := 15) (v := ?_) 21 rfl rfl (by kernel_rfl) (by kernel_rfl) (by kernel_rfl) (fun _ _ _ h => h) (Or.inl ⟨by rfl, ?_⟩) hS ?_
          rotate_left 1
          · intro w' hSw
            try dsimp only at hSw
            obtain ⟨q1, q2⟩ := hSw
            go_simp
            all_goals with_reducible rfl
          try simp only [Act.put, List.setIfInBounds_toArray, List.set_cons_zero, List.set_cons_succ]
          refine wpAnyH_done (by kernel_rfl) (noPanic_normal ?_) _
          clear hS k4 k7 v1 v2
          obtain ⟨c3, f3, l3⟩ := k3.rules
          go_wp2_with fail
          clear c3 f3 l3
          refine (h7 _).mono ?_
          rintro e W ⟨rfl, hbel⟩
          replace b := b.trans (hbel.mono b.size)
          clear hbel h7 k3
          go_wp2_with fail
          have k22 : Blk ((W.alloc (.cells #[.int .i64 T.x.lo, .int .i64 T.x.hi, .int .i64 T.y.lo, .int .i64 T.y.hi, .int .i64 T.s.lo, .int .i64 T.s.hi, .int .i64 T.d.lo, .int .i64 T.d.hi] 86)).alloc (.cells #[.int .i64 T.x.lo, .int .i64 T.x.hi, .int .i64 T.y.lo, .int .i64 T.y.hi, .int .i64 T.s.lo, .int .i64 T.s.hi, .int .i64 T.d.lo, .int .i64 T.d.hi] 86)) W.heap.size 86 #[.int .i64 T.x.lo, .int .i64 T.x.hi, .int .i64 T.y.lo, .int .i64 T.y.hi, .int .i64 T.s.lo, .int .i64 T.s.hi, .int .i64 T.d.lo, .int .i64 T.d.hi] := (Blk.new _ _ _).alloc _
          have k23 : Blk ((W.alloc (.cells #[.int .i64 T.x.lo, .int .i64 T.x.hi, .int .i64 T.y.lo, .int .i64 T.y.hi, .int .i64 T.s.lo, .int .i64 T.s.hi, .int .i64 T.d.lo, .int .i64 T.d.hi] 86)).alloc (.cells #[.int .i64 T.x.lo, .int .i64 T.x.hi, .int .i64 T.y.lo, .int .i64 T.y.hi, .int .i64 T.s.lo, .int .i64 T.s.hi, .int .i64 T.d.lo, .int .i64 T.d.hi] 86)) (W.heap.size + 1) 86 #[.int .i64 T.x.lo, .int .i64 T.x.hi, .int .i64 T.y.lo, .int .i64 T.y.hi, .int .i64 T.s.lo, .int .i64 T.s.hi, .int .i64 T.d.lo, .int .i64 T.d.hi] := Blk.newAt (by simp)
          have hg := b.size
          replace b := (b.alloc b.size (.cells #[.int .i64 T.x.lo, .int .i64 T.x.hi, .int .i64 T.y.lo, .int .i64 T.y.hi, .int .i64 T.s.lo, .int .i64 T.s.hi, .int .i64 T.d.lo, .int .i64 T.d.hi] 86)).alloc (by simp; omega) (.cells #[.int .i64 T.x.lo, .int .i64 T.x.hi, .int .i64 T.y.lo, .int .i64 T.y.hi, .int .i64 T.s.lo, .int .i64 T.s.hi, .int .i64 T.d.lo, .int .i64 T.d.hi] 86)
          generalize (W.alloc (.cells #[.int .i64 T.x.lo, .int .i64 T.x.hi, .int .i64 T.y.lo, .int .i64 T.y.hi, .int .i64 T.s.lo, .int .i64 T.s.hi, .int .i64 T.d.lo, .int .i64 T.d.hi] 86)).alloc (.cells #[.int .i64 T.x.lo, .int .i64 T.x.hi, .int .i64 T.y.lo, .int .i64 T.y.hi, .int .i64 T.s.lo, .int .i64 T.s.hi, .int .i64 T.d.lo, .int .i64 T.d.hi] 86) = W3 at *
          obtain ⟨g23, hg23⟩ : ∃ g23, W.heap.size + 1 = g23 := ⟨_, rfl⟩
          rw [hg23] at k23 ⊢
          generalize W.heap.size = g22 at *
          go_loopw [8, 24] (fun e j wr => ∃ k : Nat, j = .int .i64 k ∧ e = .int .i64 0 ∧ k ≤ 4 ∧ Blk wr g22 86 #[.int .i64 T.x.lo, .int .i64 T.x.hi, .int .i64 T.y.lo, .int .i64 T.y.hi, .int .i64 T.s.lo, .int .i64 T.s.hi, .int .i64 T.d.lo, .int .i64 T.d.hi] ∧ Blk wr g23 86 (regA (quarN k T)) ∧ Below w.heap.size w wr) (fun e j wr => 4 - (intOf j).toNat)
          case atStart => exact ⟨0, rfl, rfl, by omega, k22, k23, b⟩
          case round =>
            clear k22 k23 b
            obtain ⟨k, rfl, rfl, hk, k22, k23, b⟩ := hrel
            by_cases hlt : k < 4
            · have h8k := h8 k
              obtain ⟨R, hR⟩ : ∃ R, quarN k T = R := ⟨_, rfl⟩
              have hR2 : quarN (k + 1) T = quarR R := by rw [← hR]; rfl
              obtain ⟨R2, hR3⟩ : ∃ R2, quarR R = R2 := ⟨_, rfl⟩
              rw [hR3] at hR2
              simp only [hR, hR3] at h8k
              rw [hR] at k23
              simp only [regA] at k23
              replace hR := Lib.hid hR
              replace hR2 := Lib.hid hR2
              replace hR3 := Lib.hid hR3
              clear h8
              obtain ⟨c23, f23, l23⟩ := k23.rules
              go_wp2_with fail
              clear c23 f23 l23
              refine (h8k _).mono ?_
              rintro e W ⟨rfl, hbel⟩
              replace k22 := k22.below hbel
              replace k23 := k23.below hbel
              replace b := b.trans (hbel.mono b.size)
              clear hbel h8k
              have kz := k23.set8 (.int .i64 R2.x.lo) (.int .i64 R2.x.hi) (.int .i64 R2.y.lo) (.int .i64 R2.y.hi) (.int .i64 R2.s.lo) (.int .i64 R2.s.hi) (.int .i64 R2.d.lo) (.int .i64 R2.d.hi)
              have kf := far_set8 k22 (show g22 ≠ g23 by omega) (.int .i64 R2.x.lo) (.int .i64 R2.x.hi) (.int .i64 R2.y.lo) (.int .i64 R2.y.hi) (.int .i64 R2.s.lo) (.int .i64 R2.s.hi) (.int .i64 R2.d.lo) (.int .i64 R2.d.hi)
              have bz := below_set8 (g := g23) b (by omega) (.int .i64 R2.x.lo) (.int .i64 R2.x.hi) (.int .i64 R2.y.lo) (.int .i64 R2.y.hi) (.int .i64 R2.s.lo) (.int .i64 R2.s.hi) (.int .i64 R2.d.lo) (.int .i64 R2.d.hi)
              obtain ⟨wz, hwz⟩ : ∃ x, x = set8 W g23 (.int .i64 R2.x.lo) (.int .i64 R2.x.hi) (.int .i64 R2.y.lo) (.int .i64 R2.y.hi) (.int .i64 R2.s.lo) (.int .i64 R2.s.hi) (.int .i64 R2.d.lo) (.int .i64 R2.d.hi) := ⟨_, rfl⟩
              rw [← hwz] at kz kf bz
              simp only [set8] at hwz
              obtain ⟨c23, f23, l23⟩ := k23.rules
              go_wp2_with fail
              rw [← hwz]
              clear hwz c23 f23 l23
              go_roundw
              case rel => exact ⟨k + 1, by go_num, rfl, by omega, kf, by rw [hR2.out]; exact kz, bz⟩
              case measure => simp [intOf]; omega
            · obtain rfl : k = 4 := by omega
              have e4 : quarN 4 T = T := quar_four T
              rw [e4] at k23
              simp only [regA] at k23
              have heqT := fun W => heq.out W T
              clear e4 h8
              obtain ⟨c22, f22, l22⟩ := k22.rules
              obtain ⟨c23, f23, l23⟩ := k23.rules
              go_wp2_with fail
              clear c22 f22 l22 c23 f23 l23
              refine (works_any _).mono ?_
              rintro e W' ⟨rfl, hbel⟩
              go_wp2
              go_ret
              exact ⟨rfl, b.trans (hbel.mono b.size)⟩
        · obtain ⟨c4, f4, l4⟩ := k4.rules
          obtain ⟨c3, f3, l3⟩ := k3.rules
          go_wp2_with fail
          clear c3 f3 l3
          refine (h7 _).mono ?_
          rintro e W ⟨rfl, hbel⟩
          replace b := b.trans (hbel.mono b.size)
          clear hbel h7 k3
          go_wp2_with fail
          have k22 : Blk ((W.alloc (.cells #[.int .i64 T.x.lo, .int .i64 T.x.hi, .int .i64 T.y.lo, .int .i64 T.y.hi, .int .i64 T.s.lo, .int .i64 T.s.hi, .int .i64 T.d.lo, .int .i64 T.d.hi] 86)).alloc (.cells #[.int .i64 T.x.lo, .int .i64 T.x.hi, .int .i64 T.y.lo, .int .i64 T.y.hi, .int .i64 T.s.lo, .int .i64 T.s.hi, .int .i64 T.d.lo, .int .i64 T.d.hi] 86)) W.heap.size 86 #[.int .i64 T.x.lo, .int .i64 T.x.hi, .int .i64 T.y.lo, .int .i64 T.y.hi, .int .i64 T.s.lo, .int .i64 T.s.hi, .int .i64 T.d.lo, .int .i64 T.d.hi] := (Blk.new _ _ _).alloc _
          have k23 : Blk ((W.alloc (.cells #[.int .i64 T.x.lo, .int .i64 T.x.hi, .int .i64 T.y.lo, .int .i64 T.y.hi, .int .i64 T.s.lo, .int .i64 T.s.hi, .int .i64 T.d.lo, .int .i64 T.d.hi] 86)).alloc (.cells #[.int .i64 T.x.lo, .int .i64 T.x.hi, .int .i64 T.y.lo, .int .i64 T.y.hi, .int .i64 T.s.lo, .int .i64 T.s.hi, .int .i64 T.d.lo, .int .i64 T.d.hi] 86)) (W.heap.size + 1) 86 #[.int .i64 T.x.lo, .int .i64 T.x.hi, .int .i64 T.y.lo, .int .i64 T.y.hi, .int .i64 T.s.lo, .int .i64 T.s.hi, .int .i64 T.d.lo, .int .i64 T.d.hi] := Blk.newAt (by simp)
          have hg := b.size
          replace b := (b.alloc b.size (.cells #[.int .i64 T.x.lo, .int .i64 T.x.hi, .int .i64 T.y.lo, .int .i64 T.y.hi, .int .i64 T.s.lo, .int .i64 T.s.hi, .int .i64 T.d.lo, .int .i64 T.d.hi] 86)).alloc (by simp; omega) (.cells #[.int .i64 T.x.lo, .int .i64 T.x.hi, .int .i64 T.y.lo, .int .i64 T.y.hi, .int .i64 T.s.lo, .int .i64 T.s.hi, .int .i64 T.d.lo, .int .i64 T.d.hi] 86)
          generalize (W.alloc (.cells #[.int .i64 T.x.lo, .int .i64 T.x.hi, .int .i64 T.y.lo, .int .i64 T.y.hi, .int .i64 T.s.lo, .int .i64 T.s.hi, .int .i64 T.d.lo, .int .i64 T.d.hi] 86)).alloc (.cells #[.int .i64 T.x.lo, .int .i64 T.x.hi, .int .i64 T.y.lo, .int .i64 T.y.hi, .int .i64 T.s.lo, .int .i64 T.s.hi, .int .i64 T.d.lo, .int .i64 T.d.hi] 86) = W3 at *
          obtain ⟨g23, hg23⟩ : ∃ g23, W.heap.size + 1 = g23 := ⟨_, rfl⟩
          rw [hg23] at k23 ⊢
          generalize W.heap.size = g22 at *
          go_loopw [8, 24] (fun e j wr => ∃ k : Nat, j = .int .i64 k ∧ e = .int .i64 0 ∧ k ≤ 4 ∧ Blk wr g22 86 #[.int .i64 T.x.lo, .int .i64 T.x.hi, .int .i64 T.y.lo, .int .i64 T.y.hi, .int .i64 T.s.lo, .int .i64 T.s.hi, .int .i64 T.d.lo, .int .i64 T.d.hi] ∧ Blk wr g23 86 (regA (quarN k T)) ∧ Below w.heap.size w wr) (fun e j wr => 4 - (intOf j).toNat)
          case atStart => exact ⟨0, rfl, rfl, by omega, k22, k23, b⟩
          case round =>
            clear k22 k23 b
            obtain ⟨k, rfl, rfl, hk, k22, k23, b⟩ := hrel
            by_cases hlt : k < 4
            · have h8k := h8 k
              obtain ⟨R, hR⟩ : ∃ R, quarN k T = R := ⟨_, rfl⟩
              have hR2 : quarN (k + 1) T = quarR R := by rw [← hR]; rfl
              obtain ⟨R2, hR3⟩ : ∃ R2, quarR R = R2 := ⟨_, rfl⟩
              rw [hR3] at hR2
              simp only [hR, hR3] at h8k
              rw [hR] at k23
              simp only [regA] at k23
              replace hR := Lib.hid hR
              replace hR2 := Lib.hid hR2
              replace hR3 := Lib.hid hR3
              clear h8
              obtain ⟨c23, f23, l23⟩ := k23.rules
              go_wp2_with fail
              clear c23 f23 l23
              refine (h8k _).mono ?_
              rintro e W ⟨rfl, hbel⟩
              replace k22 := k22.below hbel
              replace k23 := k23.below hbel
              replace b := b.trans (hbel.mono b.size)
              clear hbel h8k
              have kz := k23.set8 (.int .i64 R2.x.lo) (.int .i64 R2.x.hi) (.int .i64 R2.y.lo) (.int .i64 R2.y.hi) (.int .i64 R2.s.lo) (.int .i64 R2.s.hi) (.int .i64 R2.d.lo) (.int .i64 R2.d.hi)
              have kf := far_set8 k22 (show g22 ≠ g23 by omega) (.int .i64 R2.x.lo) (.int .i64 R2.x.hi) (.int .i64 R2.y.lo) (.int .i64 R2.y.hi) (.int .i64 R2.s.lo) (.int .i64 R2.s.hi) (.int .i64 R2.d.lo) (.int .i64 R2.d.hi)
              have bz := below_set8 (g := g23) b (by omega) (.int .i64 R2.x.lo) (.int .i64 R2.x.hi) (.int .i64 R2.y.lo) (.int .i64 R2.y.hi) (.int .i64 R2.s.lo) (.int .i64 R2.s.hi) (.int .i64 R2.d.lo) (.int .i64 R2.d.hi)
              obtain ⟨wz, hwz⟩ : ∃ x, x = set8 W g23 (.int .i64 R2.x.lo) (.int .i64 R2.x.hi) (.int .i64 R2.y.lo) (.int .i64 R2.y.hi) (.int .i64 R2.s.lo) (.int .i64 R2.s.hi) (.int .i64 R2.d.lo) (.int .i64 R2.d.hi) := ⟨_, rfl⟩
              rw [← hwz] at kz kf bz
              simp only [set8] at hwz
              obtain ⟨c23, f23, l23⟩ := k23.rules
              go_wp2_with fail
              rw [← hwz]
              clear hwz c23 f23 l23
              go_roundw
              case rel => exact ⟨k + 1, by go_num, rfl, by omega, kf, by rw [hR2.out]; exact kz, bz⟩
              case measure => simp [intOf]; omega
            · obtain rfl : k = 4 := by omega
              have e4 : quarN 4 T = T := quar_four T
              rw [e4] at k23
              simp only [regA] at k23
              have heqT := fun W => heq.out W T
              clear e4 h8
              obtain ⟨c22, f22, l22⟩ := k22.rules
              obtain ⟨c23, f23, l23⟩ := k23.rules
              go_wp2_with fail
              clear c22 f22 l22 c23 f23 l23
              refine (works_any _).mono ?_
              rintro e W' ⟨rfl, hbel⟩
              go_wp2
              go_ret
              exact ⟨rfl, b.trans (hbel.mono b.size)⟩
      · obtain ⟨c4, f4, l4⟩ := k4.rules
        obtain ⟨c3, f3, l3⟩ := k3.rules
        go_wp2_with fail
        clear c3 f3 l3
        refine (h7 _).mono ?_
        rintro e W ⟨rfl, hbel⟩
        replace b := b.trans (hbel.mono b.size)
        clear hbel h7 k3
        go_wp2_with fail
        have k22 : Blk ((W.alloc (.cells #[.int .i64 T.x.lo, .int .i64 T.x.hi, .int .i64 T.y.lo, .int .i64 T.y.hi, .int .i64 T.s.lo, .int .i64 T.s.hi, .int .i64 T.d.lo, .int .i64 T.d.hi] 86)).alloc (.cells #[.int .i64 T.x.lo, .int .i64 T.x.hi, .int .i64 T.y.lo, .int .i64 T.y.hi, .int .i64 T.s.lo, .int .i64 T.s.hi, .int .i64 T.d.lo, .int .i64 T.d.hi] 86)) W.heap.size 86 #[.int .i64 T.x.lo, .int .i64 T.x.hi, .int .i64 T.y.lo, .int .i64 T.y.hi, .int .i64 T.s.lo, .int .i64 T.s.hi, .int .i64 T.d.lo, .int .i64 T.d.hi] := (Blk.new _ _ _).alloc _
        have k23 : Blk ((W.alloc (.cells #[.int .i64 T.x.lo, .int .i64 T.x.hi, .int .i64 T.y.lo, .int .i64 T.y.hi, .int .i64 T.s.lo, .int .i64 T.s.hi, .int .i64 T.d.lo, .int .i64 T.d.hi] 86)).alloc (.cells #[.int .i64 T.x.lo, .int .i64 T.x.hi, .int .i64 T.y.lo, .int .i64 T.y.hi, .int .i64 T.s.lo, .int .i64 T.s.hi, .int .i64 T.d.lo, .int .i64 T.d.hi] 86)) (W.heap.size + 1) 86 #[.int .i64 T.x.lo, .int .i64 T.x.hi, .int .i64 T.y.lo, .int .i64 T.y.hi, .int .i64 T.s.lo, .int .i64 T.s.hi, .int .i64 T.d.lo, .int .i64 T.d.hi] := Blk.newAt (by simp)
        have hg := b.size
        replace b := (b.alloc b.size (.cells #[.int .i64 T.x.lo, .int .i64 T.x.hi, .int .i64 T.y.lo, .int .i64 T.y.hi, .int .i64 T.s.lo, .int .i64 T.s.hi, .int .i64 T.d.lo, .int .i64 T.d.hi] 86)).alloc (by simp; omega) (.cells #[.int .i64 T.x.lo, .int .i64 T.x.hi, .int .i64 T.y.lo, .int .i64 T.y.hi, .int .i64 T.s.lo, .int .i64 T.s.hi, .int .i64 T.d.lo, .int .i64 T.d.hi] 86)
        generalize (W.alloc (.cells #[.int .i64 T.x.lo, .int .i64 T.x.hi, .int .i64 T.y.lo, .int .i64 T.y.hi, .int .i64 T.s.lo, .int .i64 T.s.hi, .int .i64 T.d.lo, .int .i64 T.d.hi] 86)).alloc (.cells #[.int .i64 T.x.lo, .int .i64 T.x.hi, .int .i64 T.y.lo, .int .i64 T.y.hi, .int .i64 T.s.lo, .int .i64 T.s.hi, .int .i64 T.d.lo, .int .i64 T.d.hi] 86) = W3 at *
        obtain ⟨g23, hg23⟩ : ∃ g23, W.heap.size + 1 = g23 := ⟨_, rfl⟩
        rw [hg23] at k23 ⊢
        generalize W.heap.size = g22 at *
        go_loopw [8, 24] (fun e j wr => ∃ k : Nat, j = .int .i64 k ∧ e = .int .i64 0 ∧ k ≤ 4 ∧ Blk wr g22 86 #[.int .i64 T.x.lo, .int .i64 T.x.hi, .int .i64 T.y.lo, .int .i64 T.y.hi, .int .i64 T.s.lo, .int .i64 T.s.hi, .int .i64 T.d.lo, .int .i64 T.d.hi] ∧ Blk wr g23 86 (regA (quarN k T)) ∧ Below w.heap.size w wr) (fun e j wr => 4 - (intOf j).toNat)
        case atStart => exact ⟨0, rfl, rfl, by omega, k22, k23, b⟩
        case round =>
          clear k22 k23 b
          obtain ⟨k, rfl, rfl, hk, k22, k23, b⟩ := hrel
          by_cases hlt : k < 4
          · have h8k := h8 k
            obtain ⟨R, hR⟩ : ∃ R, quarN k T = R := ⟨_, rfl⟩
            have hR2 : quarN (k + 1) T = quarR R := by rw [← hR]; rfl
            obtain ⟨R2, hR3⟩ : ∃ R2, quarR R = R2 := ⟨_, rfl⟩
            rw [hR3] at hR2
            simp only [hR, hR3] at h8k
            rw [hR] at k23
            simp only [regA] at k23
            replace hR := Lib.hid hR
            replace hR2 := Lib.hid hR2
            replace hR3 := Lib.hid hR3
            clear h8
            obtain ⟨c23, f23, l23⟩ := k23.rules
            go_wp2_with fail
            clear c23 f23 l23
            refine (h8k _).mono ?_
            rintro e W ⟨rfl, hbel⟩
            replace k22 := k22.below hbel
            replace k23 := k23.below hbel
            replace b := b.trans (hbel.mono b.size)
            clear hbel h8k
            have kz := k23.set8 (.int .i64 R2.x.lo) (.int .i64 R2.x.hi) (.int .i64 R2.y.lo) (.int .i64 R2.y.hi) (.int .i64 R2.s.lo) (.int .i64 R2.s.hi) (.int .i64 R2.d.lo) (.int .i64 R2.d.hi)
            have kf := far_set8 k22 (show g22 ≠ g23 by omega) (.int .i64 R2.x.lo) (.int .i64 R2.x.hi) (.int .i64 R2.y.lo) (.int .i64 R2.y.hi) (.int .i64 R2.s.lo) (.int .i64 R2.s.hi) (.int .i64 R2.d.lo) (.int .i64 R2.d.hi)
            have bz := below_set8 (g := g23) b (by omega) (.int .i64 R2.x.lo) (.int .i64 R2.x.hi) (.int .i64 R2.y.lo) (.int .i64 R2.y.hi) (.int .i64 R2.s.lo) (.int .i64 R2.s.hi) (.int .i64 R2.d.lo) (.int .i64 R2.d.hi)
            obtain ⟨wz, hwz⟩ : ∃ x, x = set8 W g23 (.int .i64 R2.x.lo) (.int .i64 R2.x.hi) (.int .i64 R2.y.lo) (.int .i64 R2.y.hi) (.int .i64 R2.s.lo) (.int .i64 R2.s.hi) (.int .i64 R2.d.lo) (.int .i64 R2.d.hi) := ⟨_, rfl⟩
            rw [← hwz] at kz kf bz
            simp only [set8] at hwz
            obtain ⟨c23, f23, l23⟩ := k23.rules
            go_wp2_with fail
            rw [← hwz]
            clear hwz c23 f23 l23
            go_roundw
            case rel => exact ⟨k + 1, by go_num, rfl, by omega, kf, by rw [hR2.out]; exact kz, bz⟩
            case measure => simp [intOf]; omega
          · obtain rfl : k = 4 := by omega
            have e4 : quarN 4 T = T := quar_four T
            rw [e4] at k23
            simp only [regA] at k23
            have heqT := fun W => heq.out W T
            clear e4 h8
            obtain ⟨c22, f22, l22⟩ := k22.rules
            obtain ⟨c23, f23, l23⟩ := k23.rules
            go_wp2_with fail
            clear c22 f22 l22 c23 f23 l23
            refine (works_any _).mono ?_
            rintro e W' ⟨rfl, hbel⟩
            go_wp2
            go_ret
            exact ⟨rfl, b.trans (hbel.mono b.size)⟩
    · have hv3 := h3n.out he3
      simp only [hv3] at h3
      obtain ⟨Z, hZ⟩ : ∃ Z, noReg = Z := ⟨_, rfl⟩
      simp only [hZ, regA] at h3
      clear he3 hv3 hbk h3y h3n hte hZ
      go_enter Try.func14, Try.ntmps14
      go_wp2_with fail
      rw [← hw1]
      clear hw1
      refine (h1 _).mono ?_
      rintro e W ⟨rfl, hbel⟩
      replace k3 := k3.below hbel
      replace k4 := k4.below hbel
      replace k5 := k5.below hbel
      replace b := b.trans (hbel.mono b.size)
      clear hbel h1
      go_wp2_with fail
      have k7 := Blk.new W 86 #[.int .i64 t.x.lo, .int .i64 t.x.hi, .int .i64 t.y.lo, .int .i64 t.y.hi, .int .i64 t.s.lo, .int .i64 t.s.hi, .int .i64 t.d.lo, .int .i64 t.d.hi]
      have hbel := (Below.refl W.heap.size W).alloc (Nat.le_refl _) (.cells #[.int .i64 t.x.lo, .int .i64 t.x.hi, .int .i64 t.y.lo, .int .i64 t.y.hi, .int .i64 t.s.lo, .int .i64 t.s.hi, .int .i64 t.d.lo, .int .i64 t.d.hi] 86)
      replace k3 := k3.below hbel
      replace k4 := k4.below hbel
      replace k5 := k5.below hbel
      replace b := b.trans (hbel.mono b.size)
      skip
      clear hbel
      generalize W.alloc (.cells #[.int .i64 t.x.lo, .int .i64 t.x.hi, .int .i64 t.y.lo, .int .i64 t.y.hi, .int .i64 t.s.lo, .int .i64 t.s.hi, .int .i64 t.d.lo, .int .i64 t.d.hi] 86) = W1 at *
      generalize W.heap.size = g7 at *
      obtain ⟨c7, f7, l7⟩ := k7.rules
      go_wp2_with fail
      clear c7 f7 l7
      refine (h2 _).mono ?_
      rintro e W ⟨rfl, hbel⟩
      replace k3 := k3.below hbel
      replace k4 := k4.below hbel
      replace k5 := k5.below hbel
      replace b := b.trans (hbel.mono b.size)
      replace k7 := k7.below hbel
      clear hbel h2
      obtain ⟨c7, f7, l7⟩ := k7.rules
      obtain ⟨c4, f4, l4⟩ := k4.rules
      go_wp2_with fail
      clear c7 f7 l7 c4 f4 l4
      have k9 := Blk.new W 86 #[.int .i64 t'.x.lo, .int .i64 t'.x.hi, .int .i64 t'.y.lo, .int .i64 t'.y.hi, .int .i64 t'.s.lo, .int .i64 t'.s.hi, .int .i64 t'.d.lo, .int .i64 t'.d.hi]
      have hbel := (Below.refl W.heap.size W).alloc (Nat.le_refl _) (.cells #[.int .i64 t'.x.lo, .int .i64 t'.x.hi, .int .i64 t'.y.lo, .int .i64 t'.y.hi, .int .i64 t'.s.lo, .int .i64 t'.s.hi, .int .i64 t'.d.lo, .int .i64 t'.d.hi] 86)
      replace k3 := k3.below hbel
      replace k4 := k4.below hbel
      replace k5 := k5.below hbel
      replace b := b.trans (hbel.mono b.size)
      replace k7 := k7.below hbel
      clear hbel
      generalize W.alloc (.cells #[.int .i64 t'.x.lo, .int .i64 t'.x.hi, .int .i64 t'.y.lo, .int .i64 t'.y.hi, .int .i64 t'.s.lo, .int .i64 t'.s.hi, .int .i64 t'.d.lo, .int .i64 t'.d.hi] 86) = W1 at *
      generalize W.heap.size = g9 at *
      clear k9
      refine (h3 _).mono ?_
      rintro e W ⟨rfl, hbel⟩
      replace k3 := k3.below hbel
      replace k4 := k4.below hbel
      replace k5 := k5.below hbel
      replace b := b.trans (hbel.mono b.size)
      replace k7 := k7.below hbel
      clear hbel h3
      obtain ⟨c3, f3, l3⟩ := k3.rules
      obtain ⟨c5, f5, l5⟩ := k5.rules
      go_wp2_with fail
      clear c3 f3 l3 c5 f5 l5
      have k11 := Blk.new W 86 #[.int .i64 Z.x.lo, .int .i64 Z.x.hi, .int .i64 Z.y.lo, .int .i64 Z.y.hi, .int .i64 Z.s.lo, .int .i64 Z.s.hi, .int .i64 Z.d.lo, .int .i64 Z.d.hi]
      have hbel := (Below.refl W.heap.size W).alloc (Nat.le_refl _) (.cells #[.int .i64 Z.x.lo, .int .i64 Z.x.hi, .int .i64 Z.y.lo, .int .i64 Z.y.hi, .int .i64 Z.s.lo, .int .i64 Z.s.hi, .int .i64 Z.d.lo, .int .i64 Z.d.hi] 86)
      replace k3 := k3.below hbel
      replace k4 := k4.below hbel
      replace k5 := k5.below hbel
      replace b := b.trans (hbel.mono b.size)
      replace k7 := k7.below hbel
      clear hbel
      generalize W.alloc (.cells #[.int .i64 Z.x.lo, .int .i64 Z.x.hi, .int .i64 Z.y.lo, .int .i64 Z.y.hi, .int .i64 Z.s.lo, .int .i64 Z.s.hi, .int .i64 Z.d.lo, .int .i64 Z.d.hi] 86) = W1 at *
      generalize W.heap.size = g11 at *
      refine (h4 _).mono ?_
      rintro e W ⟨rfl, hbel⟩
      replace k3 := k3.below hbel
      replace k4 := k4.below hbel
      replace k5 := k5.below hbel
      replace b := b.trans (hbel.mono b.size)
      replace k7 := k7.below hbel
      replace k11 := k11.below hbel
      clear hbel h4
      go_wp2_with fail
      have k12 := Blk.new W 88 #[.int .i64 p.x, .int .i64 p.y]
      have hbel := (Below.refl W.heap.size W).alloc (Nat.le_refl _) (.cells #[.int .i64 p.x, .int .i64 p.y] 88)
      replace k3 := k3.below hbel
      replace k4 := k4.below hbel
      replace k5 := k5.below hbel
      replace b := b.trans (hbel.mono b.size)
      replace k7 := k7.below hbel
      replace k11 := k11.below hbel
      clear hbel
      generalize W.alloc (.cells #[.int .i64 p.x, .int .i64 p.y] 88) = W1 at *
      generalize W.heap.size = g12 at *
      clear k11
      obtain ⟨c4, f4, l4⟩ := k4.rules
      obtain ⟨c12, f12, l12⟩ := k12.rules
      have u1 := u1.out
      have u2 := u2.out
      have u3 := u3.out
      have u4 := u4.out
      have u5 := u5.out
      have u6 := u6.out
      go_wp2_with fail
      go_quiet (fail)
      clear c4 f4 l4 c12 f12 l12 u1 u2 u3 u4 u5 u6 k12 k5
      replace k3 := k3.drewN nq
      replace k4 := k4.drewN nq
      replace k7 := k7.drewN nq
      replace b := below_drewN b nq
      generalize (W1).drewN nq = W2 at *
      generalize h.p * p.x - h.q * p.y = X at *
      generalize h.q * p.x + h.p * p.y = Y at *
      have hm1 := IntWalk.i64_in (X.tmod h.c) (by have := (tdiv_spec X h.c (by omega)); omega)
      have hm2 := IntWalk.i64_in (Y.tmod h.c) (by have := (tdiv_spec Y h.c (by omega)); omega)
      by_cases d1 : X.tmod h.c = 0
      · by_cases d2 : Y.tmod h.c = 0
        · skip
          have hx := hti.out d1 d2
          have hxo := in_pnt hto hx
          have hxb := of_decide_eq_true hxo
          have h9 := fun W => Has_yes t ⟨X.tdiv h.c, Y.tdiv h.c⟩ W hto hxo hx
          have v1 := IntWalk.i64_in (X.tdiv h.c) (by dsimp only at hxb; omega)
          have v2 := IntWalk.i64_in (Y.tdiv h.c) (by dsimp only at hxb; omega)
          simp only [regA] at h9
          replace hx := Lib.hid hx
          replace hxo := Lib.hid hxo
          replace hxb := Lib.hid hxb
          obtain ⟨c4, f4, l4⟩ := k4.rules
          go_wp2_with fail
          clear c4 f4 l4
          refine wp_held_np (fun w' : World => (∀ j, w'.cell? ⟨g7, j, none⟩ = #[Value.int .i64 t.x.lo, .int .i64 t.x.hi, .int .i64 t.y.lo, .int .i64 t.y.hi, .int .i64 t.s.lo, .int .i64 t.s.hi, .int .i64 t.d.lo, .int .i64 t.d.hi][j]?) ∧ (∀ j, w'.cell? ⟨w.heap.size + 1, j, none⟩ = #[Value.int .i64 h.p, .int .i64 h.q, .int .i64 h.c][j]?)) (by kernel_rfl) ?_
          have hbel : Below W2.heap.size W2 W2.drew := (Below.refl _ _).drew
          replace k3 := k3.below hbel
          replace k4 := k4.below hbel
          replace b := b.trans (hbel.mono b.size)
          replace k7 := k7.below hbel
          clear hbel
          generalize W2.drew = wd at *
          have hS : (fun w' : World => (∀ j, w'.cell? ⟨g7, j, none⟩ = #[Value.int .i64 t.x.lo, .int .i64 t.x.hi, .int .i64 t.y.lo, .int .i64 t.y.hi, .int .i64 t.s.lo, .int .i64 t.s.hi, .int .i64 t.d.lo, .int .i64 t.d.hi][j]?) ∧ (∀ j, w'.cell? ⟨w.heap.size + 1, j, none⟩ = #[Value.int .i64 h.p, .int .i64 h.q, .int .i64 h.c][j]?)) wd := ⟨k7.cell, k4.cell⟩
          refine held_take (i := 0) (v := ?_) 134 rfl rfl (by kernel_rfl) (by kernel_rfl) (by kernel_rfl) (fun _ _ _ h => h) (Or.inl ⟨by rfl, ?_⟩) hS ?_
          rotate_left 1
          · intro w' hSw
            try dsimp only at hSw
            obtain ⟨q1, q2⟩ := hSw
            go_simp
            all_goals with_reducible rfl
          try simp only [Act.put, List.setIfInBounds_toArray, List.set_cons_zero, List.set_cons_succ]
          refine held_take (i := 1) (v := ?_) 135 rfl rfl (by kernel_rfl) (by kernel_rfl) (by kernel_rfl) (fun _ _ _ h => h) (Or.inl ⟨by rfl, ?_⟩) hS ?_
          rotate_left 1
          · intro w' hSw
            try dsimp only at hSw
            obtain ⟨q1, q2⟩ := hSw
            go_simp
            all_goals with_reducible rfl
          try simp only [Act.put, List.setIfInBounds_toArray, List.set_cons_zero, List.set_cons_succ]
          refine held_take (i := 2) (v := ?_) 136 rfl rfl (by kernel_rfl) (by kernel_rfl) (by kernel_rfl) (fun _ _ _ h => h) (Or.inl ⟨by rfl, ?_⟩) hS ?_
          rotate_left 1
          · intro w' hSw
            try dsimp only at hSw
            obtain ⟨q1, q2⟩ := hSw
            go_simp
            all_goals with_reducible rfl
          try simp only [Act.put, List.setIfInBounds_toArray, List.set_cons_zero, List.set_cons_succ]
          refine held_take (i := 3) (v := ?_) 137 rfl rfl (by kernel_rfl) (by kernel_rfl) (by kernel_rfl) (fun _ _ _ h => h) (Or.inl ⟨by rfl, ?_⟩) hS ?_
          rotate_left 1
          · intro w' hSw
            try dsimp only at hSw
            obtain ⟨q1, q2⟩ := hSw
            go_simp
            all_goals with_reducible rfl
          try simp only [Act.put, List.setIfInBounds_toArray, List.set_cons_zero, List.set_cons_succ]
          refine held_take (i := 4) (v := ?_) 138 rfl rfl (by kernel_rfl) (by kernel_rfl) (by kernel_rfl) (fun _ _ _ h => h) (Or.inl ⟨by rfl, ?_⟩) hS ?_
          rotate_left 1
          · intro w' hSw
            try dsimp only at hSw
            obtain ⟨q1, q2⟩ := hSw
            go_simp
            all_goals with_reducible rfl
          try simp only [Act.put, List.setIfInBounds_toArray, List.set_cons_zero, List.set_cons_succ]
          refine held_take (i := 5) (v := ?_) 139 rfl rfl (by kernel_rfl) (by kernel_rfl) (by kernel_rfl) (fun _ _ _ h => h) (Or.inl ⟨by rfl, ?_⟩) hS ?_
          rotate_left 1
          · intro w' hSw
            try dsimp only at hSw
            obtain ⟨q1, q2⟩ := hSw
            go_simp
            all_goals with_reducible rfl
          try simp only [Act.put, List.setIfInBounds_toArray, List.set_cons_zero, List.set_cons_succ]
          refine held_take (i := 6) (v := ?_) 140 rfl rfl (by kernel_rfl) (by kernel_rfl) (by kernel_rfl) (fun _ _ _ h => h) (Or.inl ⟨by rfl, ?_⟩) hS ?_
          rotate_left 1
          · intro w' hSw
            try dsimp only at hSw
            obtain ⟨q1, q2⟩ := hSw
            go_simp
            all_goals with_reducible rfl
          try simp only [Act.put, List.setIfInBounds_toArray, List.set_cons_zero, List.set_cons_succ]
          refine held_take (i := 7) (v := ?_) 141 rfl rfl (by kernel_rfl) (by kernel_rfl) (by kernel_rfl) (fun _ _ _ h => h) (Or.inl ⟨by rfl, ?_⟩) hS ?_
          rotate_left 1
          · intro w' hSw
            try dsimp only at hSw
            obtain ⟨q1, q2⟩ := hSw
            go_simp
            all_goals with_reducible rfl
          try simp only [Act.put, List.setIfInBounds_toArray, List.set_cons_zero, List.set_cons_succ]
          refine held_take (i := 8) (v := ?_) 142 rfl rfl (by kernel_rfl) (by kernel_rfl) (by kernel_rfl) (fun _ _ _ h => h) (Or.inl ⟨by rfl, ?_⟩) hS ?_
          rotate_left 1
          · intro w' hSw
            try dsimp only at hSw
            obtain ⟨q1, q2⟩ := hSw
            go_simp
            all_goals with_reducible rfl
          try simp only [Act.put, List.setIfInBounds_toArray, List.set_cons_zero, List.set_cons_succ]
          refine held_take (i := 9) (v := ?_) 143 rfl rfl (by kernel_rfl) (by kernel_rfl) (by kernel_rfl) (fun _ _ _ h => h) (Or.inl ⟨by rfl, ?_⟩) hS ?_
          rotate_left 1
          · intro w' hSw
            try dsimp only at hSw
            obtain ⟨q1, q2⟩ := hSw
            go_simp
            all_goals with_reducible rfl
          try simp only [Act.put, List.setIfInBounds_toArray, List.set_cons_zero, List.set_cons_succ]
          refine held_one (i := 10) (by kernel_rfl) rfl rfl (fun K hK => ?_)
          go_simp
          refine (h9 _).mono ?_
          rintro e W1 ⟨rfl, hbel⟩
          clear hS
          replace k3 := k3.below hbel
          replace k4 := k4.below hbel
          replace k7 := k7.below hbel
          replace b := b.trans (hbel.mono b.size)
          clear hbel h9
          have hS : (fun w' : World => (∀ j, w'.cell? ⟨g7, j, none⟩ = #[Value.int .i64 t.x.lo, .int .i64 t.x.hi, .int .i64 t.y.lo, .int .i64 t.y.hi, .int .i64 t.s.lo, .int .i64 t.s.hi, .int .i64 t.d.lo, .int .i64 t.d.hi][j]?) ∧ (∀ j, w'.cell? ⟨w.heap.size + 1, j, none⟩ = #[Value.int .i64 h.p, .int .i64 h.q, .int .i64 h.c][j]?)) W1 := ⟨k7.cell, k4.cell⟩
          refine hK _ _ hS ?_
          clear hK K
          try simp only [Act.put, List.setIfInBounds_toArray, List.set_cons_zero, List.set_cons_succ]
          refine held_take (i := 11) (v := ?_) 133 rfl rfl (by kernel_rfl) (by kernel_rfl) (by kernel_rfl) (fun _ _ _ h => h) (Or.inl ⟨by rfl, ?_⟩) hS ?_
          rotate_left 1
          · intro w' hSw
            try dsimp only at hSw
            obtain ⟨q1, q2⟩ := hSw
            go_simp
            all_goals with_reducible rfl
          try simp only [Act.put, List.setIfInBounds_toArray, List.set_cons_zero, List.set_cons_succ]
          refine held_take (i := 12) (v := ?_) 145 rfl rfl (by kernel_rfl) (by kernel_rfl) (by kernel_rfl) (fun _ _ _ h => h) (Or.inl ⟨by rfl, ?_⟩) hS ?_
          rotate_left 1
          · intro w' hSw
            try dsimp only at hSw
            obtain ⟨q1, q2⟩ := hSw
            go_simp
            all_goals with_reducible rfl
          try simp only [Act.put, List.setIfInBounds_toArray, List.set_cons_zero, List.set_cons_succ]
          refine held_take (i := 13) (v := ?_) 146 rfl rfl (by kernel_rfl) (by kernel_rfl) (by kernel_rfl) (fun _ _ _ h => h) (Or.inl ⟨by rfl, ?_⟩) hS ?_
          rotate_left 1
          · intro w' hSw
            try dsimp only at hSw
            obtain ⟨q1, q2⟩ := hSw
            go_simp
            all_goals with_reducible rfl
          try simp only [Act.put, List.setIfInBounds_toArray, List.set_cons_zero, List.set_cons_succ]
          refine held_take (i := 14) (v := ?_) 20 rfl rfl (by kernel_rfl) (by kernel_rfl) (by kernel_rfl) (fun _ _ _ h => h) (Or.inl ⟨by rfl, ?_⟩) hS ?_
          rotate_left 1
          · intro w' hSw
            try dsimp only at hSw
            obtain ⟨q1, q2⟩ := hSw
            go_simp
            all_goals with_reducible rfl
          try simp only [Act.put, List.setIfInBounds_toArray, List.set_cons_zero, List.set_cons_succ]
          refine held_take (i := 15) (v := ?_) 21 rfl rfl (by kernel_rfl) (by kernel_rfl) (by kernel_rfl) (fun _ _ _ h => h) (Or.inl ⟨by rfl, ?_⟩) hS ?_
          rotate_left 1
          · intro w' hSw
            try dsimp only at hSw
            obtain ⟨q1, q2⟩ := hSw
            go_simp
            all_goals with_reducible rfl
          try simp only [Act.put, List.setIfInBounds_toArray, List.set_cons_zero, List.set_cons_succ]
          refine wpAnyH_done (by kernel_rfl) (noPanic_normal ?_) _
          clear hS k4 k7 v1 v2
          obtain ⟨c3, f3, l3⟩ := k3.rules
          go_wp2_with fail
          clear c3 f3 l3
          refine (h7 _).mono ?_
          rintro e W ⟨rfl, hbel⟩
          replace b := b.trans (hbel.mono b.size)
          clear hbel h7 k3
          go_wp2_with fail
          have k22 : Blk ((W.alloc (.cells #[.int .i64 T.x.lo, .int .i64 T.x.hi, .int .i64 T.y.lo, .int .i64 T.y.hi, .int .i64 T.s.lo, .int .i64 T.s.hi, .int .i64 T.d.lo, .int .i64 T.d.hi] 86)).alloc (.cells #[.int .i64 T.x.lo, .int .i64 T.x.hi, .int .i64 T.y.lo, .int .i64 T.y.hi, .int .i64 T.s.lo, .int .i64 T.s.hi, .int .i64 T.d.lo, .int .i64 T.d.hi] 86)) W.heap.size 86 #[.int .i64 T.x.lo, .int .i64 T.x.hi, .int .i64 T.y.lo, .int .i64 T.y.hi, .int .i64 T.s.lo, .int .i64 T.s.hi, .int .i64 T.d.lo, .int .i64 T.d.hi] := (Blk.new _ _ _).alloc _
          have k23 : Blk ((W.alloc (.cells #[.int .i64 T.x.lo, .int .i64 T.x.hi, .int .i64 T.y.lo, .int .i64 T.y.hi, .int .i64 T.s.lo, .int .i64 T.s.hi, .int .i64 T.d.lo, .int .i64 T.d.hi] 86)).alloc (.cells #[.int .i64 T.x.lo, .int .i64 T.x.hi, .int .i64 T.y.lo, .int .i64 T.y.hi, .int .i64 T.s.lo, .int .i64 T.s.hi, .int .i64 T.d.lo, .int .i64 T.d.hi] 86)) (W.heap.size + 1) 86 #[.int .i64 T.x.lo, .int .i64 T.x.hi, .int .i64 T.y.lo, .int .i64 T.y.hi, .int .i64 T.s.lo, .int .i64 T.s.hi, .int .i64 T.d.lo, .int .i64 T.d.hi] := Blk.newAt (by simp)
          have hg := b.size
          replace b := (b.alloc b.size (.cells #[.int .i64 T.x.lo, .int .i64 T.x.hi, .int .i64 T.y.lo, .int .i64 T.y.hi, .int .i64 T.s.lo, .int .i64 T.s.hi, .int .i64 T.d.lo, .int .i64 T.d.hi] 86)).alloc (by simp; omega) (.cells #[.int .i64 T.x.lo, .int .i64 T.x.hi, .int .i64 T.y.lo, .int .i64 T.y.hi, .int .i64 T.s.lo, .int .i64 T.s.hi, .int .i64 T.d.lo, .int .i64 T.d.hi] 86)
          generalize (W.alloc (.cells #[.int .i64 T.x.lo, .int .i64 T.x.hi, .int .i64 T.y.lo, .int .i64 T.y.hi, .int .i64 T.s.lo, .int .i64 T.s.hi, .int .i64 T.d.lo, .int .i64 T.d.hi] 86)).alloc (.cells #[.int .i64 T.x.lo, .int .i64 T.x.hi, .int .i64 T.y.lo, .int .i64 T.y.hi, .int .i64 T.s.lo, .int .i64 T.s.hi, .int .i64 T.d.lo, .int .i64 T.d.hi] 86) = W3 at *
          obtain ⟨g23, hg23⟩ : ∃ g23, W.heap.size + 1 = g23 := ⟨_, rfl⟩
          rw [hg23] at k23 ⊢
          generalize W.heap.size = g22 at *
          go_loopw [8, 24] (fun e j wr => ∃ k : Nat, j = .int .i64 k ∧ e = .int .i64 0 ∧ k ≤ 4 ∧ Blk wr g22 86 #[.int .i64 T.x.lo, .int .i64 T.x.hi, .int .i64 T.y.lo, .int .i64 T.y.hi, .int .i64 T.s.lo, .int .i64 T.s.hi, .int .i64 T.d.lo, .int .i64 T.d.hi] ∧ Blk wr g23 86 (regA (quarN k T)) ∧ Below w.heap.size w wr) (fun e j wr => 4 - (intOf j).toNat)
          case atStart => exact ⟨0, rfl, rfl, by omega, k22, k23, b⟩
          case round =>
            clear k22 k23 b
            obtain ⟨k, rfl, rfl, hk, k22, k23, b⟩ := hrel
            by_cases hlt : k < 4
            · have h8k := h8 k
              obtain ⟨R, hR⟩ : ∃ R, quarN k T = R := ⟨_, rfl⟩
              have hR2 : quarN (k + 1) T = quarR R := by rw [← hR]; rfl
              obtain ⟨R2, hR3⟩ : ∃ R2, quarR R = R2 := ⟨_, rfl⟩
              rw [hR3] at hR2
              simp only [hR, hR3] at h8k
              rw [hR] at k23
              simp only [regA] at k23
              replace hR := Lib.hid hR
              replace hR2 := Lib.hid hR2
              replace hR3 := Lib.hid hR3
              clear h8
              obtain ⟨c23, f23, l23⟩ := k23.rules
              go_wp2_with fail
              clear c23 f23 l23
              refine (h8k _).mono ?_
              rintro e W ⟨rfl, hbel⟩
              replace k22 := k22.below hbel
              replace k23 := k23.below hbel
              replace b := b.trans (hbel.mono b.size)
              clear hbel h8k
              have kz := k23.set8 (.int .i64 R2.x.lo) (.int .i64 R2.x.hi) (.int .i64 R2.y.lo) (.int .i64 R2.y.hi) (.int .i64 R2.s.lo) (.int .i64 R2.s.hi) (.int .i64 R2.d.lo) (.int .i64 R2.d.hi)
              have kf := far_set8 k22 (show g22 ≠ g23 by omega) (.int .i64 R2.x.lo) (.int .i64 R2.x.hi) (.int .i64 R2.y.lo) (.int .i64 R2.y.hi) (.int .i64 R2.s.lo) (.int .i64 R2.s.hi) (.int .i64 R2.d.lo) (.int .i64 R2.d.hi)
              have bz := below_set8 (g := g23) b (by omega) (.int .i64 R2.x.lo) (.int .i64 R2.x.hi) (.int .i64 R2.y.lo) (.int .i64 R2.y.hi) (.int .i64 R2.s.lo) (.int .i64 R2.s.hi) (.int .i64 R2.d.lo) (.int .i64 R2.d.hi)
              obtain ⟨wz, hwz⟩ : ∃ x, x = set8 W g23 (.int .i64 R2.x.lo) (.int .i64 R2.x.hi) (.int .i64 R2.y.lo) (.int .i64 R2.y.hi) (.int .i64 R2.s.lo) (.int .i64 R2.s.hi) (.int .i64 R2.d.lo) (.int .i64 R2.d.hi) := ⟨_, rfl⟩
              rw [← hwz] at kz kf bz
              simp only [set8] at hwz
              obtain ⟨c23, f23, l23⟩ := k23.rules
              go_wp2_with fail
              rw [← hwz]
              clear hwz c23 f23 l23
              go_roundw
              case rel => exact ⟨k + 1, by go_num, rfl, by omega, kf, by rw [hR2.out]; exact kz, bz⟩
              case measure => simp [intOf]; omega
            · obtain rfl : k = 4 := by omega
              have e4 : quarN 4 T = T := quar_four T
              rw [e4] at k23
              simp only [regA] at k23
              have heqT := fun W => heq.out W T
              clear e4 h8
              obtain ⟨c22, f22, l22⟩ := k22.rules
              obtain ⟨c23, f23, l23⟩ := k23.rules
              go_wp2_with fail
              clear c22 f22 l22 c23 f23 l23
              refine (works_any _).mono ?_
              rintro e W' ⟨rfl, hbel⟩
              go_wp2
              go_ret
              exact ⟨rfl, b.trans (hbel.mono b.size)⟩
        · obtain ⟨c4, f4, l4⟩ := k4.rules
          obtain ⟨c3, f3, l3⟩ := k3.rules
          go_wp2_with fail
          clear c3 f3 l3
          refine (h7 _).mono ?_
          rintro e W ⟨rfl, hbel⟩
          replace b := b.trans (hbel.mono b.size)
          clear hbel h7 k3
          go_wp2_with fail
          have k22 : Blk ((W.alloc (.cells #[.int .i64 T.x.lo, .int .i64 T.x.hi, .int .i64 T.y.lo, .int .i64 T.y.hi, .int .i64 T.s.lo, .int .i64 T.s.hi, .int .i64 T.d.lo, .int .i64 T.d.hi] 86)).alloc (.cells #[.int .i64 T.x.lo, .int .i64 T.x.hi, .int .i64 T.y.lo, .int .i64 T.y.hi, .int .i64 T.s.lo, .int .i64 T.s.hi, .int .i64 T.d.lo, .int .i64 T.d.hi] 86)) W.heap.size 86 #[.int .i64 T.x.lo, .int .i64 T.x.hi, .int .i64 T.y.lo, .int .i64 T.y.hi, .int .i64 T.s.lo, .int .i64 T.s.hi, .int .i64 T.d.lo, .int .i64 T.d.hi] := (Blk.new _ _ _).alloc _
          have k23 : Blk ((W.alloc (.cells #[.int .i64 T.x.lo, .int .i64 T.x.hi, .int .i64 T.y.lo, .int .i64 T.y.hi, .int .i64 T.s.lo, .int .i64 T.s.hi, .int .i64 T.d.lo, .int .i64 T.d.hi] 86)).alloc (.cells #[.int .i64 T.x.lo, .int .i64 T.x.hi, .int .i64 T.y.lo, .int .i64 T.y.hi, .int .i64 T.s.lo, .int .i64 T.s.hi, .int .i64 T.d.lo, .int .i64 T.d.hi] 86)) (W.heap.size + 1) 86 #[.int .i64 T.x.lo, .int .i64 T.x.hi, .int .i64 T.y.lo, .int .i64 T.y.hi, .int .i64 T.s.lo, .int .i64 T.s.hi, .int .i64 T.d.lo, .int .i64 T.d.hi] := Blk.newAt (by simp)
          have hg := b.size
          replace b := (b.alloc b.size (.cells #[.int .i64 T.x.lo, .int .i64 T.x.hi, .int .i64 T.y.lo, .int .i64 T.y.hi, .int .i64 T.s.lo, .int .i64 T.s.hi, .int .i64 T.d.lo, .int .i64 T.d.hi] 86)).alloc (by simp; omega) (.cells #[.int .i64 T.x.lo, .int .i64 T.x.hi, .int .i64 T.y.lo, .int .i64 T.y.hi, .int .i64 T.s.lo, .int .i64 T.s.hi, .int .i64 T.d.lo, .int .i64 T.d.hi] 86)
          generalize (W.alloc (.cells #[.int .i64 T.x.lo, .int .i64 T.x.hi, .int .i64 T.y.lo, .int .i64 T.y.hi, .int .i64 T.s.lo, .int .i64 T.s.hi, .int .i64 T.d.lo, .int .i64 T.d.hi] 86)).alloc (.cells #[.int .i64 T.x.lo, .int .i64 T.x.hi, .int .i64 T.y.lo, .int .i64 T.y.hi, .int .i64 T.s.lo, .int .i64 T.s.hi, .int .i64 T.d.lo, .int .i64 T.d.hi] 86) = W3 at *
          obtain ⟨g23, hg23⟩ : ∃ g23, W.heap.size + 1 = g23 := ⟨_, rfl⟩
          rw [hg23] at k23 ⊢
          generalize W.heap.size = g22 at *
          go_loopw [8, 24] (fun e j wr => ∃ k : Nat, j = .int .i64 k ∧ e = .int .i64 0 ∧ k ≤ 4 ∧ Blk wr g22 86 #[.int .i64 T.x.lo, .int .i64 T.x.hi, .int .i64 T.y.lo, .int .i64 T.y.hi, .int .i64 T.s.lo, .int .i64 T.s.hi, .int .i64 T.d.lo, .int .i64 T.d.hi] ∧ Blk wr g23 86 (regA (quarN k T)) ∧ Below w.heap.size w wr) (fun e j wr => 4 - (intOf j).toNat)
          case atStart => exact ⟨0, rfl, rfl, by omega, k22, k23, b⟩
          case round =>
            clear k22 k23 b
            obtain ⟨k, rfl, rfl, hk, k22, k23, b⟩ := hrel
            by_cases hlt : k < 4
            · have h8k := h8 k
              obtain ⟨R, hR⟩ : ∃ R, quarN k T = R := ⟨_, rfl⟩
              have hR2 : quarN (k + 1) T = quarR R := by rw [← hR]; rfl
              obtain ⟨R2, hR3⟩ : ∃ R2, quarR R = R2 := ⟨_, rfl⟩
              rw [hR3] at hR2
              simp only [hR, hR3] at h8k
              rw [hR] at k23
              simp only [regA] at k23
              replace hR := Lib.hid hR
              replace hR2 := Lib.hid hR2
              replace hR3 := Lib.hid hR3
              clear h8
              obtain ⟨c23, f23, l23⟩ := k23.rules
              go_wp2_with fail
              clear c23 f23 l23
              refine (h8k _).mono ?_
              rintro e W ⟨rfl, hbel⟩
              replace k22 := k22.below hbel
              replace k23 := k23.below hbel
              replace b := b.trans (hbel.mono b.size)
              clear hbel h8k
              have kz := k23.set8 (.int .i64 R2.x.lo) (.int .i64 R2.x.hi) (.int .i64 R2.y.lo) (.int .i64 R2.y.hi) (.int .i64 R2.s.lo) (.int .i64 R2.s.hi) (.int .i64 R2.d.lo) (.int .i64 R2.d.hi)
              have kf := far_set8 k22 (show g22 ≠ g23 by omega) (.int .i64 R2.x.lo) (.int .i64 R2.x.hi) (.int .i64 R2.y.lo) (.int .i64 R2.y.hi) (.int .i64 R2.s.lo) (.int .i64 R2.s.hi) (.int .i64 R2.d.lo) (.int .i64 R2.d.hi)
              have bz := below_set8 (g := g23) b (by omega) (.int .i64 R2.x.lo) (.int .i64 R2.x.hi) (.int .i64 R2.y.lo) (.int .i64 R2.y.hi) (.int .i64 R2.s.lo) (.int .i64 R2.s.hi) (.int .i64 R2.d.lo) (.int .i64 R2.d.hi)
              obtain ⟨wz, hwz⟩ : ∃ x, x = set8 W g23 (.int .i64 R2.x.lo) (.int .i64 R2.x.hi) (.int .i64 R2.y.lo) (.int .i64 R2.y.hi) (.int .i64 R2.s.lo) (.int .i64 R2.s.hi) (.int .i64 R2.d.lo) (.int .i64 R2.d.hi) := ⟨_, rfl⟩
              rw [← hwz] at kz kf bz
              simp only [set8] at hwz
              obtain ⟨c23, f23, l23⟩ := k23.rules
              go_wp2_with fail
              rw [← hwz]
              clear hwz c23 f23 l23
              go_roundw
              case rel => exact ⟨k + 1, by go_num, rfl, by omega, kf, by rw [hR2.out]; exact kz, bz⟩
              case measure => simp [intOf]; omega
            · obtain rfl : k = 4 := by omega
              have e4 : quarN 4 T = T := quar_four T
              rw [e4] at k23
              simp only [regA] at k23
              have heqT := fun W => heq.out W T
              clear e4 h8
              obtain ⟨c22, f22, l22⟩ := k22.rules
              obtain ⟨c23, f23, l23⟩ := k23.rules
              go_wp2_with fail
              clear c22 f22 l22 c23 f23 l23
              refine (works_any _).mono ?_
              rintro e W' ⟨rfl, hbel⟩
              go_wp2
              go_ret
              exact ⟨rfl, b.trans (hbel.mono b.size)⟩
      · obtain ⟨c4, f4, l4⟩ := k4.rules
        obtain ⟨c3, f3, l3⟩ := k3.rules
        go_wp2_with fail
        clear c3 f3 l3
        refine (h7 _).mono ?_
        rintro e W ⟨rfl, hbel⟩
        replace b := b.trans (hbel.mono b.size)
        clear hbel h7 k3
        go_wp2_with fail
        have k22 : Blk ((W.alloc (.cells #[.int .i64 T.x.lo, .int .i64 T.x.hi, .int .i64 T.y.lo, .int .i64 T.y.hi, .int .i64 T.s.lo, .int .i64 T.s.hi, .int .i64 T.d.lo, .int .i64 T.d.hi] 86)).alloc (.cells #[.int .i64 T.x.lo, .int .i64 T.x.hi, .int .i64 T.y.lo, .int .i64 T.y.hi, .int .i64 T.s.lo, .int .i64 T.s.hi, .int .i64 T.d.lo, .int .i64 T.d.hi] 86)) W.heap.size 86 #[.int .i64 T.x.lo, .int .i64 T.x.hi, .int .i64 T.y.lo, .int .i64 T.y.hi, .int .i64 T.s.lo, .int .i64 T.s.hi, .int .i64 T.d.lo, .int .i64 T.d.hi] := (Blk.new _ _ _).alloc _
        have k23 : Blk ((W.alloc (.cells #[.int .i64 T.x.lo, .int .i64 T.x.hi, .int .i64 T.y.lo, .int .i64 T.y.hi, .int .i64 T.s.lo, .int .i64 T.s.hi, .int .i64 T.d.lo, .int .i64 T.d.hi] 86)).alloc (.cells #[.int .i64 T.x.lo, .int .i64 T.x.hi, .int .i64 T.y.lo, .int .i64 T.y.hi, .int .i64 T.s.lo, .int .i64 T.s.hi, .int .i64 T.d.lo, .int .i64 T.d.hi] 86)) (W.heap.size + 1) 86 #[.int .i64 T.x.lo, .int .i64 T.x.hi, .int .i64 T.y.lo, .int .i64 T.y.hi, .int .i64 T.s.lo, .int .i64 T.s.hi, .int .i64 T.d.lo, .int .i64 T.d.hi] := Blk.newAt (by simp)
        have hg := b.size
        replace b := (b.alloc b.size (.cells #[.int .i64 T.x.lo, .int .i64 T.x.hi, .int .i64 T.y.lo, .int .i64 T.y.hi, .int .i64 T.s.lo, .int .i64 T.s.hi, .int .i64 T.d.lo, .int .i64 T.d.hi] 86)).alloc (by simp; omega) (.cells #[.int .i64 T.x.lo, .int .i64 T.x.hi, .int .i64 T.y.lo, .int .i64 T.y.hi, .int .i64 T.s.lo, .int .i64 T.s.hi, .int .i64 T.d.lo, .int .i64 T.d.hi] 86)
        generalize (W.alloc (.cells #[.int .i64 T.x.lo, .int .i64 T.x.hi, .int .i64 T.y.lo, .int .i64 T.y.hi, .int .i64 T.s.lo, .int .i64 T.s.hi, .int .i64 T.d.lo, .int .i64 T.d.hi] 86)).alloc (.cells #[.int .i64 T.x.lo, .int .i64 T.x.hi, .int .i64 T.y.lo, .int .i64 T.y.hi, .int .i64 T.s.lo, .int .i64 T.s.hi, .int .i64 T.d.lo, .int .i64 T.d.hi] 86) = W3 at *
        obtain ⟨g23, hg23⟩ : ∃ g23, W.heap.size + 1 = g23 := ⟨_, rfl⟩
        rw [hg23] at k23 ⊢
        generalize W.heap.size = g22 at *
        go_loopw [8, 24] (fun e j wr => ∃ k : Nat, j = .int .i64 k ∧ e = .int .i64 0 ∧ k ≤ 4 ∧ Blk wr g22 86 #[.int .i64 T.x.lo, .int .i64 T.x.hi, .int .i64 T.y.lo, .int .i64 T.y.hi, .int .i64 T.s.lo, .int .i64 T.s.hi, .int .i64 T.d.lo, .int .i64 T.d.hi] ∧ Blk wr g23 86 (regA (quarN k T)) ∧ Below w.heap.size w wr) (fun e j wr => 4 - (intOf j).toNat)
        case atStart => exact ⟨0, rfl, rfl, by omega, k22, k23, b⟩
        case round =>
          clear k22 k23 b
          obtain ⟨k, rfl, rfl, hk, k22, k23, b⟩ := hrel
          by_cases hlt : k < 4
          · have h8k := h8 k
            obtain ⟨R, hR⟩ : ∃ R, quarN k T = R := ⟨_, rfl⟩
            have hR2 : quarN (k + 1) T = quarR R := by rw [← hR]; rfl
            obtain ⟨R2, hR3⟩ : ∃ R2, quarR R = R2 := ⟨_, rfl⟩
            rw [hR3] at hR2
            simp only [hR, hR3] at h8k
            rw [hR] at k23
            simp only [regA] at k23
            replace hR := Lib.hid hR
            replace hR2 := Lib.hid hR2
            replace hR3 := Lib.hid hR3
            clear h8
            obtain ⟨c23, f23, l23⟩ := k23.rules
            go_wp2_with fail
            clear c23 f23 l23
            refine (h8k _).mono ?_
            rintro e W ⟨rfl, hbel⟩
            replace k22 := k22.below hbel
            replace k23 := k23.below hbel
            replace b := b.trans (hbel.mono b.size)
            clear hbel h8k
            have kz := k23.set8 (.int .i64 R2.x.lo) (.int .i64 R2.x.hi) (.int .i64 R2.y.lo) (.int .i64 R2.y.hi) (.int .i64 R2.s.lo) (.int .i64 R2.s.hi) (.int .i64 R2.d.lo) (.int .i64 R2.d.hi)
            have kf := far_set8 k22 (show g22 ≠ g23 by omega) (.int .i64 R2.x.lo) (.int .i64 R2.x.hi) (.int .i64 R2.y.lo) (.int .i64 R2.y.hi) (.int .i64 R2.s.lo) (.int .i64 R2.s.hi) (.int .i64 R2.d.lo) (.int .i64 R2.d.hi)
            have bz := below_set8 (g := g23) b (by omega) (.int .i64 R2.x.lo) (.int .i64 R2.x.hi) (.int .i64 R2.y.lo) (.int .i64 R2.y.hi) (.int .i64 R2.s.lo) (.int .i64 R2.s.hi) (.int .i64 R2.d.lo) (.int .i64 R2.d.hi)
            obtain ⟨wz, hwz⟩ : ∃ x, x = set8 W g23 (.int .i64 R2.x.lo) (.int .i64 R2.x.hi) (.int .i64 R2.y.lo) (.int .i64 R2.y.hi) (.int .i64 R2.s.lo) (.int .i64 R2.s.hi) (.int .i64 R2.d.lo) (.int .i64 R2.d.hi) := ⟨_, rfl⟩
            rw [← hwz] at kz kf bz
            simp only [set8] at hwz
            obtain ⟨c23, f23, l23⟩ := k23.rules
            go_wp2_with fail
            rw [← hwz]
            clear hwz c23 f23 l23
            go_roundw
            case rel => exact ⟨k + 1, by go_num, rfl, by omega, kf, by rw [hR2.out]; exact kz, bz⟩
            case measure => simp [intOf]; omega
          · obtain rfl : k = 4 := by omega
            have e4 : quarN 4 T = T := quar_four T
            rw [e4] at k23
            simp only [regA] at k23
            have heqT := fun W => heq.out W T
            clear e4 h8
            obtain ⟨c22, f22, l22⟩ := k22.rules
            obtain ⟨c23, f23, l23⟩ := k23.rules
            go_wp2_with fail
            clear c22 f22 l22 c23 f23 l23
            refine (works_any _).mono ?_
            rintro e W' ⟨rfl, hbel⟩
            go_wp2
            go_ret
            exact ⟨rfl, b.trans (hbel.mono b.size)⟩
  · have hv := turnedR_no he
    rw [hv] at h1
    have he2 : ((turnedR r h).2 != 0) = true := by rw [bne_iff_ne]; exact he
    generalize (turnedR r h).2 = er at *
    clear hv
    replace he := Lib.hid he
    have heq0 := fun W => heq W noReg
    simp only [regA, noReg] at h1 heq0 ⊢
    clear heq
    go_enter Try.func14, Try.ntmps14
    go_wp2_with fail
    rw [← hw1]
    clear hw1
    refine (h1 _).mono ?_
    rintro e W ⟨rfl, hbel⟩
    replace k3 := k3.below hbel
    replace k4 := k4.below hbel
    replace k5 := k5.below hbel
    replace b := b.trans (hbel.mono b.size)
    clear hbel h1
    go_wp2_with fail
    have k7 := Blk.new W 86 #[.int .i64 0, .int .i64 0, .int .i64 0, .int .i64 0, .int .i64 0, .int .i64 0, .int .i64 0, .int .i64 0]
    have hbel := (Below.refl W.heap.size W).alloc (Nat.le_refl _) (.cells #[.int .i64 0, .int .i64 0, .int .i64 0, .int .i64 0, .int .i64 0, .int .i64 0, .int .i64 0, .int .i64 0] 86)
    replace b := b.trans (hbel.mono b.size)
    clear hbel k3 k4 k5
    generalize W.alloc (.cells #[.int .i64 0, .int .i64 0, .int .i64 0, .int .i64 0, .int .i64 0, .int .i64 0, .int .i64 0, .int .i64 0] 86) = W2 at *
    generalize W.heap.size = g7 at *
    obtain ⟨c7, f7, l7⟩ := k7.rules
    go_wp2_with fail
    refine (works_any _).mono ?_
    rintro e W' ⟨rfl, hbel⟩
    go_wp2
    go_ret
    exact ⟨rfl, b.trans (hbel.mono b.size)⟩
end Go.Proofs.Ytjiaepphnddpoaa
