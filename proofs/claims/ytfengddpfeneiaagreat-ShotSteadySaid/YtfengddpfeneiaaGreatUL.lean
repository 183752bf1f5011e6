/-
  Walks: paravaneref05.Ways.
  Walks: paravanelaw05.chosen; a chosen place lies between the extremes.
  A ship that goes on by whole steps: it fires within the times that its regions say (the plain law of ShotSteady). Nothing of the program stands here.
-/
import Derived.Test.YtfengddpfeneiaaGreatUZ
import Derived.Test.YtfengddpfeneiaaGreatUM
import Derived.Test.YtfengddpfeneiaaGreatUG
import Derived.Test.YtfengddpfeneiaaGreatUS
import Derived.Test.YtfengddpfeneiaaGreatS12
namespace Go.Proofs.YtfengddpfeneiaaGreat
open Go.RowKit Go.Shelf
set_option linter.unusedSimpArgs false
set_option linter.unusedVariables false

end Go.Proofs.YtfengddpfeneiaaGreat
namespace Go.Proofs.YtfengddpfeneiaaGreat
open Go.RowKit Go.Shelf
set_option linter.unusedSimpArgs false
set_option linter.unusedVariables false

theorem floor_mono {a b c : Int} (hc : 1 ≤ c) (h : a ≤ b) : floorS a c ≤ floorS b c := Int.ediv_le_ediv (by omega) h
theorem ceil_mono {a b c : Int} (hc : 1 ≤ c) (h : a ≤ b) : ceilS a c ≤ ceilS b c := by
  have := floor_mono hc (show -b ≤ -a by omega)
  unfold ceilS
  unfold floorS at this
  omega
theorem waysR_no {p : Pnt} {h : Hdg} {l : List Reg} (k : (waysR p h l).2 ≠ 0) : (waysR p h l).1 = [] := by
  unfold waysR waysT at *
  by_cases h1 : okPnt p = true
  · rw [if_pos h1] at k ⊢
    by_cases h2 : okHdg h = true
    · rw [if_pos h2] at k ⊢
      by_cases h3 : 1 ≤ l.length ∧ l.length ≤ 512
      · rw [if_pos h3] at k ⊢
        by_cases h4 : l.all okReg = true
        · rw [if_pos h4] at k ⊢
          by_cases h5 : l.all (hasPl h) = true
          · rw [if_pos h5] at k
            exact absurd rfl k
          · rw [if_neg h5]
        · rw [if_neg h4]
      · rw [if_neg h3]
    · rw [if_neg h2]
  · rw [if_neg h1]
theorem waysR_yes {p : Pnt} {h : Hdg} {l : List Reg} (k : (waysR p h l).2 = 0) : okPnt p = true ∧ okHdg h = true ∧ (1 ≤ l.length ∧ l.length ≤ 512) ∧ l.all okReg = true ∧ l.all (hasPl h) = true ∧ (waysR p h l).1 = l.map (wayB p h) := by
  unfold waysR at *
  by_cases h1 : okPnt p = true
  · rw [if_pos h1] at k ⊢
    by_cases h2 : okHdg h = true
    · rw [if_pos h2] at k ⊢
      by_cases h3 : 1 ≤ l.length ∧ l.length ≤ 512
      · rw [if_pos h3] at k ⊢
        unfold waysT at *
        by_cases h4 : l.all okReg = true
        · rw [if_pos h4] at k ⊢
          by_cases h5 : l.all (hasPl h) = true
          · rw [if_pos h5]
            exact ⟨h1, h2, h3, h4, h5, rfl⟩
          · rw [if_neg h5] at k
            exact absurd k (by decide)
        · rw [if_neg h4] at k
          exact absurd k (by decide)
      · rw [if_neg h3] at k
        exact absurd k (by decide)
    · rw [if_neg h2] at k
      exact absurd k (by decide)
  · rw [if_neg h1] at k
    exact absurd k (by decide)
/-- A place of the region: its distance along the heading lies between the bounds. -/
theorem along_of {p : Pnt} {h : Hdg} {r : Reg} {v : Pnt} (hh : okHdg h = true) (hv : inR v r) :
    (wayB p h r).lo ≤ max 0 (floorS (h.p * (v.x - p.x) + h.q * (v.y - p.y)) h.c) ∧ max 0 (ceilS (h.p * (v.x - p.x) + h.q * (v.y - p.y)) h.c) ≤ (wayB p h r).hi := by
  obtain ⟨⟨c1, c2⟩, -, -⟩ := hdg_bd hh
  have E := (ext_spec h.p h.q ⟨v, hv⟩).has v hv
  unfold inB at E
  have e : h.p * (v.x - p.x) + h.q * (v.y - p.y) = h.p * v.x + h.q * v.y - (h.p * p.x + h.q * p.y) := by rw [Int.mul_sub, Int.mul_sub]; omega
  rw [e]
  have m1 := floor_mono c1 (show (extB r h.p h.q).lo - (h.p * p.x + h.q * p.y) ≤ h.p * v.x + h.q * v.y - (h.p * p.x + h.q * p.y) by omega)
  have m2 := ceil_mono c1 (show h.p * v.x + h.q * v.y - (h.p * p.x + h.q * p.y) ≤ (extB r h.p h.q).hi - (h.p * p.x + h.q * p.y) by omega)
  show max 0 (floorS ((extB r h.p h.q).lo - (h.p * p.x + h.q * p.y)) h.c) ≤ _ ∧ _ ≤ max 0 (ceilS ((extB r h.p h.q).hi - (h.p * p.x + h.q * p.y)) h.c)
  omega
theorem place_bd {r : Reg} {v : Pnt} (hr : okReg r = true) (hv : inR v r) : (-32768 ≤ v.x ∧ v.x ≤ 32768) ∧ (-32768 ≤ v.y ∧ v.y ≤ 32768) := by
  obtain ⟨⟨x1, x2, x3⟩, ⟨y1, y2, y3⟩, -, -⟩ := okReg_iff.1 hr
  unfold inR inB at hv
  omega
end Go.Proofs.YtfengddpfeneiaaGreat
namespace Go.Proofs.YtfengddpfeneiaaGreat
open Go.RowKit
set_option linter.unusedSimpArgs false
set_option linter.unusedVariables false

/-! A way within bounds. -/
structure InB (n : Nat) (b : Nat → Bnd) (v : Nat → Int) : Prop where
  lo : ∀ j, j < n → 0 ≤ (b j).lo ∧ (b j).lo ≤ v j
  hi : ∀ j, j < n → v j ≤ (b j).hi ∧ (b j).hi ≤ 1048576
  up : ∀ j, j + 1 < n → v j ≤ v (j + 1)
def bL (n : Nat) (b : Nat → Bnd) : List Bnd := (List.range n).map b
def vL (n : Nat) (v : Nat → Int) : List Int := (List.range n).map v
theorem bL_len (n : Nat) (b : Nat → Bnd) : (bL n b).length = n := by simp [bL]
theorem vL_len (n : Nat) (v : Nat → Int) : (vL n v).length = n := by simp [vL]
theorem bL_at {n : Nat} {b : Nat → Bnd} {j : Nat} (h : j < n) : (bL n b)[j]? = some (b j) := mapRange_at _ h
theorem vL_at {n : Nat} {v : Nat → Int} {j : Nat} (h : j < n) : (vL n v)[j]? = some (v j) := mapRange_at _ h
theorem bL_getD {n : Nat} {b : Nat → Bnd} {j : Nat} (h : j < n) : (bL n b).getD j ⟨0, 0⟩ = b j := by rw [List.getD_eq_getElem?_getD, bL_at h]; rfl
theorem InB.low {n : Nat} {b : Nat → Bnd} {v : Nat → Int} (k : InB n b v) : ∀ t, t < n → lowT (bL n b) t ≤ v t
  | 0, h => by rw [lowT, bL_getD h]; exact (k.lo 0 h).2
  | t + 1, h => by
    have ih := k.low t (by omega)
    have u := k.up t h
    have l := (k.lo (t + 1) h).2
    rw [lowT, bL_getD h]
    omega
theorem InB.high {n : Nat} {b : Nat → Bnd} {v : Nat → Int} (k : InB n b v) : ∀ m t, t + m + 1 = n → v t ≤ highT (bL n b) t
  | 0, t, h => by
    rw [highT_last (by rw [bL_len]; omega), bL_getD (by omega)]
    exact (k.hi t (by omega)).1
  | m + 1, t, h => by
    have ih := k.high m (t + 1) (by omega)
    have u := k.up t (by omega)
    have l := (k.hi t (by omega)).1
    rw [highT_prev (by rw [bL_len]; omega), bL_getD (by omega)]
    omega
theorem InB.dists {n : Nat} {b : Nat → Bnd} {v : Nat → Int} (k : InB n b v) (h1 : 1 ≤ n) (h2 : n ≤ 512) : okDists (bL n b) = true := by
  unfold okDists
  rw [bL_len, decide_eq_true ⟨h1, h2⟩, Bool.true_and, List.all_eq_true]
  intro x hx
  obtain ⟨i, hi⟩ := List.mem_iff_getElem?.1 hx
  have hj := (List.getElem?_eq_some_iff.1 hi).1
  rw [bL_len] at hj
  rw [bL_at hj] at hi
  cases hi
  have a := k.lo i hj
  have c := k.hi i hj
  exact decide_eq_true ⟨by omega, by omega, by omega⟩
theorem InB.even {n : Nat} {b : Nat → Bnd} {v : Nat → Int} (k : InB n b v) : okEven (bL n b) = true := by
  unfold okEven
  rw [List.all_eq_true]
  intro t ht
  rw [List.mem_range, bL_len] at ht
  have a := k.low t ht
  have c := k.high (n - t - 1) t (by omega)
  exact decide_eq_true (by omega)
theorem InB.way {n : Nat} {b : Nat → Bnd} {v : Nat → Int} (k : InB n b v) (h1 : 1 ≤ n) (h2 : n ≤ 512) : okWay (vL n v) = true := by
  unfold okWay
  rw [vL_len, decide_eq_true ⟨h1, h2⟩, Bool.true_and, Bool.and_eq_true]
  constructor
  · refine sorted_of fun i x y hx hy => ?_
    have hj := (List.getElem?_eq_some_iff.1 hy).1
    rw [vL_len] at hj
    rw [vL_at (by omega)] at hx
    rw [vL_at hj] at hy
    cases hx; cases hy
    exact k.up i hj
  · rw [List.all_eq_true]
    intro x hx
    obtain ⟨i, hi⟩ := List.mem_iff_getElem?.1 hx
    have hj := (List.getElem?_eq_some_iff.1 hi).1
    rw [vL_len] at hj
    rw [vL_at hj] at hi
    cases hi
    have a := k.lo i hj
    have c := k.hi i hj
    exact decide_eq_true ⟨by omega, by omega⟩
theorem reachS_spec2 : ∀ (l : List Int) (far : Int) (k : Nat), (reachS l far k = -1 ∧ ∀ (i : Nat) (x : Int), l[i]? = some x → x < far) ∨ ∃ (i : Nat) (x : Int), reachS l far k = ((k + i : Nat) : Int) ∧ l[i]? = some x ∧ far ≤ x ∧ ∀ (j : Nat) (y : Int), j < i → l[j]? = some y → y < far
  | [], far, k => .inl ⟨rfl, fun i x h => by simp at h⟩
  | z :: zs, far, k => by
    by_cases h : far ≤ z
    · exact .inr ⟨0, z, by rw [reachS, if_pos h]; rfl, rfl, h, fun j y hj => by omega⟩
    · rcases reachS_spec2 zs far (k + 1) with ⟨e, ha⟩ | ⟨i, x, e, hx, hf, ha⟩
      · refine .inl ⟨by rw [reachS, if_neg h]; exact e, fun i x hi => ?_⟩
        cases i with
        | zero => simp at hi; subst hi; omega
        | succ i => exact ha i x (by simpa using hi)
      · refine .inr ⟨i + 1, x, by rw [reachS, if_neg h, e]; congr 1; omega, by simpa using hx, hf, fun j y hj hy => ?_⟩
        cases j with
        | zero => simp at hy; subst hy; omega
        | succ j => exact ha j y (by omega) (by simpa using hy)
theorem reach_mono2 {xs ys : List Int} (hl : xs.length = ys.length) (h : ∀ (i : Nat) (x y : Int), xs[i]? = some x → ys[i]? = some y → x ≤ y) (f : Int) :
    reachS xs f 0 = -1 ∨ (0 ≤ reachS ys f 0 ∧ reachS ys f 0 ≤ reachS xs f 0) := by
  rcases reachS_spec2 xs f 0 with ⟨e, _⟩ | ⟨i, x, e, hx, hf, _⟩
  · exact .inl e
  · right
    obtain ⟨y, hy⟩ := some_of_lt (xs := ys) rfl (show i < ys.length by rw [← hl]; exact (List.getElem?_eq_some_iff.1 hx).1)
    have hxy := h i x y hx hy
    rcases reachS_spec2 ys f 0 with ⟨e2, ha⟩ | ⟨j, z, e2, hz, hf2, ha⟩
    · have := ha i y hy; omega
    · rw [e, e2]
      by_cases hij : i < j
      · have := ha i y hij hy; omega
      · omega
theorem reach_ge (l : List Int) (f : Int) : -1 ≤ reachS l f 0 := by
  rcases reachS_spec2 l f 0 with ⟨e, _⟩ | ⟨i, x, e, _⟩
  · omega
  · omega
/-- Each shot on a way within bounds fires within its times. -/
theorem InB.fires {n : Nat} {b : Nat → Bnd} {v : Nat → Int} (k : InB n b v) (f : Fir) (m : Nat) :
    (tickS f (vL n v) m < 0 → (timeS f (bL n b) m).hi < 0) ∧ (0 ≤ tickS f (vL n v) m → 0 ≤ (timeS f (bL n b) m).lo ∧ (timeS f (bL n b) m).lo ≤ tickS f (vL n v) m ∧ (0 ≤ (timeS f (bL n b) m).hi → tickS f (vL n v) m ≤ (timeS f (bL n b) m).hi)) := by
  have a : (timeS f (bL n b) m).hi = -1 ∨ (0 ≤ tickS f (vL n v) m ∧ tickS f (vL n v) m ≤ (timeS f (bL n b) m).hi) := by
    refine reach_mono2 (xs := lowsL (bL n b)) (ys := vL n v) (by rw [lowsL_len, bL_len, vL_len]) (fun i x y hx hy => ?_) _
    have hj := (List.getElem?_eq_some_iff.1 hy).1
    rw [vL_len] at hj
    rw [lowsL_at _ (by rw [bL_len]; exact hj)] at hx
    rw [vL_at hj] at hy
    cases hx; cases hy
    exact k.low i hj
  have c : tickS f (vL n v) m = -1 ∨ (0 ≤ (timeS f (bL n b) m).lo ∧ (timeS f (bL n b) m).lo ≤ tickS f (vL n v) m) := by
    refine reach_mono2 (xs := vL n v) (ys := highsL (bL n b)) (by rw [highsL_len, bL_len, vL_len]) (fun i x y hx hy => ?_) _
    have hj := (List.getElem?_eq_some_iff.1 hx).1
    rw [vL_len] at hj
    rw [highsL_at _ (by rw [bL_len]; exact hj)] at hy
    rw [vL_at hj] at hx
    cases hx; cases hy
    exact k.high (n - i - 1) i (by omega)
  have g := reach_ge (vL n v) (dueS f m)
  have g2 : tickS f (vL n v) m = reachS (vL n v) (dueS f m) 0 := rfl
  omega
/-! The ship's places, its regions, its distances. -/
theorem w64 (x : Int) (h : -1000000000 ≤ x ∧ x ≤ 1000000000) : wrap64 x = x := by unfold wrap64; omega
def plcS (p : Pnt) (h : Hdg) (st : Int) (j : Nat) : Pnt := ⟨wrap64 (p.x + wrap64 ((j : Int) * st * h.p)), wrap64 (p.y + wrap64 ((j : Int) * st * h.q))⟩
def disS (h : Hdg) (st : Int) (j : Nat) : Int := min 1048576 (wrap64 ((j : Int) * st * max 0 h.c))
def nearR (s : Int) (v : Pnt) : Reg := (tightO (wideR s (farN s) ((tightO (ofP v)).getD noReg))).getD noReg
theorem ofP_ok {v : Pnt} (hv : okPnt v = true) : okReg (ofP v) = true := by
  have := pnt_bd hv
  rw [okReg_iff]
  simp only [ofP, still]
  omega
theorem ofP_in (v : Pnt) : inR v (ofP v) := by
  unfold inR inB ofP still
  dsimp only
  omega
theorem near_is {s : Int} (h0 : 0 ≤ s) (h3 : s ≤ 3) {v : Pnt} (hv : okPnt v = true) :
    ∃ t, tightO (ofP v) = some t ∧ tightO (wideR s (farN s) t) = some (nearR s v) ∧ okReg (nearR s v) = true ∧ inR v (nearR s v) := by
  obtain ⟨t, ht, hin⟩ := tight_has (ofP_in v)
  have hto := tight_ok (ofP_ok hv) ht
  have hf : 0 ≤ farN s := by unfold farN; split <;> omega
  have hin2 : inR v (wideR s (farN s) t) := by
    rw [okReg_iff] at hto
    unfold inR inB wideR wideB intoL at *
    dsimp only at *
    omega
  obtain ⟨N, hN, hin3⟩ := tight_has hin2
  have e : nearR s v = N := by unfold nearR; rw [ht]; show (tightO (wideR s (farN s) t)).getD noReg = N; rw [hN]; rfl
  rw [e]
  exact ⟨t, ht, hN, tight_ok (wideS_ok h0 hf hto) hN, hin3⟩
theorem way_top {p : Pnt} {h : Hdg} {r : Reg} (hp : okPnt p = true) (hh : okHdg h = true) (hr : okReg r = true) (hv : ∃ v, inR v r) : 0 ≤ (wayB p h r).lo ∧ (wayB p h r).hi ≤ 1048576 := by
  obtain ⟨⟨c1, c2⟩, ⟨p1, p2⟩, q1, q2⟩ := hdg_bd hh
  obtain ⟨b1, b2, b3, b4, b5, b6, -⟩ := okHdg_iff.1 hh
  obtain ⟨⟨x1, x2⟩, y1, y2⟩ := pnt_bd hp
  obtain ⟨v, iv, ev⟩ := (ext_spec h.p h.q hv).hi
  obtain ⟨⟨vx1, vx2⟩, vy1, vy2⟩ := place_bd hr iv
  have m1 := smul_bd (A := h.c) (B := 65536) b3 b4 (show -65536 ≤ v.x - p.x by omega) (show v.x - p.x ≤ 65536 by omega)
  have m2 := smul_bd (A := h.c) (B := 65536) b5 b6 (show -65536 ≤ v.y - p.y by omega) (show v.y - p.y ≤ 65536 by omega)
  have e : (extB r h.p h.q).hi - (h.p * p.x + h.q * p.y) = h.p * (v.x - p.x) + h.q * (v.y - p.y) := by rw [← ev, Int.mul_sub, Int.mul_sub]; omega
  have hc : ceilS ((extB r h.p h.q).hi - (h.p * p.x + h.q * p.y)) h.c ≤ ceilS (h.c * 131072) h.c := ceil_mono c1 (by rw [e]; omega)
  have h9 : ceilS (h.c * 131072) h.c = 131072 := by unfold ceilS; rw [← Int.mul_neg, Int.mul_ediv_cancel_left _ (by omega)]; omega
  show 0 ≤ max 0 _ ∧ max 0 (ceilS ((extB r h.p h.q).hi - (h.p * p.x + h.q * p.y)) h.c) ≤ 1048576
  omega
/-- On a line the distance after j steps, to the last. -/
theorem step_is {p : Pnt} {h : Hdg} {st : Int} {j : Nat} (hp : okPnt p = true) (hh : okHdg h = true) (hs0 : 0 ≤ st) (hs : st ≤ 19) (hj : j ≤ 30) :
    disS h st j = (j : Int) * st * h.c ∧ h.p * ((plcS p h st j).x - p.x) + h.q * ((plcS p h st j).y - p.y) = h.c * ((j : Int) * st * h.c) := by
  obtain ⟨⟨c1, c2⟩, ⟨p1, p2⟩, q1, q2⟩ := hdg_bd hh
  obtain ⟨b1, b2, b3, b4, b5, b6, b7⟩ := okHdg_iff.1 hh
  obtain ⟨⟨x1, x2⟩, y1, y2⟩ := pnt_bd hp
  have k0 : 0 ≤ (j : Int) * st := Int.mul_nonneg (by omega) hs0
  have k1 : (j : Int) * st ≤ 30 * 19 := Int.mul_le_mul (by omega) hs hs0 (by omega)
  unfold disS plcS
  dsimp only
  generalize (j : Int) * st = d at *
  have m1 := smul_bd (show -570 ≤ d by omega) (show d ≤ 570 by omega) p1 p2
  have m2 := smul_bd (show -570 ≤ d by omega) (show d ≤ 570 by omega) q1 q2
  have m3 := smul_bd (show -570 ≤ d by omega) (show d ≤ 570 by omega) (show -1000 ≤ h.c by omega) c2
  have m4 : 0 ≤ d * h.c := Int.mul_nonneg k0 (by omega)
  rw [show max 0 h.c = h.c by omega, w64 (d * h.c) (by omega), w64 (d * h.p) (by omega), w64 (d * h.q) (by omega), w64 (p.x + d * h.p) (by omega), w64 (p.y + d * h.q) (by omega)]
  refine ⟨by omega, ?_⟩
  rw [show p.x + d * h.p - p.x = d * h.p by omega, show p.y + d * h.q - p.y = d * h.q by omega, Int.mul_left_comm h.p d h.p, Int.mul_left_comm h.q d h.q, ← Int.mul_add, b7, Int.mul_left_comm]
def regL (p : Pnt) (h : Hdg) (st s : Int) (n : Nat) : List Reg := (List.range n).map fun j => nearR s (plcS p h st j)
theorem steady_in {p : Pnt} {h : Hdg} {st s : Int} {n : Nat} (hp : okPnt p = true) (hh : okHdg h = true) (hs0 : 0 ≤ st) (hs : st ≤ 19) (h0 : 0 ≤ s) (h3 : s ≤ 3) (hn : n ≤ 31) (hP : ∀ j, j < n → okPnt (plcS p h st j) = true) :
    InB n (fun j => wayB p h (nearR s (plcS p h st j))) (disS h st) := by
  obtain ⟨⟨c1, c2⟩, -, -⟩ := hdg_bd hh
  have one : ∀ j, j < n → (0 ≤ (wayB p h (nearR s (plcS p h st j))).lo ∧ (wayB p h (nearR s (plcS p h st j))).lo ≤ disS h st j) ∧ disS h st j ≤ (wayB p h (nearR s (plcS p h st j))).hi ∧ (wayB p h (nearR s (plcS p h st j))).hi ≤ 1048576 := by
    intro j hj
    obtain ⟨t, -, -, ho, hi⟩ := near_is h0 h3 (hP j hj)
    have a := along_of (p := p) hh hi
    have b := way_top hp hh ho ⟨_, hi⟩
    obtain ⟨e1, e2⟩ := step_is (j := j) hp hh hs0 hs (by omega)
    rw [e2] at a
    have k0 : 0 ≤ (j : Int) * st := Int.mul_nonneg (by omega) hs0
    have k1 : 0 ≤ (j : Int) * st * h.c := Int.mul_nonneg k0 (by omega)
    rw [e1]
    generalize (j : Int) * st * h.c = d at *
    have f1 : floorS (h.c * d) h.c = d := by unfold floorS; exact Int.mul_ediv_cancel_left _ (by omega)
    have f2 : ceilS (h.c * d) h.c = d := by unfold ceilS; rw [← Int.mul_neg, Int.mul_ediv_cancel_left _ (by omega)]; omega
    rw [f1, f2] at a
    omega
  refine ⟨fun j hj => (one j hj).1, fun j hj => (one j hj).2, fun j hj => ?_⟩
  obtain ⟨e1, -⟩ := step_is (j := j) hp hh hs0 hs (by omega)
  obtain ⟨e2, -⟩ := step_is (j := j + 1) hp hh hs0 hs (by omega)
  rw [e1, e2]
  have m : (j : Int) * st ≤ ((j + 1 : Nat) : Int) * st := Int.mul_le_mul_of_nonneg_right (by omega) hs0
  exact Int.mul_le_mul_of_nonneg_right m (by omega)
/-- What Ways says of the regions of such a ship, and what Times and Fire say then. -/
theorem steady_said {p : Pnt} {h : Hdg} {st s : Int} {n : Nat} (hok : (waysR p h (regL p h st s n)).2 = 0) (hs0 : 0 ≤ st) (hs : st ≤ 19) (h0 : 0 ≤ s) (h3 : s ≤ 3) (hn : n ≤ 31) (hP : ∀ j, j < n → okPnt (plcS p h st j) = true) (f : Fir) :
    (waysR p h (regL p h st s n)).1 = bL n (fun j => wayB p h (nearR s (plcS p h st j))) ∧ errT f (bL n (fun j => wayB p h (nearR s (plcS p h st j)))) = (fireR f (vL n (disS h st))).2 ∧
    (okFir f = true → fireR f (vL n (disS h st)) = (shotL f (vL n (disS h st)), 0)) ∧ (okFir f = false → fireR f (vL n (disS h st)) = ([], 52)) ∧
    ∀ m, (tickS f (vL n (disS h st)) m < 0 → (timeS f (bL n (fun j => wayB p h (nearR s (plcS p h st j)))) m).hi < 0) ∧ (0 ≤ tickS f (vL n (disS h st)) m → 0 ≤ (timeS f (bL n (fun j => wayB p h (nearR s (plcS p h st j)))) m).lo ∧ (timeS f (bL n (fun j => wayB p h (nearR s (plcS p h st j)))) m).lo ≤ tickS f (vL n (disS h st)) m ∧ (0 ≤ (timeS f (bL n (fun j => wayB p h (nearR s (plcS p h st j)))) m).hi → tickS f (vL n (disS h st)) m ≤ (timeS f (bL n (fun j => wayB p h (nearR s (plcS p h st j)))) m).hi)) := by
  obtain ⟨hp, hh, ⟨n1, -⟩, -, -, hv⟩ := waysR_yes hok
  have n1' : 1 ≤ n := by unfold regL at n1; simpa using n1
  have k := steady_in hp hh hs0 hs h0 h3 hn hP
  refine ⟨?_, ?_, fun hf => by unfold fireR; rw [if_pos hf, if_pos (k.way n1' (by omega))], fun hf => by unfold fireR; rw [if_neg (by rw [hf]; decide)], fun m => k.fires f m⟩
  · rw [hv]
    unfold regL bL
    rw [List.map_map]
    rfl
  · unfold fireR errT
    by_cases hf : okFir f = true
    · rw [if_pos hf, if_pos hf, if_pos (k.dists n1' (by omega)), if_pos k.even, if_pos (k.way n1' (by omega))]
    · rw [if_neg hf, if_neg hf]
end Go.Proofs.YtfengddpfeneiaaGreat
