/-
  Own texts for one claim, joined: M10 H4.
-/
import Derived.ChangeKeysEq
import Derived.Deep.QuietTactic
import Derived.BigQuiet
import Derived.Deep.RegionHeld3
import Derived.StillTailTactics
import Derived.Shelf.Abstract
import Derived.Test.YtjiaepphnddpoaaGreatChecked
import Derived.Shelf.Abstract
import Derived.Deep.QuietTactic
import Derived.BigQuiet
import Derived.Deep.RegionHeld3
import Derived.StillTailTactics
import Derived.Deep.AppendLies
import Derived.WalkMore
import Derived.WalkKit
import Derived.WalkSpells
import Derived.WalkLawsBesides
import Derived.Lib.Hide
import Derived.OrdersHeld
import Derived.StillTail
import Derived.StillTailTactics
import Derived.RangeFuncNested
import Derived.RangeFuncBound
import Derived.RangeFuncCalls
import Derived.RangeFuncLeaves
import Derived.Shelf.Abstract
import Derived.Shelf.RegionOpen
import Derived.OwnWalkIn
import Derived.TacticsInMore
import Derived.LoopNIn
import Derived.LoopIn
import Derived.OrdersIn
import Derived.Deep.Quiet
import Derived.Deep.QuietTactic
import Derived.BigQuiet
import Derived.Deep.AppendLies
import Derived.WalkMore
import Derived.Maps.Own
import Derived.Maps.Views
import Derived.WideKeyPair
import Derived.Carry
import Derived.Deep.RegionHeld3
import Derived.Deep.RegionWith
import Derived.BigRegionIn
import Derived.Deep.AppendLies
import Derived.Deep.QuietTactic
import Derived.LoopN
import Derived.Deep.RegionWith
import Derived.BigQuiet
import Derived.Deep.AppendLies
import Derived.Laws.AppendOwnNone
import Derived.Deep.AppendLies
import Derived.Deep.AppendLies
import Derived.Test.YtjiaepphnddpoaaGreatU01
import Derived.Test.YtjiaepphnddpoaaGreatU02
import Derived.Test.YtjiaepphnddpoaaGreatU03
import Derived.Test.YtjiaepphnddpoaaGreatU04
import Derived.Test.YtjiaepphnddpoaaGreatU05
import Derived.Test.YtjiaepphnddpoaaGreatU06
import Derived.Test.YtjiaepphnddpoaaGreatU07
import Derived.Test.YtjiaepphnddpoaaGreatU08
import Derived.Test.YtjiaepphnddpoaaGreatU09
import Derived.Test.YtjiaepphnddpoaaGreatU10
import Derived.Test.YtjiaepphnddpoaaGreatU11
import Derived.Test.YtjiaepphnddpoaaGreatU12
import Derived.Test.YtjiaepphnddpoaaGreatU13
namespace Go.Proofs.YtjiaepphnddpoaaGreat
open Go.RowKit Go.Shelf
set_option linter.unusedSimpArgs false
set_option linter.unusedVariables false
def ltHi : Option Bnd → Int → Prop
  | none, _ => False
  | some b, v => b.hi < v
def gtOH : Option Bnd → Int → Prop
  | none, _ => False
  | some b, v => v < b.hi
theorem ltHi_minO (o : Option Bnd) (g : Bnd) (v : Int) : ltHi (minO o g) v ↔ ltHi o v ∨ g.hi < v := by
  cases o with
  | none => simp [minO, ltHi]
  | some b => simp only [minO, ltHi]; omega
theorem ltHi_in (x : Reg) (ys : List Reg) (v : Int) (o : Option Bnd) : ltHi (apIn o x ys ys.length) v ↔ ltHi o v ∨ ∃ y ∈ ys, (gapS x y).hi < v := by
  unfold apIn
  rw [List.take_of_length_le (Nat.le_refl _)]
  induction ys generalizing o with
  | nil => simp
  | cons y ys ih =>
    simp only [List.map_cons, List.foldl_cons]
    rw [ih, ltHi_minO, ex_cons, or_assoc]
theorem ltHi_app (xs ys : List Reg) (v : Int) : ltHi (appO xs ys) v ↔ ∃ x ∈ xs, ∃ y ∈ ys, (gapS x y).hi < v := by
  unfold appO apTo
  rw [List.take_of_length_le (Nat.le_refl _)]
  have : ∀ (L : List Reg) (o : Option Bnd), ltHi (L.foldl (fun o x => apIn o x ys ys.length) o) v ↔ ltHi o v ∨ ∃ x ∈ L, ∃ y ∈ ys, (gapS x y).hi < v := by
    intro L
    induction L with
    | nil => intro o; simp
    | cons x L ih =>
      intro o
      simp only [List.foldl_cons]
      rw [ih, ltHi_in, ex_cons, or_assoc]
  rw [this]
  simp [ltHi]
theorem pickH_fold (v : Int) : ∀ (L : List Bnd) (o : Option Bnd), gtOH (L.foldl (pickO gtHi) o) v ↔ gtOH o v ∨ ∃ b ∈ L, v < b.hi
  | [], o => by simp
  | b :: L, o => by
    rw [List.foldl_cons, pickH_fold v L, ex_cons, ← or_assoc]
    refine or_congr ?_ Iff.rfl
    cases o with
    | none => simp [pickO, gtOH]
    | some c =>
      unfold pickO gtHi
      dsimp only
      split
      · rename_i h; have := of_decide_eq_true h; simp only [gtOH]; omega
      · rename_i h; have := of_decide_eq_false (Bool.not_eq_true _ ▸ h); simp only [gtOH]; omega
theorem pickH_none : ∀ (L : List Bnd) (o : Option Bnd), L.foldl (pickO gtHi) o = none ↔ L = [] ∧ o = none
  | [], o => by simp
  | b :: L, o => by
    rw [List.foldl_cons, pickH_none L]
    have := pickO_some gtHi o b
    constructor
    · rintro ⟨-, h⟩; rw [h] at this; cases this
    · rintro ⟨h, -⟩; cases h
theorem opt_gt (o : Option Bnd) (v : Int) : v < (optB o).hi ↔ gtOH o v ∨ (o = none ∧ v < 0) := by
  cases o with
  | none => simp [gtOH, optB]
  | some b => simp [gtOH, optB]
theorem opt_ltH (o : Option Bnd) (v : Int) : (optB o).hi < v ↔ ltHi o v ∨ (o = none ∧ 0 < v) := by
  cases o with
  | none => simp [ltHi, optB]
  | some b => simp [ltHi, optB]
theorem sqs_gt (r : Reg) (v : Int) : v < (sqsS r).hi ↔ (∃ q ∈ rowsL r, v < (sqB q).hi) ∨ (rowsL r = [] ∧ v < 0) := by
  have e : (sqsS r).hi = (optB (pckAll gtHi r)).hi := rfl
  rw [e, opt_gt]
  unfold pckAll sqL
  rw [pickH_fold, pickH_none]
  refine or_congr ?_ (by simp)
  simp only [gtOH, false_or, List.mem_map]
  constructor
  · rintro ⟨b, ⟨q, hq, rfl⟩, hb⟩; exact ⟨q, hq, hb⟩
  · rintro ⟨q, hq, hb⟩; exact ⟨_, ⟨q, hq, rfl⟩, hb⟩
theorem sqs_negH (r : Reg) (v : Int) : v < (sqsS (negR r)).hi ↔ v < (sqsS r).hi := by
  have h1 : ∀ r, v < (sqsS r).hi → v < (sqsS (negR r)).hi := by
    intro r h
    rw [sqs_gt] at *
    rcases h with ⟨q, hq, hl⟩ | ⟨h1, h2⟩
    · refine .inl ⟨negQ q, rows_neg hq, ?_⟩
      obtain ⟨x, -, -, -, hle⟩ := rowsL_iffM.1 hq
      rw [sqB_neg hle]; exact hl
    · refine .inr ⟨?_, h2⟩
      cases hr : rowsL (negR r) with
      | nil => rfl
      | cons q L =>
        have := rows_neg (r := negR r) (q := q) (by rw [hr]; exact List.mem_cons_self)
        rw [neg_neg_r, h1] at this
        cases this
  constructor
  · intro h
    have := h1 _ h
    rwa [neg_neg_r] at this
  · exact h1 r
theorem gap_same (a b : Reg) : gapS a b = gapS b a := by
  have h1 : (gapS a b).lo = (gapS b a).lo := by
    have h2 := gap_comm a b ((gapS a b).lo + 1)
    have h3 := gap_comm a b ((gapS b a).lo + 1)
    omega
  have h4 : (gapS a b).hi = (gapS b a).hi := by
    have h2 : ∀ v, v < (gapS a b).hi ↔ v < (gapS b a).hi := fun v => by unfold gapS; rw [minus_ng a b, sqs_negH]
    have h5 := h2 ((gapS a b).hi - 1)
    have h6 := h2 ((gapS b a).hi - 1)
    omega
  exact bnd_ext h1 h4
theorem app_same (xs ys : List Reg) : appS xs ys = appS ys xs := by
  have h1 : (appS xs ys).lo = (appS ys xs).lo := by
    have h2 := app_comm xs ys ((appS xs ys).lo + 1)
    have h3 := app_comm xs ys ((appS ys xs).lo + 1)
    omega
  have h4 : ∀ v, (appS xs ys).hi < v ↔ (appS ys xs).hi < v := by
    intro v
    have hsw : (∃ x ∈ xs, ∃ y ∈ ys, (gapS x y).hi < v) ↔ (∃ x ∈ ys, ∃ y ∈ xs, (gapS x y).hi < v) := by
      constructor
      · rintro ⟨x, hx, y, hy, h⟩; exact ⟨y, hy, x, hx, by rw [gap_same]; exact h⟩
      · rintro ⟨x, hx, y, hy, h⟩; exact ⟨y, hy, x, hx, by rw [gap_same]; exact h⟩
    unfold appS
    rw [opt_ltH, opt_ltH, ltHi_app, ltHi_app, hsw]
    by_cases h : 0 < xs.length ∧ 0 < ys.length
    · rw [appO_some h.1 h.2, appO_some h.2 h.1]; simp
    · rw [appO_nil h, appO_nil (fun e => h ⟨e.2, e.1⟩)]
  have h5 := h4 ((appS xs ys).hi + 1)
  have h6 := h4 ((appS ys xs).hi + 1)
  exact bnd_ext h1 (by omega)
def dist2 (p q : Pnt) : Int := (p.x - q.x) * (p.x - q.x) + (p.y - q.y) * (p.y - q.y)
theorem gap_holds {a b : Reg} {p q : Pnt} (hp : inR p a) (hq : inR q b) : (gapS a b).lo ≤ dist2 p q ∧ dist2 p q ≤ (gapS a b).hi := by
  have hz : inR ⟨p.x - q.x, p.y - q.y⟩ (zipR minusB a b) := by
    unfold inR inB zipR minusB at *
    dsimp only at *
    omega
  have hfr : (rowB (zipR minusB a b) (p.x - q.x)).fr ≤ p.y - q.y ∧ p.y - q.y ≤ (rowB (zipR minusB a b) (p.x - q.x)).to := by
    unfold inR inB at hz
    unfold rowB
    dsimp only at *
    omega
  have hrow : rowB (zipR minusB a b) (p.x - q.x) ∈ rowsL (zipR minusB a b) := rowsL_iffM.2 ⟨p.x - q.x, hz.1.1, hz.1.2, rfl, by omega⟩
  have h1 := (sqs_lt (zipR minusB a b) ((sqB (rowB (zipR minusB a b) (p.x - q.x))).lo + 1)).2 (.inl ⟨_, hrow, by omega⟩)
  have h2 := (sqs_gt (zipR minusB a b) ((sqB (rowB (zipR minusB a b) (p.x - q.x))).hi - 1)).2 (.inl ⟨_, hrow, by omega⟩)
  have hx : (rowB (zipR minusB a b) (p.x - q.x)).x = p.x - q.x := rfl
  generalize rowB (zipR minusB a b) (p.x - q.x) = R at *
  have hg : gapS a b = sqsS (zipR minusB a b) := rfl
  rw [hg]
  generalize sqsS (zipR minusB a b) = V at *
  unfold dist2
  unfold sqB at h1 h2
  rw [hx] at h1 h2
  dsimp only at h1 h2
  generalize p.y - q.y = y at *
  generalize (p.x - q.x) * (p.x - q.x) = X at *
  have sq_le : ∀ s t : Int, 0 ≤ s → s ≤ t → s * s ≤ t * t := fun s t h h' => Int.mul_le_mul h' h' h (by omega)
  have sq_neg : ∀ s : Int, (-s) * (-s) = s * s := fun s => Int.neg_mul_neg s s
  have hn : max R.fr (min 0 R.to) * max R.fr (min 0 R.to) ≤ y * y := by
    rcases Int.lt_or_le 0 R.fr with h | h
    · rw [show max R.fr (min 0 R.to) = R.fr by omega]; exact sq_le _ _ (by omega) hfr.1
    · rcases Int.lt_or_le R.to 0 with h' | h'
      · rw [show max R.fr (min 0 R.to) = R.to by omega, ← sq_neg R.to, ← sq_neg y]; exact sq_le _ _ (by omega) (by omega)
      · rw [show max R.fr (min 0 R.to) = 0 by omega]
        have := sq_bd (a := y) (A := max y (-y)) (by omega) (by omega)
        omega
  have hf : y * y ≤ max (R.fr * R.fr) (R.to * R.to) := by
    rcases Int.lt_or_le y 0 with h | h
    · have := sq_le (-y) (-R.fr) (by omega) (by omega)
      rw [sq_neg, sq_neg] at this
      omega
    · have := sq_le y R.to h hfr.2
      omega
  omega
theorem app_lo {xs ys : List Reg} {x y : Reg} (hx : x ∈ xs) (hy : y ∈ ys) : (appS xs ys).lo ≤ (gapS x y).lo := by
  have h := (ltO_app xs ys ((gapS x y).lo + 1)).2 ⟨x, hx, y, hy, by omega⟩
  have := (opt_lt (appO xs ys) ((gapS x y).lo + 1)).2 (.inl h)
  unfold appS; omega
theorem app_hi {xs ys : List Reg} (hx : 0 < xs.length) (hy : 0 < ys.length) : ∃ x ∈ xs, ∃ y ∈ ys, (gapS x y).hi ≤ (appS xs ys).hi := by
  have h := (opt_ltH (appO xs ys) ((appS xs ys).hi + 1)).1 (by unfold appS; omega)
  rcases h with h | ⟨h, -⟩
  · obtain ⟨x, h1, y, h2, h3⟩ := (ltHi_app xs ys _).1 h
    exact ⟨x, h1, y, h2, by omega⟩
  · rw [appO_some hx hy] at h; cases h
def lsM (m d : Int) : Int := if m < 0 ∨ d < m then d else m
def lsIn (o : Int) (x : Pnt) (ys : List Pnt) (j : Nat) : Int := ((ys.take j).map (dist2 x)).foldl lsM o
def lsTo (xs ys : List Pnt) (i : Nat) : Int := (xs.take i).foldl (fun o x => lsIn o x ys ys.length) (-1)
theorem lsIn_succ (o : Int) (x : Pnt) {ys : List Pnt} {j : Nat} {y : Pnt} (h : ys[j]? = some y) : lsIn o x ys (j + 1) = lsM (lsIn o x ys j) (dist2 x y) := by
  unfold lsIn
  rw [List.take_add_one, h, List.map_append, List.foldl_append]; rfl
theorem lsTo_succ {xs : List Pnt} (ys : List Pnt) {i : Nat} {x : Pnt} (h : xs[i]? = some x) : lsTo xs ys (i + 1) = lsIn (lsTo xs ys i) x ys ys.length := by
  unfold lsTo
  rw [List.take_add_one, h, List.foldl_append]; rfl
theorem dist2_ge (p q : Pnt) : 0 ≤ dist2 p q := by
  unfold dist2
  have h : ∀ n : Int, 0 ≤ n * n := fun n => (sq_bd (a := n) (A := max n (-n)) (by omega) (by omega)).1
  have := h (p.x - q.x)
  have := h (p.y - q.y)
  omega
theorem ls_fold : ∀ (L : List Int) (o : Int), (∀ d ∈ L, 0 ≤ d) → (L.foldl lsM o = o ∨ L.foldl lsM o ∈ L) ∧ (0 ≤ o → L.foldl lsM o ≤ o) ∧ (∀ d ∈ L, L.foldl lsM o ≤ d) ∧ (L ≠ [] → 0 ≤ L.foldl lsM o) ∧ (0 ≤ o → 0 ≤ L.foldl lsM o)
  | [], o, _ => ⟨.inl rfl, fun _ => Int.le_refl _, (fun d h => by cases h), (fun h => absurd rfl h), fun h => h⟩
  | d :: L, o, h => by
    rw [List.foldl_cons]
    have hd := h d List.mem_cons_self
    obtain ⟨h1, h2, h3, h4, h5⟩ := ls_fold L (lsM o d) (fun x hx => h x (List.mem_cons_of_mem _ hx))
    have hm : lsM o d = d ∨ (lsM o d = o ∧ 0 ≤ o ∧ o ≤ d) := by unfold lsM; split <;> omega
    have hmd : lsM o d ≤ d := by omega
    have hm0 : 0 ≤ lsM o d := by omega
    refine ⟨?_, fun ho => ?_, fun x hx => ?_, fun _ => h5 hm0, fun _ => h5 hm0⟩
    · rcases h1 with h1 | h1
      · rcases hm with e | e
        · exact .inr (by rw [h1, e]; exact List.mem_cons_self)
        · exact .inl (by rw [h1, e.1])
      · exact .inr (List.mem_cons_of_mem _ h1)
    · have := h2 hm0; have : lsM o d ≤ o := by unfold lsM; split <;> omega
      omega
    · rcases List.mem_cons.1 hx with rfl | hx
      · have := h2 hm0; omega
      · exact h3 x hx
theorem lsTo_flat (xs ys : List Pnt) : lsTo xs ys xs.length = (xs.flatMap fun x => ys.map (dist2 x)).foldl lsM (-1) := by
  unfold lsTo
  rw [List.take_of_length_le (Nat.le_refl _)]
  have : ∀ (L : List Pnt) (o : Int), L.foldl (fun o x => lsIn o x ys ys.length) o = (L.flatMap fun x => ys.map (dist2 x)).foldl lsM o := by
    intro L
    induction L with
    | nil => intro o; rfl
    | cons x L ih =>
      intro o
      rw [List.foldl_cons, ih, List.flatMap_cons, List.foldl_append]
      congr 1
      unfold lsIn
      rw [List.take_of_length_le (Nat.le_refl _)]
  exact this xs _
theorem ls_spec {xs ys : List Pnt} (hx : 0 < xs.length) (hy : 0 < ys.length) : (∃ x ∈ xs, ∃ y ∈ ys, lsTo xs ys xs.length = dist2 x y) ∧ ∀ x ∈ xs, ∀ y ∈ ys, lsTo xs ys xs.length ≤ dist2 x y := by
  rw [lsTo_flat]
  have hmem : ∀ d, d ∈ (xs.flatMap fun x => ys.map (dist2 x)) ↔ ∃ x ∈ xs, ∃ y ∈ ys, dist2 x y = d := by
    intro d
    simp only [List.mem_flatMap, List.mem_map]
  obtain ⟨h1, -, h3, h4, -⟩ := ls_fold (xs.flatMap fun x => ys.map (dist2 x)) (-1) (fun d hd => by obtain ⟨x, -, y, -, rfl⟩ := (hmem d).1 hd; exact dist2_ge x y)
  obtain ⟨x0, hx0⟩ := some_of_lt rfl hx
  obtain ⟨y0, hy0⟩ := some_of_lt rfl hy
  have hne : (xs.flatMap fun x => ys.map (dist2 x)) ≠ [] := by
    intro e
    have := (hmem (dist2 x0 y0)).2 ⟨x0, List.mem_of_getElem? hx0, y0, List.mem_of_getElem? hy0, rfl⟩
    rw [e] at this; cases this
  have h5 := h4 hne
  constructor
  · rcases h1 with h1 | h1
    · omega
    · obtain ⟨x, hx, y, hy, e⟩ := (hmem _).1 h1
      exact ⟨x, hx, y, hy, e.symm⟩
  · intro x hx y hy
    exact h3 _ ((hmem _).2 ⟨x, hx, y, hy, rfl⟩)
theorem apart_said {xs ys : List Reg} {ps qs : List Pnt} (hp : ps.length = xs.length) (hq : qs.length = ys.length) (hx : 0 < xs.length) (hy : 0 < ys.length)
    (h1 : ∀ (i : Nat) (x : Reg) (p : Pnt), xs[i]? = some x → ps[i]? = some p → inR p x) (h2 : ∀ (i : Nat) (y : Reg) (q : Pnt), ys[i]? = some y → qs[i]? = some q → inR q y) :
    (appS xs ys).lo ≤ lsTo ps qs ps.length ∧ lsTo ps qs ps.length ≤ (appS xs ys).hi := by
  obtain ⟨⟨p, hp1, q, hq1, e⟩, hmin⟩ := ls_spec (xs := ps) (ys := qs) (by omega) (by omega)
  have hat1 : ∀ p ∈ ps, ∃ x ∈ xs, inR p x := by
    intro p hp
    obtain ⟨i, hi⟩ := List.mem_iff_getElem?.1 hp
    obtain ⟨x, hx⟩ := some_of_lt rfl (show i < xs.length by have := (List.getElem?_eq_some_iff.1 hi).1; omega)
    exact ⟨x, List.mem_of_getElem? hx, h1 i x p hx hi⟩
  have hat2 : ∀ q ∈ qs, ∃ y ∈ ys, inR q y := by
    intro q hq
    obtain ⟨i, hi⟩ := List.mem_iff_getElem?.1 hq
    obtain ⟨y, hy⟩ := some_of_lt rfl (show i < ys.length by have := (List.getElem?_eq_some_iff.1 hi).1; omega)
    exact ⟨y, List.mem_of_getElem? hy, h2 i y q hy hi⟩
  constructor
  · rw [e]
    obtain ⟨x, hx, hix⟩ := hat1 p hp1
    obtain ⟨y, hy, hiy⟩ := hat2 q hq1
    have := app_lo hx hy
    have := (gap_holds hix hiy).1
    omega
  · obtain ⟨x, hx, y, hy, h⟩ := app_hi hx hy
    obtain ⟨i, hi⟩ := List.mem_iff_getElem?.1 hx
    obtain ⟨k, hk⟩ := List.mem_iff_getElem?.1 hy
    obtain ⟨p2, hp2⟩ := some_of_lt rfl (show i < ps.length by have := (List.getElem?_eq_some_iff.1 hi).1; omega)
    obtain ⟨q2, hq2⟩ := some_of_lt rfl (show k < qs.length by have := (List.getElem?_eq_some_iff.1 hk).1; omega)
    have := (gap_holds (h1 i x p2 hi hp2) (h2 k y q2 hk hq2)).2
    have := hmin p2 (List.mem_of_getElem? hp2) q2 (List.mem_of_getElem? hq2)
    omega
end Go.Proofs.YtjiaepphnddpoaaGreat
namespace Go.Proofs.YtjiaepphnddpoaaGreat
open Go.RowKit Go.Shelf
set_option linter.unusedSimpArgs false
set_option linter.unusedVariables false
def RetLaid (s : Strm) (o : List Int) (up : Bool) (w : World) (e : Ending) (w' : World) : Prop :=
  ∃ P m pc, e = .returned (.tuple #[.slice P m pc, .bool (laidB s o)]) ∧ SlAt w' w.heap.size 2 Pnt.cells P m pc (if laidB s o = true then laidL s o up else []) ∧ Below w.heap.size w w'
def laidOK (s : Strm) (o : List Int) (k : Nat) : Prop := ∀ i, i < k → bendAt s o i ≤ (s.sec i).len
theorem Tryz.infoPnt : (Tryz.prog.info? 59).map (fun i => (i.zero, i.size, i.bytes)) = some (some (.agg #[.int .i64 0, .int .i64 0]), 2, 16) := by kernel_rfl
set_option maxRecDepth 100000 in
set_option maxHeartbeats 4000000 in
theorem laid_any (s : Strm) (A O : Option Addr) (n c co B1 B : Nat) (o : List Int) (up : Bool) (w : World) (ho : okStrm s = true) (hob : ∀ x ∈ o, -16384 ≤ x ∧ x ≤ 16384) (hss : SlAt w B1 5 Sec.cells A n c s.secs) (hs : SlAt w B 1 ivs O n co o) :
    Calls Tryz.prog 35 #[.agg #[.int .i64 s.head, .slice A n c, .int .i64 s.lane.lo, .int .i64 s.lane.hi, .int .i64 s.bend], .slice O n co, .bool up] w (RetLaid s o up w) := by
  have hh := ok_head ho
  have hln := Lib.hid hs.len
  have hsl := Lib.hid hss.len
  have hn8 : n ≤ 8 := by unfold headOk at hh; have := hss.len; omega
  have hXb := fun hk => laidX_neg (s := s) (o := o) up ho (by rw [hln.out, hsl.out]) (laidB_yes hk)
  have hbX : ∀ k, k ≤ n → laidOK s o k → -8000 ≤ laidX s o up k ∧ laidX s o up k ≤ 0 := by
    intro k hk hok
    have : ∀ j, j ≤ k → 0 ≤ -laidX s o up j ∧ -laidX s o up j ≤ 1000 * j := by
      intro j
      induction j with
      | zero => intro _; simp [laidX]
      | succ j ih =>
        intro hj
        have ih := ih (by omega)
        have hl := sec_len ho j
        have := backS_bd (up := up) (h := bendAt s o j) (bend_nonneg s o j) (hok j (by omega)) (Int.le_refl _)
        show 0 ≤ -(laidX s o up j - backS up _ _) ∧ -(laidX s o up j - backS up _ _) ≤ 1000 * ((j + 1 : Nat) : Int)
        omega
    have := this k (Nat.le_refl _)
    omega
  have hprev : ∀ k, -16384 ≤ prev s.head o k ∧ prev s.head o k ≤ 16384 := by
    intro k
    cases k with
    | zero => unfold headOk at hh; show -16384 ≤ s.head ∧ s.head ≤ 16384; omega
    | succ k =>
      show -16384 ≤ o.getD k s.head ∧ o.getD k s.head ≤ 16384
      by_cases hk : k < o.length
      · exact hob _ (List.mem_of_getElem? (getD_get s.head hk))
      · rw [List.getD_eq_getElem?_getD, List.getElem?_eq_none (by omega)]; unfold headOk at hh; simp; omega
  replace hbX := Lib.hid hbX
  replace hprev := Lib.hid hprev
  replace hob := Lib.hid hob
  clear hXb
  replace hh := Lib.hid hh
  have k3 := Blk.new w 26 #[.int .i64 s.head, .slice A n c, .int .i64 s.lane.lo, .int .i64 s.lane.hi, .int .i64 s.bend]
  have hb0 := (Below.refl w.heap.size w).alloc (Nat.le_refl _) (.cells #[.int .i64 s.head, .slice A n c, .int .i64 s.lane.lo, .int .i64 s.lane.hi, .int .i64 s.bend] 26)
  have hsz0 : w.heap.size + 1 ≤ (w.alloc (.cells #[.int .i64 s.head, .slice A n c, .int .i64 s.lane.lo, .int .i64 s.lane.hi, .int .i64 s.bend] 26)).heap.size := by rw [World.size_alloc]; exact Nat.le_refl _
  go_enter Tryz.func35, Tryz.ntmps35
  go_wp2_with fail
  generalize w.alloc (.cells #[.int .i64 s.head, .slice A n c, .int .i64 s.lane.lo, .int .i64 s.lane.hi, .int .i64 s.bend] 26) = w1 at *
  refine wp_held_np (fun w' : World => (∀ j, w'.cell? ⟨w.heap.size, j, none⟩ = #[Value.int .i64 s.head, .slice A n c, .int .i64 s.lane.lo, .int .i64 s.lane.hi, .int .i64 s.bend][j]?) ∧ True) (by kernel_rfl) ?_
  replace k3 := k3.drew
  replace hb0 := hb0.drew
  replace hsz0 : w.heap.size + 1 ≤ w1.drew.heap.size := hsz0
  generalize w1.drew = W at *
  have hS : (fun w' : World => (∀ j, w'.cell? ⟨w.heap.size, j, none⟩ = #[Value.int .i64 s.head, .slice A n c, .int .i64 s.lane.lo, .int .i64 s.lane.hi, .int .i64 s.bend][j]?) ∧ True) W := ⟨k3.cell, trivial⟩
  refine held_take (i := 0) (v := ?_) 16 rfl rfl (by kernel_rfl) (by kernel_rfl) (by kernel_rfl) (fun _ _ _ h => h) (Or.inl ⟨by rfl, ?_⟩) hS ?_
  rotate_left 1
  · intro w' hSw
    try dsimp only at hSw
    obtain ⟨q1, q2⟩ := hSw
    go_simp
    all_goals with_reducible rfl
  try simp only [Act.put, List.setIfInBounds_toArray, List.set_cons_zero, List.set_cons_succ]
  refine held_take (i := 1) (v := ?_) 17 rfl rfl (by kernel_rfl) (by kernel_rfl) (by kernel_rfl) (fun _ _ _ h => h) (Or.inl ⟨by rfl, ?_⟩) hS ?_
  rotate_left 1
  · intro w' hSw
    try dsimp only at hSw
    obtain ⟨q1, q2⟩ := hSw
    go_simp
    all_goals with_reducible rfl
  try simp only [Act.put, List.setIfInBounds_toArray, List.set_cons_zero, List.set_cons_succ]
  refine held_take (i := 2) (v := ?_) 9 rfl rfl (by kernel_rfl) (by kernel_rfl) (by kernel_rfl) (fun _ _ _ h => h) (Or.inl ⟨by rfl, ?_⟩) hS ?_
  rotate_left 1
  · intro w' hSw
    try dsimp only at hSw
    obtain ⟨q1, q2⟩ := hSw
    go_simp
    all_goals with_reducible rfl
  try simp only [Act.put, List.setIfInBounds_toArray, List.set_cons_zero, List.set_cons_succ]
  refine held_take (i := 3) (v := ?_) 10 rfl rfl (by kernel_rfl) (by kernel_rfl) (by kernel_rfl) (fun _ _ _ h => h) (Or.inl ⟨by rfl, ?_⟩) hS ?_
  rotate_left 1
  · intro w' hSw
    try dsimp only at hSw
    obtain ⟨q1, q2⟩ := hSw
    go_simp
    all_goals with_reducible rfl
  try simp only [Act.put, List.setIfInBounds_toArray, List.set_cons_zero, List.set_cons_succ]
  refine wpAnyH_done (by kernel_rfl) (noPanic_normal ?_) _
  clear hS
  go_wp2_with fail
  go_loopw [8, 9, 10, 11] (fun v x la i wr => ∃ k : Nat, i = .int .i64 k ∧ k ≤ n ∧ x = .int .i64 (laidX s o up k) ∧ la = .int .i64 (prev s.head o k) ∧ laidOK s o k ∧ Blk wr w.heap.size 26 #[.int .i64 s.head, .slice A n c, .int .i64 s.lane.lo, .int .i64 s.lane.hi, .int .i64 s.bend] ∧ wr.ownsRow (w.heap.size + 1) 59 2 v k ((laidTo s o up k).flatMap Pnt.cells) ∧ Below w.heap.size w wr ∧ w.heap.size + 1 ≤ wr.heap.size) (fun v x la i wr => n - (intOf i).toNat)
  case atStart => exact ⟨0, rfl, Nat.zero_le _, rfl, rfl, fun i hi => by omega, k3, ⟨rfl, .inl ⟨rfl, rfl⟩⟩, hb0, hsz0⟩
  case round =>
    obtain ⟨k, rfl, hk, rfl, rfl, hok, k3w, hown, hb, hsz⟩ := hrel
    by_cases hlt : k < n
    · have hok9 := Lib.hid hok
      have hXr := hbX.out k hk hok
      have hpr := hprev.out k
      obtain ⟨y, hy⟩ := some_of_lt hln.out hlt
      have hyb := hob.out y (List.mem_of_getElem? hy)
      have hyd : Hid (o.getD k s.head = y) := getD_of _ hy
      have hpk : Hid (prev s.head o (k + 1) = y) := hyd.out
      have hsc := sec_at s (i := k) (by rw [hsl.out]; exact hlt)
      have hso := of_decide_eq_true (ok_sec ho (i := k) (by rw [hsl.out]; exact hlt))
      obtain ⟨bS, oS, hA, -, hbSl, g0, -, -, -, -⟩ := hss.sec hsc
      obtain ⟨bO, oO, hO, -, hbOl, e0⟩ := hs.int hy
      replace g0 := (hb.cell (p := ⟨bS, oS + k * 5, none⟩) hbSl).trans g0
      replace e0 := (hb.cell (p := ⟨bO, oO + k, none⟩) hbOl).trans e0
      have hMs0 : bendAt s o k = magS (y - prev s.head o k) := by unfold bendAt; rw [hyd.out]
      obtain ⟨N, hN⟩ : ∃ N, (s.sec k).len = N := ⟨_, rfl⟩
      obtain ⟨X, hX⟩ : ∃ X, laidX s o up k = X := ⟨_, rfl⟩
      obtain ⟨p, hp⟩ : ∃ p, prev s.head o k = p := ⟨_, rfl⟩
      rw [hp] at hMs0 hpr
      rw [hN] at g0 hso
      rw [hX] at hXr
      simp only [hX, hp]
      obtain ⟨M, hM⟩ : ∃ M, magS (y - p) = M := ⟨_, rfl⟩
      rw [hM] at hMs0
      have hM0 : 0 ≤ M ∧ M ≤ 32768 := by subst hM; unfold magS; omega
      have hmag := fun W => Mag_any (y - p) W (by omega) (by omega)
      simp only [hM] at hmag
      have hNs := Lib.hid hN
      have hMs := Lib.hid hMs0
      have hXk := Lib.hid hX
      have hno : N < M → laidB s o = false := fun h => laidB_no (i := k) (by rw [hln.out]; exact hlt) (by rw [hN, hMs0]; exact h)
      have hok2 : M ≤ N → laidOK s o (k + 1) := fun h i hi => by
        by_cases h2 : i < k
        · exact hok i h2
        · obtain rfl : i = k := by omega
          rw [hN, hMs0]; exact h
      replace hno := Lib.hid hno
      replace hok2 := Lib.hid hok2
      replace hM := Lib.hid hM
      replace hp := Lib.hid hp
      replace hy := Lib.hid hy
      replace hsc := Lib.hid hsc
      obtain ⟨hN1, hN2, -⟩ := hso
      clear hX hN hMs0 hok
      have hk0 : (0 : Int) ≤ (k : Int) := by omega
      have hk1 : (k : Int) < (n : Int) := by omega
      subst hA
      subst hO
      obtain ⟨c3, f3, l3⟩ := k3w.rules
      by_cases hbig : N < M
      · have hv := hno.out hbig
        go_wp2_with fail
        refine (hmag _).mono ?_
        rintro e w' ⟨rfl, rfl⟩
        clear hmag
        replace hv := Lib.hid hv
        go_wp2
        go_ret2
        refine ⟨none, 0, 0, by rw [hv.out]; rfl, ?_, hb⟩
        rw [hv.out]
        exact SlAt.nil _ _ _ _
      · replace hok2 := Lib.hid (hok2.out (by omega))
        have m1 : M * M ≤ N * N := sq_mono hM0.1 (by omega)
        have m0 : 0 ≤ M * M := Int.mul_nonneg hM0.1 hM0.1
        have m2 : N * N ≤ 1000 * 1000 := sq_mono (by omega) hN2
        obtain ⟨hbb0, hbb1, hbb2⟩ := backS_bd (up := up) (h := M) hM0.1 (show M ≤ N by omega) (Int.le_refl _)
        have hbkb : 0 ≤ backS up N M ∧ backS up N M ≤ 1000 := ⟨hbb2, by omega⟩
        replace hbkb := Lib.hid hbkb
        have hroot := fun W => Root_any (N * N - M * M) W (by omega) (by omega)
        have hrb := rootS_bd (show 0 ≤ N * N - M * M by omega)
        have hrr : rootS (N * N - M * M) ≤ 1000 := by
          rcases Int.lt_or_le 1000 (rootS (N * N - M * M)) with h | h
          · have := sq_mono (show (0 : Int) ≤ 1001 by omega) (show 1001 ≤ rootS (N * N - M * M) by omega)
            omega
          · exact h
        have hr0 : 0 ≤ rootS (N * N - M * M) * rootS (N * N - M * M) := Int.mul_nonneg hrb.1 hrb.1
        clear hbb0 hbb1 hbb2
        obtain ⟨r, hr⟩ : ∃ r, rootS (N * N - M * M) = r := ⟨_, rfl⟩
        simp only [hr] at hroot hrb hrr hr0
        replace hr := Lib.hid hr
        have hbkb := hbkb.out
        go_wp2_with fail
        refine (hmag _).mono ?_
        rintro e w' ⟨rfl, rfl⟩
        clear hmag
        go_wp2_with fail
        refine (hroot _).mono ?_
        rintro e w' ⟨rfl, rfl⟩
        clear hroot
        cases up with
        | false =>
          have hbk : backS false N M = r := by unfold backS; rw [if_neg (by simp)]; exact hr.out
          have hXs : Hid (laidX s o false (k + 1) = X - (r)) := by show laidX s o false k - backS false (s.sec k).len (bendAt s o k) = _; rw [hNs.out, hMs.out, hXk.out, hbk]
          have hbk2 : 0 ≤ r ∧ r ≤ 1000 := by rw [← hbk]; exact hbkb
          have u1 := IntWalk.i64_in (X - (r)) (by omega)
          replace hbk := Lib.hid hbk
          go_wp2_with fail
          clear c3 f3 l3
          refine wp_held_np (fun w' : World => w'.cell? ⟨bO, oO + k, none⟩ = some (.int .i64 y) ∧ True) (by kernel_rfl) ?_
          replace k3w := k3w.drew
          replace hown : wr.drew.ownsRow _ _ _ _ _ _ := hown
          replace hb := hb.drew
          replace hsz : w.heap.size + 1 ≤ wr.drew.heap.size := hsz
          have hS : (fun w' : World => w'.cell? ⟨bO, oO + k, none⟩ = some (.int .i64 y) ∧ True) wr.drew := ⟨e0, trivial⟩
          generalize wr.drew = wd at *
          refine held_take (i := 0) (v := ?_) 76 rfl rfl (by kernel_rfl) (by kernel_rfl) (by kernel_rfl) (fun _ _ _ h => h) (Or.inl ⟨by rfl, ?_⟩) hS ?_
          rotate_left 1
          · intro w' hSw
            try dsimp only at hSw
            obtain ⟨q1, q2⟩ := hSw
            go_simp
            all_goals with_reducible rfl
          try simp only [Act.put, List.setIfInBounds_toArray, List.set_cons_zero, List.set_cons_succ]
          refine held_take (i := 1) (v := ?_) 77 rfl rfl (by kernel_rfl) (by kernel_rfl) (by kernel_rfl) (fun _ _ _ h => h) (Or.inl ⟨by rfl, ?_⟩) hS ?_
          rotate_left 1
          · intro w' hSw
            try dsimp only at hSw
            obtain ⟨q1, q2⟩ := hSw
            go_simp
            all_goals with_reducible rfl
          try simp only [Act.put, List.setIfInBounds_toArray, List.set_cons_zero, List.set_cons_succ]
          refine held_take (i := 2) (v := ?_) 78 rfl rfl (by kernel_rfl) (by kernel_rfl) (by kernel_rfl) (fun _ _ _ h => h) (Or.inl ⟨by rfl, ?_⟩) hS ?_
          rotate_left 1
          · intro w' hSw
            try dsimp only at hSw
            obtain ⟨q1, q2⟩ := hSw
            go_simp
            all_goals with_reducible rfl
          try simp only [Act.put, List.setIfInBounds_toArray, List.set_cons_zero, List.set_cons_succ]
          refine held_take (i := 3) (v := ?_) 79 rfl rfl (by kernel_rfl) (by kernel_rfl) (by kernel_rfl) (fun _ _ _ h => h) (Or.inl ⟨by rfl, ?_⟩) hS ?_
          rotate_left 1
          · intro w' hSw
            try dsimp only at hSw
            obtain ⟨q1, q2⟩ := hSw
            go_simp
            all_goals with_reducible rfl
          try simp only [Act.put, List.setIfInBounds_toArray, List.set_cons_zero, List.set_cons_succ]
          refine held_take (i := 4) (v := ?_) 80 rfl rfl (by kernel_rfl) (by kernel_rfl) (by kernel_rfl) (fun _ _ _ h => h) (Or.inl ⟨by rfl, ?_⟩) hS ?_
          rotate_left 1
          · intro w' hSw
            try dsimp only at hSw
            obtain ⟨q1, q2⟩ := hSw
            go_simp
            all_goals with_reducible rfl
          try simp only [Act.put, List.setIfInBounds_toArray, List.set_cons_zero, List.set_cons_succ]
          refine held_take (i := 5) (v := ?_) 81 rfl rfl (by kernel_rfl) (by kernel_rfl) (by kernel_rfl) (fun _ _ _ h => h) (Or.inl ⟨by rfl, ?_⟩) hS ?_
          rotate_left 1
          · intro w' hSw
            try dsimp only at hSw
            obtain ⟨q1, q2⟩ := hSw
            go_simp
            all_goals with_reducible rfl
          try simp only [Act.put, List.setIfInBounds_toArray, List.set_cons_zero, List.set_cons_succ]
          refine held_take (i := 6) (v := ?_) 82 rfl rfl (by kernel_rfl) (by kernel_rfl) (by kernel_rfl) (fun _ _ _ h => h) (Or.inl ⟨by rfl, ?_⟩) hS ?_
          rotate_left 1
          · intro w' hSw
            try dsimp only at hSw
            obtain ⟨q1, q2⟩ := hSw
            go_simp
            all_goals with_reducible rfl
          try simp only [Act.put, List.setIfInBounds_toArray, List.set_cons_zero, List.set_cons_succ]
          refine held_take (i := 7) (v := ?_) 9 rfl rfl (by kernel_rfl) (by kernel_rfl) (by kernel_rfl) (fun _ _ _ h => h) (Or.inl ⟨by rfl, ?_⟩) hS ?_
          rotate_left 1
          · intro w' hSw
            try dsimp only at hSw
            obtain ⟨q1, q2⟩ := hSw
            go_simp
            all_goals with_reducible rfl
          try simp only [Act.put, List.setIfInBounds_toArray, List.set_cons_zero, List.set_cons_succ]
          refine held_take (i := 8) (v := ?_) 10 rfl rfl (by kernel_rfl) (by kernel_rfl) (by kernel_rfl) (fun _ _ _ h => h) (Or.inl ⟨by rfl, ?_⟩) hS ?_
          rotate_left 1
          · intro w' hSw
            try dsimp only at hSw
            obtain ⟨q1, q2⟩ := hSw
            go_simp
            all_goals with_reducible rfl
          try simp only [Act.put, List.setIfInBounds_toArray, List.set_cons_zero, List.set_cons_succ]
          refine wpAnyH_done (by kernel_rfl) (noPanic_normal ?_) _
          clear hS u1
          generalize hX1 : X - (r) = X1 at *
          have hbig1 : Hid (k + 1 ≤ maxLen) := by show k + 1 ≤ maxLen; unfold maxLen; omega
          have hbig2 : Hid ((k + 1) * 16 ≤ 140737488355328) := by show (k + 1) * 16 ≤ 140737488355328; omega
          obtain ⟨i0, hi0, hz0, hz1, hz2⟩ := info_parts Tryz.infoPnt
          have hnews : ∀ (j : Nat) (u : Value), ([.int .i64 X1, .int .i64 y] : List Value)[j]? = some u → (wd.alloc (.cells #[.int .i64 X1, .int .i64 y] 59)).cell? ((⟨wd.heap.size, 0, none⟩ : Addr).add j) = some u :=
            World.news_of_block (cs := #[.int .i64 X1, .int .i64 y]) (World.alloc_heap_new wd _)
          have hownf := hown.alloc (.cells #[.int .i64 X1, .int .i64 y] 59)
          have hbf := hb.alloc hb.size (.cells #[.int .i64 X1, .int .i64 y] 59)
          have hszf : w.heap.size + 1 ≤ (wd.alloc (.cells #[.int .i64 X1, .int .i64 y] 59)).heap.size := by rw [World.size_alloc]; omega
          have k3f := k3w.alloc (.cells #[.int .i64 X1, .int .i64 y] 59)
          replace hX1 := Lib.hid hX1
          go_wp2_with (at_builtin; refine wpList_append_lies _ rfl (.tmp 83) (.tmp 87) 77 rfl (w.heap.size + 1) 59 i0 (.agg #[.int .i64 0, .int .i64 0]) 2 16 Tryz.underlying77 hi0 hz0 hz1 hz2 rfl (by decide) u8 k ((laidTo s o false k).flatMap Pnt.cells) rfl hownf ⟨wd.heap.size, 0, none⟩ 1 1 [.int .i64 X1, .int .i64 y] rfl rfl hnews (by simp [Value.oneCell']) (by decide) hbig1.out hbig2.out hszf (wd.heap.size + 1) (by simp) ?_; intro g cap w7 hown7 hgrow hlies hlt7)
          have hbg : Below (w.heap.size + 1) _ w7 := ⟨hgrow.os, hgrow.tape, hgrow.output, hgrow.size, fun b hb2 => hgrow.block b (Nat.lt_of_lt_of_le hb2 hszf) (fun e => by have := (hownf.lt _ e.symm).1; omega)⟩
          have k3g := k3f.belowB hbg (by omega)
          have hbh := hbf.trans (hbg.mono (by omega))
          have hszg : w.heap.size + 1 ≤ w7.heap.size := Nat.le_trans hszf hbg.size
          go_roundw
          case rel =>
            refine ⟨k + 1, by go_num, by omega, ?_, ?_, hok2.out, k3g, ?_, hbh, hszg⟩
            · rw [hXs.out]
            · rw [hpk.out]
            · have hnx : (laidTo s o false (k + 1)).flatMap Pnt.cells = (laidTo s o false k).flatMap Pnt.cells ++ [.int .i64 X1, .int .i64 y] := by
                rw [laidTo_succ, List.flatMap_append, hXs.out, hyd.out]; simp [Pnt.cells]
              rw [hnx]
              exact hown7
          case measure => simp [intOf]; omega
        | true =>
          by_cases hlt2 : r * r < N * N - M * M
          · skip
            have hbk : backS true N M = r + 1 := by unfold backS; rw [hr.out, if_pos ⟨rfl, hlt2⟩]
            have hXs : Hid (laidX s o true (k + 1) = X - (r + 1)) := by show laidX s o true k - backS true (s.sec k).len (bendAt s o k) = _; rw [hNs.out, hMs.out, hXk.out, hbk]
            have hbk2 : 0 ≤ r + 1 ∧ r + 1 ≤ 1000 := by rw [← hbk]; exact hbkb
            have u1 := IntWalk.i64_in (X - (r + 1)) (by omega)
            replace hbk := Lib.hid hbk
            go_wp2_with fail
            clear c3 f3 l3
            refine wp_held_np (fun w' : World => w'.cell? ⟨bO, oO + k, none⟩ = some (.int .i64 y) ∧ True) (by kernel_rfl) ?_
            replace k3w := k3w.drew
            replace hown : wr.drew.ownsRow _ _ _ _ _ _ := hown
            replace hb := hb.drew
            replace hsz : w.heap.size + 1 ≤ wr.drew.heap.size := hsz
            have hS : (fun w' : World => w'.cell? ⟨bO, oO + k, none⟩ = some (.int .i64 y) ∧ True) wr.drew := ⟨e0, trivial⟩
            generalize wr.drew = wd at *
            refine held_take (i := 0) (v := ?_) 76 rfl rfl (by kernel_rfl) (by kernel_rfl) (by kernel_rfl) (fun _ _ _ h => h) (Or.inl ⟨by rfl, ?_⟩) hS ?_
            rotate_left 1
            · intro w' hSw
              try dsimp only at hSw
              obtain ⟨q1, q2⟩ := hSw
              go_simp
              all_goals with_reducible rfl
            try simp only [Act.put, List.setIfInBounds_toArray, List.set_cons_zero, List.set_cons_succ]
            refine held_take (i := 1) (v := ?_) 77 rfl rfl (by kernel_rfl) (by kernel_rfl) (by kernel_rfl) (fun _ _ _ h => h) (Or.inl ⟨by rfl, ?_⟩) hS ?_
            rotate_left 1
            · intro w' hSw
              try dsimp only at hSw
              obtain ⟨q1, q2⟩ := hSw
              go_simp
              all_goals with_reducible rfl
            try simp only [Act.put, List.setIfInBounds_toArray, List.set_cons_zero, List.set_cons_succ]
            refine held_take (i := 2) (v := ?_) 78 rfl rfl (by kernel_rfl) (by kernel_rfl) (by kernel_rfl) (fun _ _ _ h => h) (Or.inl ⟨by rfl, ?_⟩) hS ?_
            rotate_left 1
            · intro w' hSw
              try dsimp only at hSw
              obtain ⟨q1, q2⟩ := hSw
              go_simp
              all_goals with_reducible rfl
            try simp only [Act.put, List.setIfInBounds_toArray, List.set_cons_zero, List.set_cons_succ]
            refine held_take (i := 3) (v := ?_) 79 rfl rfl (by kernel_rfl) (by kernel_rfl) (by kernel_rfl) (fun _ _ _ h => h) (Or.inl ⟨by rfl, ?_⟩) hS ?_
            rotate_left 1
            · intro w' hSw
              try dsimp only at hSw
              obtain ⟨q1, q2⟩ := hSw
              go_simp
              all_goals with_reducible rfl
            try simp only [Act.put, List.setIfInBounds_toArray, List.set_cons_zero, List.set_cons_succ]
            refine held_take (i := 4) (v := ?_) 80 rfl rfl (by kernel_rfl) (by kernel_rfl) (by kernel_rfl) (fun _ _ _ h => h) (Or.inl ⟨by rfl, ?_⟩) hS ?_
            rotate_left 1
            · intro w' hSw
              try dsimp only at hSw
              obtain ⟨q1, q2⟩ := hSw
              go_simp
              all_goals with_reducible rfl
            try simp only [Act.put, List.setIfInBounds_toArray, List.set_cons_zero, List.set_cons_succ]
            refine held_take (i := 5) (v := ?_) 81 rfl rfl (by kernel_rfl) (by kernel_rfl) (by kernel_rfl) (fun _ _ _ h => h) (Or.inl ⟨by rfl, ?_⟩) hS ?_
            rotate_left 1
            · intro w' hSw
              try dsimp only at hSw
              obtain ⟨q1, q2⟩ := hSw
              go_simp
              all_goals with_reducible rfl
            try simp only [Act.put, List.setIfInBounds_toArray, List.set_cons_zero, List.set_cons_succ]
            refine held_take (i := 6) (v := ?_) 82 rfl rfl (by kernel_rfl) (by kernel_rfl) (by kernel_rfl) (fun _ _ _ h => h) (Or.inl ⟨by rfl, ?_⟩) hS ?_
            rotate_left 1
            · intro w' hSw
              try dsimp only at hSw
              obtain ⟨q1, q2⟩ := hSw
              go_simp
              all_goals with_reducible rfl
            try simp only [Act.put, List.setIfInBounds_toArray, List.set_cons_zero, List.set_cons_succ]
            refine held_take (i := 7) (v := ?_) 9 rfl rfl (by kernel_rfl) (by kernel_rfl) (by kernel_rfl) (fun _ _ _ h => h) (Or.inl ⟨by rfl, ?_⟩) hS ?_
            rotate_left 1
            · intro w' hSw
              try dsimp only at hSw
              obtain ⟨q1, q2⟩ := hSw
              go_simp
              all_goals with_reducible rfl
            try simp only [Act.put, List.setIfInBounds_toArray, List.set_cons_zero, List.set_cons_succ]
            refine held_take (i := 8) (v := ?_) 10 rfl rfl (by kernel_rfl) (by kernel_rfl) (by kernel_rfl) (fun _ _ _ h => h) (Or.inl ⟨by rfl, ?_⟩) hS ?_
            rotate_left 1
            · intro w' hSw
              try dsimp only at hSw
              obtain ⟨q1, q2⟩ := hSw
              go_simp
              all_goals with_reducible rfl
            try simp only [Act.put, List.setIfInBounds_toArray, List.set_cons_zero, List.set_cons_succ]
            refine wpAnyH_done (by kernel_rfl) (noPanic_normal ?_) _
            clear hS u1
            generalize hX1 : X - (r + 1) = X1 at *
            have hbig1 : Hid (k + 1 ≤ maxLen) := by show k + 1 ≤ maxLen; unfold maxLen; omega
            have hbig2 : Hid ((k + 1) * 16 ≤ 140737488355328) := by show (k + 1) * 16 ≤ 140737488355328; omega
            obtain ⟨i0, hi0, hz0, hz1, hz2⟩ := info_parts Tryz.infoPnt
            have hnews : ∀ (j : Nat) (u : Value), ([.int .i64 X1, .int .i64 y] : List Value)[j]? = some u → (wd.alloc (.cells #[.int .i64 X1, .int .i64 y] 59)).cell? ((⟨wd.heap.size, 0, none⟩ : Addr).add j) = some u :=
              World.news_of_block (cs := #[.int .i64 X1, .int .i64 y]) (World.alloc_heap_new wd _)
            have hownf := hown.alloc (.cells #[.int .i64 X1, .int .i64 y] 59)
            have hbf := hb.alloc hb.size (.cells #[.int .i64 X1, .int .i64 y] 59)
            have hszf : w.heap.size + 1 ≤ (wd.alloc (.cells #[.int .i64 X1, .int .i64 y] 59)).heap.size := by rw [World.size_alloc]; omega
            have k3f := k3w.alloc (.cells #[.int .i64 X1, .int .i64 y] 59)
            replace hX1 := Lib.hid hX1
            go_wp2_with (at_builtin; refine wpList_append_lies _ rfl (.tmp 83) (.tmp 87) 77 rfl (w.heap.size + 1) 59 i0 (.agg #[.int .i64 0, .int .i64 0]) 2 16 Tryz.underlying77 hi0 hz0 hz1 hz2 rfl (by decide) u8 k ((laidTo s o true k).flatMap Pnt.cells) rfl hownf ⟨wd.heap.size, 0, none⟩ 1 1 [.int .i64 X1, .int .i64 y] rfl rfl hnews (by simp [Value.oneCell']) (by decide) hbig1.out hbig2.out hszf (wd.heap.size + 1) (by simp) ?_; intro g cap w7 hown7 hgrow hlies hlt7)
            have hbg : Below (w.heap.size + 1) _ w7 := ⟨hgrow.os, hgrow.tape, hgrow.output, hgrow.size, fun b hb2 => hgrow.block b (Nat.lt_of_lt_of_le hb2 hszf) (fun e => by have := (hownf.lt _ e.symm).1; omega)⟩
            have k3g := k3f.belowB hbg (by omega)
            have hbh := hbf.trans (hbg.mono (by omega))
            have hszg : w.heap.size + 1 ≤ w7.heap.size := Nat.le_trans hszf hbg.size
            go_roundw
            case rel =>
              refine ⟨k + 1, by go_num, by omega, ?_, ?_, hok2.out, k3g, ?_, hbh, hszg⟩
              · rw [hXs.out]
              · rw [hpk.out]
              · have hnx : (laidTo s o true (k + 1)).flatMap Pnt.cells = (laidTo s o true k).flatMap Pnt.cells ++ [.int .i64 X1, .int .i64 y] := by
                  rw [laidTo_succ, List.flatMap_append, hXs.out, hyd.out]; simp [Pnt.cells]
                rw [hnx]
                exact hown7
            case measure => simp [intOf]; omega
          · skip
            have hbk : backS true N M = r := by unfold backS; rw [hr.out, if_neg (fun h => hlt2 h.2)]
            have hXs : Hid (laidX s o true (k + 1) = X - (r)) := by show laidX s o true k - backS true (s.sec k).len (bendAt s o k) = _; rw [hNs.out, hMs.out, hXk.out, hbk]
            have hbk2 : 0 ≤ r ∧ r ≤ 1000 := by rw [← hbk]; exact hbkb
            have u1 := IntWalk.i64_in (X - (r)) (by omega)
            replace hbk := Lib.hid hbk
            go_wp2_with fail
            clear c3 f3 l3
            refine wp_held_np (fun w' : World => w'.cell? ⟨bO, oO + k, none⟩ = some (.int .i64 y) ∧ True) (by kernel_rfl) ?_
            replace k3w := k3w.drew
            replace hown : wr.drew.ownsRow _ _ _ _ _ _ := hown
            replace hb := hb.drew
            replace hsz : w.heap.size + 1 ≤ wr.drew.heap.size := hsz
            have hS : (fun w' : World => w'.cell? ⟨bO, oO + k, none⟩ = some (.int .i64 y) ∧ True) wr.drew := ⟨e0, trivial⟩
            generalize wr.drew = wd at *
            refine held_take (i := 0) (v := ?_) 76 rfl rfl (by kernel_rfl) (by kernel_rfl) (by kernel_rfl) (fun _ _ _ h => h) (Or.inl ⟨by rfl, ?_⟩) hS ?_
            rotate_left 1
            · intro w' hSw
              try dsimp only at hSw
              obtain ⟨q1, q2⟩ := hSw
              go_simp
              all_goals with_reducible rfl
            try simp only [Act.put, List.setIfInBounds_toArray, List.set_cons_zero, List.set_cons_succ]
            refine held_take (i := 1) (v := ?_) 77 rfl rfl (by kernel_rfl) (by kernel_rfl) (by kernel_rfl) (fun _ _ _ h => h) (Or.inl ⟨by rfl, ?_⟩) hS ?_
            rotate_left 1
            · intro w' hSw
              try dsimp only at hSw
              obtain ⟨q1, q2⟩ := hSw
              go_simp
              all_goals with_reducible rfl
            try simp only [Act.put, List.setIfInBounds_toArray, List.set_cons_zero, List.set_cons_succ]
            refine held_take (i := 2) (v := ?_) 78 rfl rfl (by kernel_rfl) (by kernel_rfl) (by kernel_rfl) (fun _ _ _ h => h) (Or.inl ⟨by rfl, ?_⟩) hS ?_
            rotate_left 1
            · intro w' hSw
              try dsimp only at hSw
              obtain ⟨q1, q2⟩ := hSw
              go_simp
              all_goals with_reducible rfl
            try simp only [Act.put, List.setIfInBounds_toArray, List.set_cons_zero, List.set_cons_succ]
            refine held_take (i := 3) (v := ?_) 79 rfl rfl (by kernel_rfl) (by kernel_rfl) (by kernel_rfl) (fun _ _ _ h => h) (Or.inl ⟨by rfl, ?_⟩) hS ?_
            rotate_left 1
            · intro w' hSw
              try dsimp only at hSw
              obtain ⟨q1, q2⟩ := hSw
              go_simp
              all_goals with_reducible rfl
            try simp only [Act.put, List.setIfInBounds_toArray, List.set_cons_zero, List.set_cons_succ]
            refine held_take (i := 4) (v := ?_) 80 rfl rfl (by kernel_rfl) (by kernel_rfl) (by kernel_rfl) (fun _ _ _ h => h) (Or.inl ⟨by rfl, ?_⟩) hS ?_
            rotate_left 1
            · intro w' hSw
              try dsimp only at hSw
              obtain ⟨q1, q2⟩ := hSw
              go_simp
              all_goals with_reducible rfl
            try simp only [Act.put, List.setIfInBounds_toArray, List.set_cons_zero, List.set_cons_succ]
            refine held_take (i := 5) (v := ?_) 81 rfl rfl (by kernel_rfl) (by kernel_rfl) (by kernel_rfl) (fun _ _ _ h => h) (Or.inl ⟨by rfl, ?_⟩) hS ?_
            rotate_left 1
            · intro w' hSw
              try dsimp only at hSw
              obtain ⟨q1, q2⟩ := hSw
              go_simp
              all_goals with_reducible rfl
            try simp only [Act.put, List.setIfInBounds_toArray, List.set_cons_zero, List.set_cons_succ]
            refine held_take (i := 6) (v := ?_) 82 rfl rfl (by kernel_rfl) (by kernel_rfl) (by kernel_rfl) (fun _ _ _ h => h) (Or.inl ⟨by rfl, ?_⟩) hS ?_
            rotate_left 1
            · intro w' hSw
              try dsimp only at hSw
              obtain ⟨q1, q2⟩ := hSw
              go_simp
              all_goals with_reducible rfl
            try simp only [Act.put, List.setIfInBounds_toArray, List.set_cons_zero, List.set_cons_succ]
            refine held_take (i := 7) (v := ?_) 9 rfl rfl (by kernel_rfl) (by kernel_rfl) (by kernel_rfl) (fun _ _ _ h => h) (Or.inl ⟨by rfl, ?_⟩) hS ?_
            rotate_left 1
            · intro w' hSw
              try dsimp only at hSw
              obtain ⟨q1, q2⟩ := hSw
              go_simp
              all_goals with_reducible rfl
            try simp only [Act.put, List.setIfInBounds_toArray, List.set_cons_zero, List.set_cons_succ]
            refine held_take (i := 8) (v := ?_) 10 rfl rfl (by kernel_rfl) (by kernel_rfl) (by kernel_rfl) (fun _ _ _ h => h) (Or.inl ⟨by rfl, ?_⟩) hS ?_
            rotate_left 1
            · intro w' hSw
              try dsimp only at hSw
              obtain ⟨q1, q2⟩ := hSw
              go_simp
              all_goals with_reducible rfl
            try simp only [Act.put, List.setIfInBounds_toArray, List.set_cons_zero, List.set_cons_succ]
            refine wpAnyH_done (by kernel_rfl) (noPanic_normal ?_) _
            clear hS u1
            generalize hX1 : X - (r) = X1 at *
            have hbig1 : Hid (k + 1 ≤ maxLen) := by show k + 1 ≤ maxLen; unfold maxLen; omega
            have hbig2 : Hid ((k + 1) * 16 ≤ 140737488355328) := by show (k + 1) * 16 ≤ 140737488355328; omega
            obtain ⟨i0, hi0, hz0, hz1, hz2⟩ := info_parts Tryz.infoPnt
            have hnews : ∀ (j : Nat) (u : Value), ([.int .i64 X1, .int .i64 y] : List Value)[j]? = some u → (wd.alloc (.cells #[.int .i64 X1, .int .i64 y] 59)).cell? ((⟨wd.heap.size, 0, none⟩ : Addr).add j) = some u :=
              World.news_of_block (cs := #[.int .i64 X1, .int .i64 y]) (World.alloc_heap_new wd _)
            have hownf := hown.alloc (.cells #[.int .i64 X1, .int .i64 y] 59)
            have hbf := hb.alloc hb.size (.cells #[.int .i64 X1, .int .i64 y] 59)
            have hszf : w.heap.size + 1 ≤ (wd.alloc (.cells #[.int .i64 X1, .int .i64 y] 59)).heap.size := by rw [World.size_alloc]; omega
            have k3f := k3w.alloc (.cells #[.int .i64 X1, .int .i64 y] 59)
            replace hX1 := Lib.hid hX1
            go_wp2_with (at_builtin; refine wpList_append_lies _ rfl (.tmp 83) (.tmp 87) 77 rfl (w.heap.size + 1) 59 i0 (.agg #[.int .i64 0, .int .i64 0]) 2 16 Tryz.underlying77 hi0 hz0 hz1 hz2 rfl (by decide) u8 k ((laidTo s o true k).flatMap Pnt.cells) rfl hownf ⟨wd.heap.size, 0, none⟩ 1 1 [.int .i64 X1, .int .i64 y] rfl rfl hnews (by simp [Value.oneCell']) (by decide) hbig1.out hbig2.out hszf (wd.heap.size + 1) (by simp) ?_; intro g cap w7 hown7 hgrow hlies hlt7)
            have hbg : Below (w.heap.size + 1) _ w7 := ⟨hgrow.os, hgrow.tape, hgrow.output, hgrow.size, fun b hb2 => hgrow.block b (Nat.lt_of_lt_of_le hb2 hszf) (fun e => by have := (hownf.lt _ e.symm).1; omega)⟩
            have k3g := k3f.belowB hbg (by omega)
            have hbh := hbf.trans (hbg.mono (by omega))
            have hszg : w.heap.size + 1 ≤ w7.heap.size := Nat.le_trans hszf hbg.size
            go_roundw
            case rel =>
              refine ⟨k + 1, by go_num, by omega, ?_, ?_, hok2.out, k3g, ?_, hbh, hszg⟩
              · rw [hXs.out]
              · rw [hpk.out]
              · have hnx : (laidTo s o true (k + 1)).flatMap Pnt.cells = (laidTo s o true k).flatMap Pnt.cells ++ [.int .i64 X1, .int .i64 y] := by
                  rw [laidTo_succ, List.flatMap_append, hXs.out, hyd.out]; simp [Pnt.cells]
                rw [hnx]
                exact hown7
            case measure => simp [intOf]; omega
    · obtain rfl : k = n := by omega
      have hlb : laidB s o = true := laidB_yes (by rw [hln.out]; exact hok)
      have hll : laidTo s o up k = laidL s o up := by unfold laidL; rw [hln.out]
      rw [hll] at hown
      obtain ⟨P, pc, e2, h2⟩ := SlAt.of_own (enc := Pnt.cells) hown (by omega) (laidL s o up) rfl (fun _ => rfl) (by unfold laidL; rw [laidTo_len]; exact hln.out)
      subst e2
      replace hlb := Lib.hid hlb
      replace hll := Lib.hid hll
      replace hok := Lib.hid hok
      clear hown
      go_wp2
      go_ret2
      refine ⟨P, k, pc, by rw [hlb.out]; rfl, ?_, hb⟩
      rw [hlb.out, if_pos rfl]
      exact h2.mono (by omega)
end Go.Proofs.YtjiaepphnddpoaaGreat
