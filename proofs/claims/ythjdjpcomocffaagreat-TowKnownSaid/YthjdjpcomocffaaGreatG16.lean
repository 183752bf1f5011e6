/-
  Walks: split of the chapter's law.
  Plain laws: the first step at which two lines come too near to each other.
-/
import Derived.Test.YthjdjpcomocffaaGreatG15
namespace Go.Proofs.YthjdjpcomocffaaGreat
open Go.RowKit Go.Shelf
set_option linter.unusedSimpArgs false
set_option linter.unusedVariables false

theorem Tryz.infoStr : (Tryz.prog.info? 26).map (fun i => (i.zero, i.size, i.bytes)) = some (some (.agg #[.int .i64 0, .slice none 0 0, .int .i64 0, .int .i64 0, .int .i64 0]), 5, 56) := by kernel_rfl
theorem Tryz.infoBs : (Tryz.prog.info? 36).map (fun i => (i.zero, i.size, i.bytes)) = some (some (.slice none 0 0), 1, 24) := by kernel_rfl
def TlL (w : World) (A : Option Addr) (n c : Nat) (ts : List TlD) : Prop := SlAt w 0 6 TlD.cells A n c ts ∧ ∀ t ∈ ts, StOk w t.t ∧ BdOk w t.b
end Go.Proofs.YthjdjpcomocffaaGreat
namespace Go.Proofs.YthjdjpcomocffaaGreat
open Go.RowKit Go.Shelf
set_option linter.unusedSimpArgs false
set_option linter.unusedVariables false

def nAt (ds : List StD) (bss : List (List Bnd)) (k : Nat) : List Reg := match ds[k]?, bss[k]? with | some d, some b => nodesL d.s b | _, _ => []
def pairH (ds : List StD) (bss : List (List Bnd)) (v : Int) (i k : Nat) : Bool := decide ((appS (nAt ds bss i) (nAt ds bss k)).lo < v * v)
def hitJ (ds : List StD) (v : Int) (bss : List (List Bnd)) : Bool := (List.range ds.length).any fun a => (List.range a).any fun k => pairH ds bss v a k
def stepB (ds : List StD) (bss : List (List Bnd)) (x : Bnd) : List (List Bnd) := List.zipWith (fun d b => encL d.s b x) ds bss
def stAt (ds : List StD) (bss : List (List Bnd)) (ws : List Wat) (j : Nat) : List (List Bnd) := (ws.take j).foldl (fun b x => stepB ds b x.acr) bss
def tanS (ds : List StD) (bss : List (List Bnd)) (ws : List Wat) (v : Int) : Int := fstN (fun j => hitJ ds v (stAt ds bss ws j)) (ws.length + 1)
def tangR (ds : List StD) (es : List BdD) (ws : List Wat) (v : Int) : Int × Int :=
  if sprOk ds es = true then (if chkWats ws = 0 then (if 0 ≤ v ∧ v ≤ 32768 then (tanS ds (es.map (·.bs)) ws v, 0) else (0, 7)) else (0, chkWats ws)) else (0, 36)
theorem stAt_zero (ds : List StD) (bss : List (List Bnd)) (ws : List Wat) : stAt ds bss ws 0 = bss := rfl
theorem stAt_succ (ds : List StD) (bss : List (List Bnd)) {ws : List Wat} {j : Nat} {x : Wat} (h : ws[j]? = some x) : stAt ds bss ws (j + 1) = stepB ds (stAt ds bss ws j) x.acr := by
  unfold stAt
  rw [List.take_add_one, h, List.foldl_append]; rfl
theorem hit_true {ds : List StD} {bss : List (List Bnd)} {v : Int} {a k : Nat} (ha : a < ds.length) (hk : k < a) (h : pairH ds bss v a k = true) : hitJ ds v bss = true :=
  List.any_eq_true.2 ⟨a, List.mem_range.2 ha, List.any_eq_true.2 ⟨k, List.mem_range.2 hk, h⟩⟩
theorem hit_false {ds : List StD} {bss : List (List Bnd)} {v : Int} (h : ∀ a, a < ds.length → ∀ k, k < a → pairH ds bss v a k = false) : hitJ ds v bss = false := by
  unfold hitJ
  rw [List.any_eq_false]
  intro a ha
  rw [Bool.not_eq_true, List.any_eq_false]
  intro k hk
  rw [h a (List.mem_range.1 ha) k (List.mem_range.1 hk)]; simp
def okT (ds : List StD) (bss : List (List Bnd)) : Prop := bss.length = ds.length ∧ ∀ (i : Nat) (d : StD) (b : List Bnd), ds[i]? = some d → bss[i]? = some b → okStrm d.s = true ∧ okOffs d.s b = true
theorem okT_step {ds : List StD} {bss : List (List Bnd)} {x : Bnd} (h : okT ds bss) (hx : okBnd 100 x = true) : okT ds (stepB ds bss x) := by
  refine ⟨by unfold stepB; rw [List.length_zipWith, h.1]; omega, fun i d b hd hb => ?_⟩
  unfold stepB at hb
  rw [List.getElem?_zipWith, hd] at hb
  cases hb0 : bss[i]? with
  | none => rw [hb0] at hb; cases hb
  | some b0 =>
    rw [hb0] at hb
    simp only [Option.some.injEq] at hb
    subst hb
    obtain ⟨h1, h2⟩ := h.2 i d b0 hd hb0
    exact ⟨h1, encL_ok h1 h2 hx⟩
theorem okT_at {ds : List StD} {bss : List (List Bnd)} {ws : List Wat} (h : okT ds bss) (hw : okWats ws = true) : ∀ j, okT ds (stAt ds bss ws j) := by
  have hw2 : ∀ x ∈ ws, okBnd 100 x.acr = true := fun x hx => by
    unfold okWats at hw
    simp only [Bool.and_eq_true] at hw
    have := List.all_eq_true.1 hw.2 x hx
    unfold okWat at this
    simp only [Bool.and_eq_true] at this
    exact this.1
  intro j
  unfold stAt
  have : ∀ (L : List Wat) (b : List (List Bnd)), (∀ x ∈ L, okBnd 100 x.acr = true) → okT ds b → okT ds (L.foldl (fun b x => stepB ds b x.acr) b) := by
    intro L
    induction L with
    | nil => intro b _ hb; exact hb
    | cons x L ih => intro b h1 h2; exact ih _ (fun y hy => h1 y (List.mem_cons_of_mem _ hy)) (okT_step h2 (h1 x List.mem_cons_self))
  exact this _ _ (fun x hx => hw2 x (List.mem_of_mem_take hx)) h
theorem okT_start {ds : List StD} {es : List BdD} (h : sprOk ds es = true) : okT ds (es.map (·.bs)) := by
  unfold sprOk at h
  simp only [Bool.and_eq_true, decide_eq_true_eq] at h
  refine ⟨by rw [List.length_map]; exact h.1.2.2, fun i d b hd hb => ?_⟩
  rw [List.getElem?_map] at hb
  cases he : es[i]? with
  | none => rw [he] at hb; cases hb
  | some e =>
    rw [he] at hb
    simp only [Option.map_some, Option.some.injEq] at hb
    subst hb
    exact errB_zero (sprTo_at h.2 (List.getElem?_eq_some_iff.1 hd).1 hd he)
theorem nAt_eq {ds : List StD} {bss : List (List Bnd)} {es : List BdD} {k : Nat} {d : StD} {e : BdD} (h : es.map (·.bs) = bss) (hd : ds[k]? = some d) (he : es[k]? = some e) : nAt ds bss k = nodesL d.s e.bs := by
  unfold nAt
  rw [hd, ← h, List.getElem?_map, he]; rfl
theorem okT_ok {ds : List StD} {bss : List (List Bnd)} {es : List BdD} {k : Nat} {d : StD} {e : BdD} (ho : okT ds bss) (h : es.map (·.bs) = bss) (hd : ds[k]? = some d) (he : es[k]? = some e) : okStrm d.s = true ∧ okOffs d.s e.bs = true :=
  ho.2 k d e.bs hd (by rw [← h, List.getElem?_map, he]; rfl)
theorem errB_ofP {s : Strm} {bs : List Bnd} (h : okStrm s = true ∧ okOffs s bs = true) : errB s bs = 0 := by
  unfold errB; simp [h.1, h.2]
/-! The nearness of two rows does not turn on their order. -/
def ltO : Option Bnd → Int → Prop
  | none, _ => False
  | some b, v => b.lo < v
theorem ex_cons {α : Type} {p : α → Prop} {a : α} {l : List α} : (∃ x ∈ a :: l, p x) ↔ p a ∨ ∃ x ∈ l, p x := by simp
theorem ltO_minO (o : Option Bnd) (g : Bnd) (v : Int) : ltO (minO o g) v ↔ ltO o v ∨ g.lo < v := by
  cases o with
  | none => simp [minO, ltO]
  | some b => simp only [minO, ltO]; omega
theorem ltO_in (x : Reg) (ys : List Reg) (v : Int) (o : Option Bnd) : ltO (apIn o x ys ys.length) v ↔ ltO o v ∨ ∃ y ∈ ys, (gapS x y).lo < v := by
  unfold apIn
  rw [List.take_of_length_le (Nat.le_refl _)]
  induction ys generalizing o with
  | nil => simp
  | cons y ys ih =>
    simp only [List.map_cons, List.foldl_cons]
    rw [ih, ltO_minO, ex_cons, or_assoc]
theorem ltO_app (xs ys : List Reg) (v : Int) : ltO (appO xs ys) v ↔ ∃ x ∈ xs, ∃ y ∈ ys, (gapS x y).lo < v := by
  unfold appO apTo
  rw [List.take_of_length_le (Nat.le_refl _)]
  have : ∀ (L : List Reg) (o : Option Bnd), ltO (L.foldl (fun o x => apIn o x ys ys.length) o) v ↔ ltO o v ∨ ∃ x ∈ L, ∃ y ∈ ys, (gapS x y).lo < v := by
    intro L
    induction L with
    | nil => intro o; simp
    | cons x L ih =>
      intro o
      simp only [List.foldl_cons]
      rw [ih, ltO_in, ex_cons, or_assoc]
  rw [this]
  simp [ltO]
theorem appO_nil {xs ys : List Reg} (h : ¬ (0 < xs.length ∧ 0 < ys.length)) : appO xs ys = none := by
  unfold appO apTo
  rw [List.take_of_length_le (Nat.le_refl _)]
  cases xs with
  | nil => rfl
  | cons x xs =>
    cases ys with
    | cons y ys => exact absurd ⟨by simp, by simp⟩ h
    | nil =>
      have : ∀ (L : List Reg) (o : Option Bnd), L.foldl (fun o x => apIn o x [] 0) o = o := by
        intro L
        induction L with
        | nil => intro o; rfl
        | cons x L ih => intro o; exact ih o
      exact this _ none
theorem rowsTo_hasM {r : Reg} : ∀ {n j : Nat}, j < n → (rowB r (r.x.lo + j)).fr ≤ (rowB r (r.x.lo + j)).to → rowB r (r.x.lo + j) ∈ rowsTo r n
  | n + 1, j, hj, h => by
    rw [rowsTo, List.mem_append]
    by_cases e : j = n
    · subst e
      rw [if_pos h]
      exact .inr (List.mem_singleton.2 rfl)
    · exact .inl (rowsTo_hasM (by omega) h)
theorem rowsL_iffM {r : Reg} {q : RRow} : q ∈ rowsL r ↔ ∃ x, r.x.lo ≤ x ∧ x ≤ r.x.hi ∧ q = rowB r x ∧ q.fr ≤ q.to := by
  unfold rowsL
  constructor
  · intro h
    obtain ⟨j, hj, e, hle⟩ := rowsTo_mem h
    exact ⟨r.x.lo + j, by omega, by unfold nX at hj; omega, e, hle⟩
  · rintro ⟨x, h1, h2, e, hle⟩
    obtain ⟨j, rfl⟩ : ∃ j : Nat, x = r.x.lo + j := ⟨(x - r.x.lo).toNat, by omega⟩
    subst e
    exact rowsTo_hasM (by unfold nX; omega) hle
def negQ (q : RRow) : RRow := ⟨-q.x, -q.to, -q.fr⟩
theorem minus_ng (a b : Reg) : zipR minusB b a = negR (zipR minusB a b) := by
  unfold zipR negR negB minusB
  simp only [Reg.mk.injEq, Bnd.mk.injEq]
  omega
theorem rowB_neg (r : Reg) (x : Int) : rowB (negR r) (-x) = negQ (rowB r x) := by
  unfold rowB negR negQ negB
  simp only [RRow.mk.injEq, true_and]
  constructor <;> omega
theorem rows_neg {r : Reg} {q : RRow} (h : q ∈ rowsL r) : negQ q ∈ rowsL (negR r) := by
  obtain ⟨x, h1, h2, e, hle⟩ := rowsL_iffM.1 h
  refine rowsL_iffM.2 ⟨-x, ?_, ?_, ?_, ?_⟩
  · unfold negR negB; dsimp only; omega
  · unfold negR negB; dsimp only; omega
  · rw [rowB_neg, e]
  · unfold negQ; dsimp only; omega
theorem neg_neg_r (r : Reg) : negR (negR r) = r := by
  unfold negR negB
  simp only [Int.neg_neg]
theorem sqB_neg {q : RRow} (h : q.fr ≤ q.to) : sqB (negQ q) = sqB q := by
  unfold sqB negQ
  dsimp only
  have e : max (-q.to) (min 0 (-q.fr)) = -(max q.fr (min 0 q.to)) := by omega
  rw [e]
  simp only [Int.neg_mul_neg]
  rw [Int.max_comm (q.to * q.to)]
theorem pickO_fold (v : Int) : ∀ (L : List Bnd) (o : Option Bnd), ltO (L.foldl (pickO ltLo) o) v ↔ ltO o v ∨ ∃ b ∈ L, b.lo < v
  | [], o => by simp
  | b :: L, o => by
    rw [List.foldl_cons, pickO_fold v L, ex_cons, ← or_assoc]
    refine or_congr ?_ Iff.rfl
    cases o with
    | none => simp [pickO, ltO]
    | some c =>
      unfold pickO ltLo
      dsimp only
      split
      · rename_i h; have := of_decide_eq_true h; simp only [ltO]; omega
      · rename_i h; have := of_decide_eq_false (Bool.not_eq_true _ ▸ h); simp only [ltO]; omega
theorem pick_none : ∀ (L : List Bnd) (o : Option Bnd), L.foldl (pickO ltLo) o = none ↔ L = [] ∧ o = none
  | [], o => by simp
  | b :: L, o => by
    rw [List.foldl_cons, pick_none L]
    have := pickO_some ltLo o b
    constructor
    · rintro ⟨-, h⟩; rw [h] at this; cases this
    · rintro ⟨h, -⟩; cases h
theorem opt_lt (o : Option Bnd) (v : Int) : (optB o).lo < v ↔ ltO o v ∨ (o = none ∧ 0 < v) := by
  cases o with
  | none => simp [ltO, optB]
  | some b => simp [ltO, optB]
theorem sqs_lt (r : Reg) (v : Int) : (sqsS r).lo < v ↔ (∃ q ∈ rowsL r, (sqB q).lo < v) ∨ (rowsL r = [] ∧ 0 < v) := by
  have e : (sqsS r).lo = (optB (pckAll ltLo r)).lo := rfl
  rw [e, opt_lt]
  unfold pckAll sqL
  rw [pickO_fold, pick_none]
  refine or_congr ?_ (by simp)
  simp only [ltO, false_or, List.mem_map]
  constructor
  · rintro ⟨b, ⟨q, hq, rfl⟩, hb⟩; exact ⟨q, hq, hb⟩
  · rintro ⟨q, hq, hb⟩; exact ⟨_, ⟨q, hq, rfl⟩, hb⟩
theorem sqs_neg (r : Reg) (v : Int) : (sqsS (negR r)).lo < v ↔ (sqsS r).lo < v := by
  have h1 : ∀ r, (sqsS r).lo < v → (sqsS (negR r)).lo < v := by
    intro r h
    rw [sqs_lt] at *
    rcases h with ⟨q, hq, hl⟩ | ⟨h1, h2⟩
    · refine .inl ⟨negQ q, rows_neg hq, ?_⟩
      obtain ⟨x, -, -, -, hle⟩ := rowsL_iffM.1 hq
      rw [sqB_neg hle]; exact hl
    · refine .inr ⟨?_, h2⟩
      cases hr : rowsL (negR r) with
      | nil => rfl
      | cons q L =>
        have := rows_neg (r := negR r) (q := q) (by rw [hr]; exact List.mem_cons_self)
        rw [neg_neg_r, h1] at this
        cases this
  constructor
  · intro h
    have := h1 _ h
    rwa [neg_neg_r] at this
  · exact h1 r
theorem gap_comm (a b : Reg) (v : Int) : (gapS a b).lo < v ↔ (gapS b a).lo < v := by
  unfold gapS
  rw [minus_ng a b, sqs_neg]
theorem app_comm (xs ys : List Reg) (v : Int) : (appS xs ys).lo < v ↔ (appS ys xs).lo < v := by
  unfold appS
  rw [opt_lt, opt_lt, ltO_app, ltO_app]
  by_cases h : 0 < xs.length ∧ 0 < ys.length
  · rw [appO_some h.1 h.2, appO_some h.2 h.1]
    constructor
    · rintro (⟨x, hx, y, hy, hl⟩ | ⟨h, -⟩)
      · exact .inl ⟨y, hy, x, hx, (gap_comm _ _ _).1 hl⟩
      · cases h
    · rintro (⟨x, hx, y, hy, hl⟩ | ⟨h, -⟩)
      · exact .inl ⟨y, hy, x, hx, (gap_comm _ _ _).1 hl⟩
      · cases h
  · rw [appO_nil h, appO_nil (fun e => h ⟨e.2, e.1⟩)]
    constructor
    · rintro (⟨x, hx, y, hy, hl⟩ | h)
      · exact .inl ⟨y, hy, x, hx, (gap_comm _ _ _).1 hl⟩
      · exact .inr h
    · rintro (⟨x, hx, y, hy, hl⟩ | h)
      · exact .inl ⟨y, hy, x, hx, (gap_comm _ _ _).1 hl⟩
      · exact .inr h
theorem pair_comm (ds : List StD) (bss : List (List Bnd)) (v : Int) (i k : Nat) : pairH ds bss v i k = pairH ds bss v k i := by
  unfold pairH
  rw [decide_eq_decide]
  exact app_comm _ _ _
theorem Tryz.run_fieldB (a b : Int) (w : World) : (Sem.run Tryz.prog (Instr.field 24 (Value.agg #[Value.int IntKind.i64 a, Value.int IntKind.i64 b]) 0) w) = Result.ok (Value.int .i64 a) w := by
  kernel_rfl
end Go.Proofs.YthjdjpcomocffaaGreat
