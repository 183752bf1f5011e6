/-
  A map from states to numbers that the call made itself, as a table: look-up, store, and a loop over it in whatever order.
-/
import Derived.Test.YtcmbmmpihiekhaaGreatChecked
import Derived.Test.YtcmbmmpihiekhaaGreatTQ
import Derived.DeepKeys3
import Derived.Maps.RangeWalk
import Derived.Maps.OwnSet
import Derived.Carry
set_option maxRecDepth 100000
set_option maxHeartbeats 16000000
set_option linter.unusedSimpArgs false
set_option linter.unusedVariables false
namespace Go.Proofs.YtcmbmmpihiekhaaGreat
open Go.RowKit

theorem stKeyT : Tryz.prog.keyType 143 = true := by kernel_rfl
theorem stLaw : WideMaps.KeyLaw Tryz.prog 143 := deep_law (m := 2) (by omega) (by kernel_rfl) (by kernel_rfl) (by rw [Tryz.underlying143])
theorem stKeyed : Maps.Keyed Tryz.prog 143 := Maps.Keyed.of_law stLaw
def skl (x : Int) : Lit := .string (keyBytes [.int .i64 x])
def skv (x : Int) : Value := .agg #[.int .i64 x]
theorem typesPos : ∃ m, Tryz.prog.types.size = m + 1 := ⟨Tryz.prog.types.size - 1, by
  have h : (0 < Tryz.prog.types.size) = True := eq_true (of_decide_eq_true (by kernel_rfl))
  have := of_eq_true h
  omega⟩
theorem cellsSt : Tryz.prog.cellsOf 143 = 1 := by kernel_rfl
theorem cellsI : Tryz.prog.cellsOf 3 = 1 := by kernel_rfl
theorem underI : Tryz.prog.underlying 3 = some (.int .i64) := by kernel_rfl
theorem keyOf_st {x : Int} (hx : (Lit.int .i64 x).wf = true) : keyOf Tryz.prog 143 (skv x) = some (skl x) := by
  obtain ⟨m, hm⟩ := typesPos
  unfold keyOf skv
  simp only [Tryz.underlying143]
  rw [if_pos (by simp [stKeyT, Value.formed, Tryz.underlying143, cellsSt]), hm]
  unfold Program.keyLits
  simp only [Tryz.underlying143, Value.cells]
  rw [if_pos (by rw [cellsSt]; exact ⟨rfl, by simp⟩)]
  simp [cellsI, Program.keyLits, underI, hx, skl]
theorem keyOf_st_inv {key : Value} {kl : Lit} (h : keyOf Tryz.prog 143 key = some kl) : ∃ x, key = skv x ∧ kl = skl x ∧ (Lit.int .i64 x).wf = true := by
  obtain ⟨m, hm⟩ := typesPos
  have h' := h
  unfold keyOf at h
  simp only [Tryz.underlying143] at h
  split at h
  · rename_i hf
    simp only [Bool.and_eq_true] at hf
    rw [hm, Option.map_eq_some_iff] at h
    obtain ⟨ls, h1, h2⟩ := h
    cases key with
    | agg cs =>
      unfold Program.keyLits at h1
      simp only [Tryz.underlying143, Value.cells] at h1
      split at h1
      · rename_i hc
        rw [cellsSt] at hc
        obtain ⟨l⟩ := cs
        obtain ⟨c0, rfl⟩ : ∃ c0, l = [c0] := List.length_eq_one_iff.1 hc.1
        · simp only [List.mapM_cons, List.mapM_nil, cellsI, List.drop_zero, List.take_succ_cons, List.take_zero, bind, pure, Option.map_eq_some_iff, Option.bind_eq_some_iff] at h1
          obtain ⟨a, ⟨a0, h3, a1, h4, h5⟩, h6⟩ := h1
          unfold Program.keyLits at h3
          rw [underI] at h3
          cases c0 <;> simp at h3
          rename_i q x
          obtain ⟨⟨rfl, hw⟩, rfl⟩ := h3
          refine ⟨x, rfl, ?_, hw⟩
          have := keyOf_st hw
          unfold skv at this
          exact Option.some.inj (h'.symm.trans this)
      · cases h1
    | _ => simp [Value.formed, Tryz.underlying143] at hf
  · cases h
theorem skl_inj {x y : Int} (hx : (Lit.int .i64 x).wf = true) (hy : (Lit.int .i64 y).wf = true) (h : skl x = skl y) : x = y := by
  have := stKeyed.inj (keyOf_st hx) (h ▸ keyOf_st hy)
  simpa [skv] using this
theorem wfN {n : Nat} (h : n ≤ 1000000) : (Lit.int .i64 (n : Int)).wf = true := by
  simp only [Lit.wf, IntKind.min, IntKind.max, IntKind.signed, IntKind.bits, Bool.and_eq_true, decide_eq_true_eq, if_true]
  omega
theorem skl_key (x : Int) : WideAt.IsKeyLit (skl x) := trivial
abbrev Dw := DataW Unit
def valD (f : Tab) (s : Nat) (z : Dw) : Dw := match f s with | some v => .lit (.int .i64 (v : Int)) | none => z
def hasT (f : Tab) (s : Nat) : Bool := (f s).isSome
def cntT (f : Tab) : Nat := (List.range 4096).countP (hasT f)
theorem cntT_le (f : Tab) : cntT f ≤ 4096 := by unfold cntT; have := List.countP_le_length (p := hasT f) (l := List.range 4096); simpa using this
theorem count_upd {p p' : Nat → Bool} {s : Nat} (h1 : p s = false) (h2 : p' s = true) (h3 : ∀ t, t ≠ s → p' t = p t) : ∀ n, (List.range n).countP p' = (List.range n).countP p + (if s < n then 1 else 0)
  | 0 => rfl
  | n + 1 => by
    rw [List.range_succ, List.countP_append, List.countP_append, count_upd h1 h2 h3 n, List.countP_singleton, List.countP_singleton]
    by_cases e : n = s
    · subst e
      simp [h1, h2]
    · rw [h3 n e]
      by_cases hl : s < n
      · have hl2 : s < n + 1 := by omega
        simp only [hl, hl2, if_true]; omega
      · have hl2 : ¬ s < n + 1 := by omega
        simp only [hl, hl2, if_false]; omega
theorem count_same {p p' : Nat → Bool} (h : ∀ t, p' t = p t) (n : Nat) : (List.range n).countP p' = (List.range n).countP p := by rw [funext h]
structure TabOf (D : Dw) (f : Tab) : Prop where
  map : Maps.IsMap D
  at_ : ∀ s : Nat, s < 4096 → ∀ z, D.atKey (skl s) z = valD f s z
  out : ∀ x : Int, (Lit.int .i64 x).wf = true → ¬ (0 ≤ x ∧ x < 4096) → Maps.has D (skl x) = false
  size : Maps.size D = cntT f
theorem hasT_is {D : Dw} {f : Tab} (h : TabOf D f) {s : Nat} (hs : s < 4096) : Maps.has D (skl s) = hasT f s := by
  have := h.at_ s hs
  unfold valD at this
  unfold hasT
  cases hf : f s with
  | none => rw [hf] at this; exact Maps.has_false_of_atKey this
  | some v => rw [hf] at this; exact Maps.has_true_of_atKey this
def updT (f : Tab) (s v : Nat) : Tab := fun t => if t = s then some v else f t
theorem putMax_none {g : Tab} {t u : Nat} (h : g t = none) : putMax g t u = updT g t u := by
  funext t'
  unfold putMax updT
  rw [h]
theorem putMax_gt {g : Tab} {t u o : Nat} (h : g t = some o) (hu : o ≤ u) : putMax g t u = updT g t u := by
  funext t'
  unfold putMax updT
  rw [h]
  dsimp only
  rw [Nat.max_eq_right hu]
theorem putMax_le {g : Tab} {t u o : Nat} (h : g t = some o) (hu : u ≤ o) : putMax g t u = g := by
  funext t'
  unfold putMax
  rw [h]
  dsimp only
  rw [Nat.max_eq_left hu]
  by_cases e : t' = t
  · subst e; rw [if_pos rfl, h]
  · rw [if_neg e]
theorem tabOf_made : TabOf (.map [] : Dw) (fun _ => none) := ⟨⟨_, rfl⟩, fun _ _ _ => rfl, fun _ _ _ => rfl, by unfold cntT hasT; simp [Maps.size]⟩
theorem tabOf_put {D : Dw} {f : Tab} (h : TabOf D f) (ht : Maps.Tidy D) {s v : Nat} (hs : s < 4096) : TabOf (D.put (skl s) (.lit (.int .i64 (v : Int)))) (updT f s v) where
  map := h.map.put _ _
  at_ t htt z := by
    unfold valD updT
    by_cases e : t = s
    · subst e
      rw [if_pos rfl]
      exact Maps.atKey_put_same h.map (skl_key _) _ _
    · rw [if_neg e, Maps.atKey_put_other (fun e2 => e (by have := skl_inj (wfN (by omega)) (wfN (by omega)) e2; omega))]
      exact h.at_ t htt z
  out x hx hn := by
    rw [Maps.has_put_other (fun e2 => hn (by have := skl_inj hx (wfN (by omega)) e2; omega))]
    exact h.out x hx hn
  size := by
    rw [Maps.size_put ht, hasT_is h hs, h.size]
    unfold cntT
    by_cases e : hasT f s = true
    · rw [if_pos e]
      refine (count_same (fun t => ?_) _).symm
      unfold hasT updT
      by_cases e2 : t = s
      · subst e2; rw [if_pos rfl]; exact e.symm
      · rw [if_neg e2]
    · rw [if_neg e, count_upd (p := hasT f) (p' := hasT (updT f s v)) (s := s) (by simpa using e) (by simp [hasT, updT]) (fun t e2 => by simp [hasT, updT, e2]), if_pos hs]
/-- The map at block b reads as the table f. -/
def SMap (w : World) (b : Nat) (f : Tab) : Prop := ∃ D : Dw, w.ownsMap Tryz.prog 143 (plainElem Tryz.prog 3) b (cntT f) D ∧ TabOf D f
theorem own_size {w : World} {b n : Nat} {D : Dw} (h : w.ownsMap Tryz.prog 143 (plainElem Tryz.prog 3) b n D) : w.ownsMap Tryz.prog 143 (plainElem Tryz.prog 3) b (Maps.size D) D := by
  obtain ⟨es, clock, hb, F, _, rfl⟩ := h
  exact ⟨es, clock, hb, F, by simp [Maps.size, length_sorted], rfl⟩
theorem SMap.made (w : World) : SMap (w.alloc (.map #[] 0)) w.heap.size (fun _ => none) :=
  ⟨.map [], (World.ownsMap_made _ _ _ _).mono (Nat.zero_le _), tabOf_made⟩
theorem SMap.lt {w : World} {b : Nat} {f : Tab} (h : SMap w b f) : b < w.heap.size := let ⟨_, h, _⟩ := h; h.lt
theorem SMap.kept {w w' : World} {b : Nat} {f : Tab} {row : Option Nat} (h : SMap w b f) (hg : w.grownBy w' row) (hne : some b ≠ row) : SMap w' b f := let ⟨D, h1, h2⟩ := h; ⟨D, h1.kept hg hne, h2⟩
theorem SMap.block {w w' : World} {b : Nat} {f : Tab} (h : SMap w b f) (e : w'.heap[b]? = w.heap[b]?) : SMap w' b f := by
  obtain ⟨D, ⟨es, clock, hb, r⟩, h2⟩ := h
  exact ⟨D, ⟨es, clock, e.trans hb, r⟩, h2⟩
theorem SMap.alloc {w : World} {b : Nat} {f : Tab} (h : SMap w b f) (o : Obj) : SMap (w.alloc o) b f := h.kept (World.grownBy_alloc w o none) (by simp)
theorem SMap.below' {w w' : World} {b : Nat} {f : Tab} (h : SMap w b f) (hb : Below w.heap.size w w') : SMap w' b f := h.block (hb.block b h.lt)
theorem zeroI (w : World) : (zeroValue 3).run Tryz.prog w = .ok (.int .i64 0) w := by kernel_rfl
theorem SMap.look {w : World} {b : Nat} {f : Tab} (h : SMap w b f) {s : Nat} (hs : s < 4096) :
    (Instr.lookup 147 (.map (some b)) (.agg #[.int .i64 (s : Int)]) true).run Tryz.prog w = .ok (.tuple #[.int .i64 (match f s with | some v => (v : Int) | none => 0), .bool (f s).isSome]) w := by
  obtain ⟨D, ho, ht⟩ := h
  obtain ⟨v, ps, hrun, hR⟩ := ho.look_ok stKeyed Tryz.underlying147 (z := .int .i64 0) (zeroI _) (plainElem_int underI (by decide)) (keyOf_st (wfN (n := s) (by omega)))
  rw [ht.at_ s hs] at hR
  rw [hasT_is ht hs] at hrun
  refine hrun.trans ?_
  obtain ⟨c, rfl, e, -⟩ := plainElem_int_inv underI hR
  simp only [Prod.mk.injEq] at e
  have e1 := e.1
  unfold valD at e1
  unfold hasT
  cases hf : f s with
  | none => rw [hf] at e1; simp at e1; rw [← e1]
  | some u => rw [hf] at e1; simp at e1; rw [← e1]
theorem SMap.look_some {w : World} {b : Nat} {f : Tab} (h : SMap w b f) {s v : Nat} (hs : s < 4096) (hf : f s = some v) :
    (Instr.lookup 147 (.map (some b)) (.agg #[.int .i64 (s : Int)]) true).run Tryz.prog w = .ok (.tuple #[.int .i64 (v : Int), .bool true]) w := by
  have := h.look hs
  rw [hf] at this
  exact this
theorem SMap.look_none {w : World} {b : Nat} {f : Tab} (h : SMap w b f) {s : Nat} (hs : s < 4096) (hf : f s = none) :
    (Instr.lookup 147 (.map (some b)) (.agg #[.int .i64 (s : Int)]) true).run Tryz.prog w = .ok (.tuple #[.int .i64 0, .bool false]) w := by
  have := h.look hs
  rw [hf] at this
  exact this
theorem SMap.store {w : World} {b : Nat} {f : Tab} (h : SMap w b f) {s v : Nat} (hs : s < 4096) (hv : v ≤ 1000000) :
    ∃ w', (Instr.mapUpdate 147 (.map (some b)) (.agg #[.int .i64 (s : Int)]) (.int .i64 (v : Int))).run Tryz.prog w = .ok () w' ∧ SMap w' b (updT f s v) ∧ w.grownBy w' (some b) := by
  obtain ⟨D, ho, ht⟩ := h
  have htidy := ho.tidy stKeyed
  obtain ⟨w', h1, h2, h3⟩ := ho.update stKeyed Tryz.underlying147 (by have := cntT_le f; unfold maxLen; omega) (keyOf_st (wfN (n := s) (by omega))) (plainElem_int underI (wfN hv))
  have ht2 := tabOf_put ht htidy (v := v) hs
  exact ⟨w', h1, ⟨_, ht2.size ▸ own_size h2, ht2⟩, h3⟩
section
variable {ops : Array Oper} {rest : List Oper} {o : Oper} {a : Act} {Q : Exit → Act → World → Prop} {w : World} {b : Nat} {f : Tab}
theorem wpList_tabPut (hg : o.guard = none) (m x v : Operand) (hop : o.op = Op.mapUpdate 147 m x v ∨ o.op = Op.insert 147 m x v)
    (h : SMap w b f) {s n : Nat} (hs : s < 4096) (hn : n ≤ 1000000) (hm : a.eval m = .map (some b)) (hx : a.eval x = .agg #[.int .i64 (s : Int)]) (hv : a.eval v = .int .i64 (n : Int))
    (hK : ∀ w', SMap w' b (updT f s n) → w.grownBy w' (some b) → wpList Tryz.prog ops Q rest (a.put o.dst undef) w') : wpList Tryz.prog ops Q (o :: rest) a w := by
  refine wpList_plain hg fun K' hK' => ?_
  obtain ⟨w', hrun, r1, r2⟩ := h.store hs hn
  unfold Oper.wp
  rcases hop with hop | hop
  · simp [execOp, hop, hm, hx, hv, hrun, Result.andThen]
    exact hK' _ _ (hK w' r1 r2)
  · simp [execOp, hop, hm, hx, hv, hrun, Result.andThen]
    exact hK' _ _ (hK w' r1 r2)
/-- A loop over the map is under way: lf says which entries are still to come. -/
def TRange (w : World) (b r : Nat) (f : Tab) (lf : Nat → Bool) (cnt : Nat) : Prop :=
  ∃ (D : Dw) (left : Lit → Bool), w.ranges Tryz.prog 143 (plainElem Tryz.prog 3) b r (cntT f) D left cnt ∧ TabOf D f ∧ ∀ s : Nat, s < 4096 → left (skl s) = lf s
theorem TRange.kept {w' : World} {r cnt : Nat} {lf : Nat → Bool} {row : Option Nat} (h : TRange w b r f lf cnt) (hg : w.grownBy w' row) (h1 : some b ≠ row) (h2 : some r ≠ row) : TRange w' b r f lf cnt :=
  let ⟨D, left, h3, h4⟩ := h; ⟨D, left, h3.kept hg h1 h2, h4⟩
theorem TRange.alloc {r cnt : Nat} {lf : Nat → Bool} (h : TRange w b r f lf cnt) (o : Obj) : TRange (w.alloc o) b r f lf cnt := h.kept (World.grownBy_alloc w o none) (by simp) (by simp)
theorem TRange.left_eq {r cnt : Nat} {lf : Nat → Bool} (h : TRange w b r f lf cnt) : w.rangeLeft b r = cnt := let ⟨D, left, h3, h4⟩ := h; h3.left_eq
theorem TRange.lt {r cnt : Nat} {lf : Nat → Bool} (h : TRange w b r f lf cnt) : r < w.heap.size := let ⟨D, left, h3, h4⟩ := h; h3.lt
theorem TRange.below' {w' : World} {r cnt : Nat} {lf : Nat → Bool} (h : TRange w b r f lf cnt) (hb : Below w.heap.size w w') : TRange w' b r f lf cnt :=
  h.kept (row := none) ⟨hb.os, hb.tape, hb.output, hb.size, fun k hk _ => hb.block k hk⟩ (by simp) (by simp)
theorem wpList_tabRange (hg : o.guard = none) (m : Operand) (hop : o.op = Op.range 147 m) (h : SMap w b f) (hm : a.eval m = .map (some b))
    (hK : ∀ w', TRange w' b w.heap.size f (hasT f) (cntT f) → w.grownBy w' none → w'.heap.size = w.heap.size + 1 → wpList Tryz.prog ops Q rest (a.put o.dst (.pointer (some ⟨w.heap.size, 0, none⟩))) w') :
    wpList Tryz.prog ops Q (o :: rest) a w := by
  obtain ⟨D, h1, h2⟩ := h
  refine wpList_range_own w hg m _ hop 143 3 stKeyed Tryz.underlying147 (plainElem Tryz.prog 3) b (cntT f) D hm h1 fun w' r1 r2 r3 => ?_
  rw [h2.size] at r1
  exact hK w' ⟨D, _, r1, h2, fun s hs => hasT_is h2 hs⟩ r2 r3
theorem wpList_tabNext (hg : o.guard = none) (it : Operand) (hop : o.op = Op.next it false) {r cnt : Nat} {lf : Nat → Bool} (h : TRange w b r f lf cnt) (hit : a.eval it = .pointer (some ⟨r, 0, none⟩))
    (hDone : (∀ s, s < 4096 → lf s = false) → wpList Tryz.prog ops Q rest (a.put o.dst (.tuple #[.bool false])) w)
    (hMore : ∀ (s v : Nat) (w' : World) (cnt' : Nat), s < 4096 → f s = some v → lf s = true → TRange w' b r f (fun t => lf t && !decide (t = s)) cnt' → cnt' < cnt → w.grownBy w' (some r) → w'.heap.size = w.heap.size →
      (Instr.entry (.pointer (some ⟨r, 0, none⟩))).run Tryz.prog w' = .ok (.tuple #[.agg #[.int .i64 (s : Int)], .int .i64 (v : Int)]) w' → wpList Tryz.prog ops Q rest (a.put o.dst (.tuple #[.bool true, .agg #[.int .i64 (s : Int)], .int .i64 (v : Int)])) w') :
    wpList Tryz.prog ops Q (o :: rest) a w := by
  obtain ⟨D, left, h1, h2, h3⟩ := h
  refine wpList_next_ranges w hg it hop 143 stKeyed (plainElem Tryz.prog 3) skv (Value.int .i64) (fun key kl hk => ?_) (fun v y hv => ?_) b r (cntT f) D left cnt hit h1 (fun h0 hl => ?_) (fun x c kl y w' cnt' hkey hlk hv hat hrg hlt hgr hsz hen => ?_)
  · obtain ⟨x, h4, -, -⟩ := keyOf_st_inv hk; exact ⟨x, h4⟩
  · obtain ⟨c, rfl, _⟩ := plainElem_int_inv underI hv; exact ⟨c, rfl⟩
  · exact hDone fun s hs => by rw [← h3 s hs]; exact hl _
  · obtain ⟨x', e1, rfl, hwx⟩ := keyOf_st_inv hkey
    obtain rfl : x = x' := by simpa [skv] using e1
    obtain ⟨c', e2, rfl, hwc⟩ := plainElem_int_inv underI hv
    obtain rfl : c = c' := by simpa using e2
    have hh := Maps.has_true_of_atKey hat
    have hin : 0 ≤ x ∧ x < 4096 := Classical.byContradiction fun hn => by rw [h2.out x hwx hn] at hh; cases hh
    obtain ⟨s, rfl⟩ : ∃ s : Nat, x = s := ⟨x.toNat, by omega⟩
    have hs : s < 4096 := by omega
    have e3 := h2.at_ s hs
    rw [hasT_is h2 hs] at hh
    unfold hasT at hh
    obtain ⟨v, hv2⟩ := Option.isSome_iff_exists.1 hh
    unfold valD at e3
    rw [hv2] at e3
    have e4 := (e3 .nil).symm.trans (hat .nil)
    obtain rfl : (v : Int) = c := by simpa using e4
    refine hMore s v w' cnt' hs hv2 (by rw [← h3 s hs]; exact hlk) ⟨D, _, hrg, h2, fun t ht => ?_⟩ hlt hgr hsz hen
    show (left (skl t) && !(skl t).sameKey (skl s)) = _
    rw [h3 t ht]
    congr 2
    by_cases e : t = s
    · subst e
      rw [decide_eq_true rfl]
      simp [skl, Lit.sameKey]
    · rw [decide_eq_false e]
      exact Maps.sameKey_ne (fun e2 => e (by have := skl_inj (wfN (by omega)) (wfN (by omega)) e2; omega))
end
end Go.Proofs.YtcmbmmpihiekhaaGreat
