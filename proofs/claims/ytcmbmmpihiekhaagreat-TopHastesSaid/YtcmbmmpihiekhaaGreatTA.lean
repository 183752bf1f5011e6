/-
  Courses, walks: the small functions, at the example's own numbers.
  Courses: the two maps that a plan keeps, at the example's own keys.
  A loop over an iterator that may write some elder blocks (maps) between the rounds.
  Courses, walks: ways, ends, steps of the example.
  A drawn region inside the wide fence, its reads taken first, where an operation may hand on to a loop's round.
-/
import Derived.Test.YtcmbmmpihiekhaaGreatTG
import Derived.Deep.Cut
import Derived.Deep.DeepCutAuto
import Derived.Defers
import Derived.Recover
import Derived.Test.YtcmbmmpihiekhaaGreatChecked
import Derived.Test.YtcmbmmpihiekhaaGreatBase
import Derived.DeepKeys3
import Derived.Maps.OwnSet
import Derived.Carry
import Derived.Sort.LoopGhostIn
set_option maxRecDepth 100000
set_option maxHeartbeats 16000000
set_option linter.unusedSimpArgs false
set_option linter.unusedVariables false
namespace Go.Proofs.YtcmbmmpihiekhaaGreat
open Go.RowKit Go.Shelf

theorem cwithin_any (n lo hi : Int) (w : World) :
    Calls Tryz.prog 160 #[.int .i64 n, .int .i64 lo, .int .i64 hi] w fun e w' => e = .returned (.bool (decide (lo ≤ n ∧ n ≤ hi))) ∧ w = w' := by
  by_cases h : lo ≤ n
  · go_enter Tryz.func160, Tryz.ntmps160
    go_wp2
    go_ret
    simp [h]
  · go_enter Tryz.func160, Tryz.ntmps160
    go_wp2
    go_ret
    simp; omega
theorem idx7 (a0 a1 a2 a3 a4 a5 a6 : Value) (w : World) :
    (Instr.index 303 (.agg #[a0, a1, a2, a3, a4, a5, a6]) (.int .i64 0)).run Tryz.prog w = .ok a0 w ∧ (Instr.index 303 (.agg #[a0, a1, a2, a3, a4, a5, a6]) (.int .i64 1)).run Tryz.prog w = .ok a1 w ∧
    (Instr.index 303 (.agg #[a0, a1, a2, a3, a4, a5, a6]) (.int .i64 2)).run Tryz.prog w = .ok a2 w ∧ (Instr.index 303 (.agg #[a0, a1, a2, a3, a4, a5, a6]) (.int .i64 3)).run Tryz.prog w = .ok a3 w := ⟨by kernel_rfl, by kernel_rfl, by kernel_rfl, by kernel_rfl⟩
theorem octA_any (w : World) : Calls Tryz.prog 159 #[.agg #[.int .i64 10, .int .i64 0]] w fun e w' => e = .returned (.int .i64 0) ∧ Below w.heap.size w w' := by
  have hi0 := fun a0 a1 a2 a3 a4 a5 a6 w => (idx7 a0 a1 a2 a3 a4 a5 a6 w).1
  have b := (Below.refl w.heap.size w).alloc (Nat.le_refl _) (.cells #[.int .i64 10, .int .i64 0] 48)
  have k1 := Blk.new w 48 #[.int .i64 10, .int .i64 0]
  go_enter Tryz.func159, Tryz.ntmps159
  go_upto_region 1 with fail
  generalize w.alloc (.cells #[.int .i64 10, .int .i64 0] 48) = W at *
  obtain ⟨c1, f1, l1⟩ := k1.rules
  go_wp2_with (go_at_call 160; refine (cwithin_any _ _ _ _).mono ?_; rintro e w' ⟨rfl, rfl⟩)
  go_quiet (fail)
  go_wp2
  refine wp_loop_rounds 1 ?_
  rw [rounds_succ]
  go_wp2
  go_ret
  exact ⟨rfl, below_drewN b _⟩
theorem octB_any (w : World) : Calls Tryz.prog 159 #[.agg #[.int .i64 (-10), .int .i64 0]] w fun e w' => e = .returned (.int .i64 3) ∧ Below w.heap.size w w' := by
  have hi0 := fun a0 a1 a2 a3 a4 a5 a6 w => (idx7 a0 a1 a2 a3 a4 a5 a6 w).1
  have hi1 := fun a0 a1 a2 a3 a4 a5 a6 w => (idx7 a0 a1 a2 a3 a4 a5 a6 w).2.1
  have hi2 := fun a0 a1 a2 a3 a4 a5 a6 w => (idx7 a0 a1 a2 a3 a4 a5 a6 w).2.2.1
  have hi3 := fun a0 a1 a2 a3 a4 a5 a6 w => (idx7 a0 a1 a2 a3 a4 a5 a6 w).2.2.2
  have b := (Below.refl w.heap.size w).alloc (Nat.le_refl _) (.cells #[.int .i64 (-10), .int .i64 0] 48)
  have k1 := Blk.new w 48 #[.int .i64 (-10), .int .i64 0]
  go_enter Tryz.func159, Tryz.ntmps159
  go_upto_region 1 with fail
  generalize w.alloc (.cells #[.int .i64 (-10), .int .i64 0] 48) = W at *
  obtain ⟨c1, f1, l1⟩ := k1.rules
  go_wp2_with (go_at_call 160; refine (cwithin_any _ _ _ _).mono ?_; rintro e w' ⟨rfl, rfl⟩)
  go_quiet (fail)
  go_wp2
  refine wp_loop_rounds 4 ?_
  rw [rounds_succ]
  go_wp2
  rw [rounds_succ]
  go_wp2
  rw [rounds_succ]
  go_wp2
  rw [rounds_succ]
  go_wp2
  go_ret
  exact ⟨rfl, below_drewN b _⟩
theorem turnedA_any (w : World) : Calls Tryz.prog 193 #[.int .i64 0, .int .i64 0] w fun e w' => e = .returned (.int .i64 0) ∧ w = w' := by
  go_enter Tryz.func193, Tryz.ntmps193
  go_wp2
  go_ret
  exact ⟨rfl, rfl⟩
theorem turnedB_any (w : World) : Calls Tryz.prog 193 #[.int .i64 0, .int .i64 3] w fun e w' => e = .returned (.int .i64 3) ∧ w = w' := by
  go_enter Tryz.func193, Tryz.ntmps193
  go_wp2
  go_ret
  exact ⟨rfl, rfl⟩
theorem windows_any (bB : Nat) (w : World) (k : Blk w bB 26 #[Value.int .i64 7, .int .i64 100]) : Calls Tryz.prog 188 #[.slice (some ⟨bB, 0, none⟩) 1 1] w fun e w' => e = .returned (.bool true) ∧ Below w.heap.size w w' := by
  have kl := k.lt
  have b := (Below.refl w.heap.size w).alloc (Nat.le_refl _) (.cells #[Value.int .i64 7, .int .i64 100] 26)
  have k1 := Blk.new w 26 #[Value.int .i64 7, .int .i64 100]
  obtain ⟨c1, f1, l1⟩ := k.rules
  go_enter Tryz.func188, Tryz.ntmps188
  go_wp2
  refine wp_loop_rounds 2 ?_
  rw [rounds_succ]
  go_upto_region 4 with fail
  generalize w.alloc (.cells #[Value.int .i64 7, .int .i64 100] 26) = W at *
  clear c1 f1 l1
  obtain ⟨c1, f1, l1⟩ := k1.rules
  go_quiet (with_reducible exact Calls.quiet_of_same (flip_w (cwithin_any _ _ _ _)))
  go_wp2
  rw [rounds_succ]
  go_wp2
  go_ret
  exact ⟨rfl, below_drewN b _⟩
theorem noneA_any (v : Value) (w : World) : Calls Tryz.prog 181 #[.slice none 0 0, v] w fun e w' => e = .returned (.bool false) ∧ w = w' := by
  have h : ∀ W, Calls Tryz.prog 196 #[.slice none 0 0, v] W fun e w' => e = .returned (.int .i64 (-1)) ∧ W = w' := by
    intro W
    go_enter Tryz.func196, Tryz.ntmps196
    go_wp2
    refine wp_loop_rounds 1 ?_
    rw [rounds_succ]
    go_wp2
    go_ret
    exact ⟨rfl, rfl⟩
  go_enter Tryz.func181, Tryz.ntmps181
  go_wp2_with fail
  refine (h _).mono ?_
  rintro e w' ⟨rfl, rfl⟩
  go_wp2
  go_ret
  exact ⟨rfl, rfl⟩
theorem noneB_any (v : Value) (w : World) : Calls Tryz.prog 191 #[.slice none 0 0, v] w fun e w' => e = .returned (.bool false) ∧ w = w' := by
  have h : ∀ W, Calls Tryz.prog 206 #[.slice none 0 0, v] W fun e w' => e = .returned (.int .i64 (-1)) ∧ W = w' := by
    intro W
    go_enter Tryz.func206, Tryz.ntmps206
    go_wp2
    refine wp_loop_rounds 1 ?_
    rw [rounds_succ]
    go_wp2
    go_ret
    exact ⟨rfl, rfl⟩
  go_enter Tryz.func191, Tryz.ntmps191
  go_wp2_with fail
  refine (h _).mono ?_
  rintro e w' ⟨rfl, rfl⟩
  go_wp2
  go_ret
  exact ⟨rfl, rfl⟩
end Go.Proofs.YtcmbmmpihiekhaaGreat
namespace Go.Proofs.YtcmbmmpihiekhaaGreat
open Go.RowKit

abbrev Dm := DataW Unit
theorem own_sizeC {w : World} {b n : Nat} {k : TypeId} {R : Value → Option (Dm × List MemPlace)} {D : Dm} (h : w.ownsMap Tryz.prog k R b n D) : w.ownsMap Tryz.prog k R b (Maps.size D) D := by
  obtain ⟨es, clock, hb, F, _, rfl⟩ := h
  exact ⟨es, clock, hb, F, by simp [Maps.size, length_sorted], rfl⟩
theorem underBo : Tryz.prog.underlying 4 = some .bool := by kernel_rfl
theorem underIn : Tryz.prog.underlying 3 = some (.int .i64) := by kernel_rfl
def cnt2 (f : Bool → Bool) : Nat := (if f false = true then 1 else 0) + (if f true = true then 1 else 0)
theorem cnt2_le (f : Bool → Bool) : cnt2 f ≤ 2 := by unfold cnt2; split <;> split <;> omega
def set2 (f : Bool → Bool) (d : Bool) : Bool → Bool := fun e => if e = d then true else f e
theorem cnt2_set (f : Bool → Bool) (d : Bool) : cnt2 (set2 f d) = if f d = true then cnt2 f else cnt2 f + 1 := by
  unfold cnt2 set2
  cases d <;> cases h1 : f false <;> cases h2 : f true <;> simp
def cst : Bool → Int
  | false => 0
  | true => 14
theorem plKn (d : Bool) : plainElem (H := Unit) Tryz.prog 4 (.bool true) = some (.lit (.bool true), []) := plainElem_bool underBo true
theorem plCo (d : Bool) : plainElem (H := Unit) Tryz.prog 3 (.int .i64 (cst d)) = some (.lit (.int .i64 (cst d)), []) := plainElem_int underIn (by cases d <;> decide)
theorem lawKn : WideMaps.KeyLaw Tryz.prog 285 := deep_law (m := 4) (by omega) (by kernel_rfl) (by kernel_rfl) (by rw [Tryz.underlying285])
theorem keyedKn : Maps.Keyed Tryz.prog 285 := Maps.Keyed.of_law lawKn
def kvKn : Bool → Value
  | false => .agg #[.int .i64 0, .int .i64 0, .int .i64 10, .int .i64 0]
  | true => .agg #[.int .i64 10, .int .i64 0, .int .i64 0, .int .i64 0]
noncomputable def klKn (d : Bool) : Lit := (keyOf Tryz.prog 285 (kvKn d)).getD (.bool false)
theorem keyKn (d : Bool) : keyOf Tryz.prog 285 (kvKn d) = some (klKn d) := by
  have h : (keyOf Tryz.prog 285 (kvKn d)).isSome = true := by cases d <;> kernel_rfl
  unfold klKn
  cases hk : keyOf Tryz.prog 285 (kvKn d) with
  | none => rw [hk] at h; cases h
  | some l => rfl
theorem injKn {d e : Bool} (h : klKn d = klKn e) : d = e := by
  have := keyedKn.inj (keyKn d) (h ▸ keyKn e)
  revert this
  cases d <;> cases e <;> simp [kvKn]
theorem iskKn (d : Bool) : WideAt.IsKeyLit (klKn d) := by
  have h := keyKn d
  generalize klKn d = l at h
  unfold keyOf at h
  simp only [Tryz.underlying285] at h
  split at h
  · obtain ⟨ls, -, h2⟩ := Option.map_eq_some_iff.1 h
    subst h2
    trivial
  · cases h
structure OfKn (D : Dm) (f : Bool → Bool) : Prop where
  map : Maps.IsMap D
  at_ : ∀ d z, D.atKey (klKn d) z = if f d = true then .lit (.bool true) else z
  size : Maps.size D = cnt2 f
theorem hasKn {D : Dm} {f : Bool → Bool} (h : OfKn D f) (d : Bool) : Maps.has D (klKn d) = f d := by
  have := h.at_ d
  cases hf : f d with
  | false => simp only [hf] at this; exact Maps.has_false_of_atKey (by simpa using this)
  | true => simp only [hf] at this; exact Maps.has_true_of_atKey (by simpa using this)
theorem madeKn : OfKn (.map [] : Dm) (fun _ => false) := ⟨⟨_, rfl⟩, fun _ _ => rfl, by simp [Maps.size, cnt2]⟩
theorem putKn {D : Dm} {f : Bool → Bool} (h : OfKn D f) (ht : Maps.Tidy D) (d : Bool) : OfKn (D.put (klKn d) (.lit (.bool true))) (set2 f d) where
  map := h.map.put _ _
  at_ e z := by
    unfold set2
    by_cases he : e = d
    · subst he
      rw [if_pos rfl, if_pos rfl]
      exact Maps.atKey_put_same h.map (iskKn _) _ _
    · rw [if_neg he, Maps.atKey_put_other (fun e2 => he (injKn e2))]
      exact h.at_ e z
  size := by
    rw [Maps.size_put ht, hasKn h, h.size, cnt2_set]
/-- The map at block b holds right answers. -/
def AtKn (w : World) (b : Nat) (f : Bool → Bool) : Prop := ∃ D : Dm, w.ownsMap Tryz.prog 285 (plainElem Tryz.prog 4) b (cnt2 f) D ∧ OfKn D f
theorem AtKn.made (w : World) : AtKn (w.alloc (.map #[] 0)) w.heap.size (fun _ => false) :=
  ⟨.map [], (World.ownsMap_made _ _ _ _).mono (Nat.zero_le _), madeKn⟩
theorem AtKn.lt {w : World} {b : Nat} {f : Bool → Bool} (h : AtKn w b f) : b < w.heap.size := let ⟨_, h, _⟩ := h; h.lt
theorem AtKn.block {w w' : World} {b : Nat} {f : Bool → Bool} (h : AtKn w b f) (e : w'.heap[b]? = w.heap[b]?) : AtKn w' b f := by
  obtain ⟨D, ⟨es, clock, hb, r⟩, h2⟩ := h
  exact ⟨D, ⟨es, clock, e.trans hb, r⟩, h2⟩
theorem zeroKn (w : World) : (zeroValue 4).run Tryz.prog w = .ok (.bool false) w := by kernel_rfl
theorem AtKn.store {w : World} {b : Nat} {f : Bool → Bool} (h : AtKn w b f) (d : Bool) :
    ∃ w', (Instr.mapUpdate 217 (.map (some b)) (kvKn d) (.bool true)).run Tryz.prog w = .ok () w' ∧ AtKn w' b (set2 f d) ∧ w.grownBy w' (some b) := by
  obtain ⟨D, ho, ht⟩ := h
  have htidy := ho.tidy keyedKn
  obtain ⟨w', h1, h2, h3⟩ := ho.update keyedKn Tryz.underlying217 (by have := cnt2_le f; unfold maxLen; omega) (keyKn d) (plKn d)
  have ht2 := putKn ht htidy d
  exact ⟨w', h1, ⟨_, ht2.size ▸ own_sizeC h2, ht2⟩, h3⟩
theorem lawCo : WideMaps.KeyLaw Tryz.prog 268 := deep_law (m := 4) (by omega) (by kernel_rfl) (by kernel_rfl) (by rw [Tryz.underlying268])
theorem keyedCo : Maps.Keyed Tryz.prog 268 := Maps.Keyed.of_law lawCo
def kvCo : Bool → Value
  | false => .agg #[.int .i64 0, .int .i64 0, .int .i64 0, .int .i64 0, .int .i64 0, .int .i64 0]
  | true => .agg #[.int .i64 0, .int .i64 0, .int .i64 0, .int .i64 10, .int .i64 0, .int .i64 3]
noncomputable def klCo (d : Bool) : Lit := (keyOf Tryz.prog 268 (kvCo d)).getD (.bool false)
theorem keyCo (d : Bool) : keyOf Tryz.prog 268 (kvCo d) = some (klCo d) := by
  have h : (keyOf Tryz.prog 268 (kvCo d)).isSome = true := by cases d <;> kernel_rfl
  unfold klCo
  cases hk : keyOf Tryz.prog 268 (kvCo d) with
  | none => rw [hk] at h; cases h
  | some l => rfl
theorem injCo {d e : Bool} (h : klCo d = klCo e) : d = e := by
  have := keyedCo.inj (keyCo d) (h ▸ keyCo e)
  revert this
  cases d <;> cases e <;> simp [kvCo]
theorem iskCo (d : Bool) : WideAt.IsKeyLit (klCo d) := by
  have h := keyCo d
  generalize klCo d = l at h
  unfold keyOf at h
  simp only [Tryz.underlying268] at h
  split at h
  · obtain ⟨ls, -, h2⟩ := Option.map_eq_some_iff.1 h
    subst h2
    trivial
  · cases h
structure OfCo (D : Dm) (f : Bool → Bool) : Prop where
  map : Maps.IsMap D
  at_ : ∀ d z, D.atKey (klCo d) z = if f d = true then .lit (.int .i64 (cst d)) else z
  size : Maps.size D = cnt2 f
theorem hasCo {D : Dm} {f : Bool → Bool} (h : OfCo D f) (d : Bool) : Maps.has D (klCo d) = f d := by
  have := h.at_ d
  cases hf : f d with
  | false => simp only [hf] at this; exact Maps.has_false_of_atKey (by simpa using this)
  | true => simp only [hf] at this; exact Maps.has_true_of_atKey (by simpa using this)
theorem madeCo : OfCo (.map [] : Dm) (fun _ => false) := ⟨⟨_, rfl⟩, fun _ _ => rfl, by simp [Maps.size, cnt2]⟩
theorem putCo {D : Dm} {f : Bool → Bool} (h : OfCo D f) (ht : Maps.Tidy D) (d : Bool) : OfCo (D.put (klCo d) (.lit (.int .i64 (cst d)))) (set2 f d) where
  map := h.map.put _ _
  at_ e z := by
    unfold set2
    by_cases he : e = d
    · subst he
      rw [if_pos rfl, if_pos rfl]
      exact Maps.atKey_put_same h.map (iskCo _) _ _
    · rw [if_neg he, Maps.atKey_put_other (fun e2 => he (injCo e2))]
      exact h.at_ e z
  size := by
    rw [Maps.size_put ht, hasCo h, h.size, cnt2_set]
/-- The map at block b holds right answers. -/
def AtCo (w : World) (b : Nat) (f : Bool → Bool) : Prop := ∃ D : Dm, w.ownsMap Tryz.prog 268 (plainElem Tryz.prog 3) b (cnt2 f) D ∧ OfCo D f
theorem AtCo.made (w : World) : AtCo (w.alloc (.map #[] 0)) w.heap.size (fun _ => false) :=
  ⟨.map [], (World.ownsMap_made _ _ _ _).mono (Nat.zero_le _), madeCo⟩
theorem AtCo.lt {w : World} {b : Nat} {f : Bool → Bool} (h : AtCo w b f) : b < w.heap.size := let ⟨_, h, _⟩ := h; h.lt
theorem AtCo.block {w w' : World} {b : Nat} {f : Bool → Bool} (h : AtCo w b f) (e : w'.heap[b]? = w.heap[b]?) : AtCo w' b f := by
  obtain ⟨D, ⟨es, clock, hb, r⟩, h2⟩ := h
  exact ⟨D, ⟨es, clock, e.trans hb, r⟩, h2⟩
theorem zeroCo (w : World) : (zeroValue 3).run Tryz.prog w = .ok (.int .i64 0) w := by kernel_rfl
theorem AtCo.store {w : World} {b : Nat} {f : Bool → Bool} (h : AtCo w b f) (d : Bool) :
    ∃ w', (Instr.mapUpdate 212 (.map (some b)) (kvCo d) (.int .i64 (cst d))).run Tryz.prog w = .ok () w' ∧ AtCo w' b (set2 f d) ∧ w.grownBy w' (some b) := by
  obtain ⟨D, ho, ht⟩ := h
  have htidy := ho.tidy keyedCo
  obtain ⟨w', h1, h2, h3⟩ := ho.update keyedCo Tryz.underlying212 (by have := cnt2_le f; unfold maxLen; omega) (keyCo d) (plCo d)
  have ht2 := putCo ht htidy d
  exact ⟨w', h1, ⟨_, ht2.size ▸ own_sizeC h2, ht2⟩, h3⟩
theorem AtKn.look {w : World} {b : Nat} {f : Bool → Bool} (h : AtKn w b f) (d : Bool) :
    (Instr.lookup 217 (.map (some b)) (kvKn d) true).run Tryz.prog w = .ok (.tuple #[.bool (f d), .bool (f d)]) w := by
  obtain ⟨D, ho, ht⟩ := h
  obtain ⟨v, ps, hrun, hR⟩ := ho.look_ok keyedKn Tryz.underlying217 (z := .bool false) (zeroKn _) (plainElem_bool underBo false) (keyKn d)
  rw [ht.at_ d] at hR
  rw [hasKn ht d] at hrun
  refine hrun.trans ?_
  unfold plainElem at hR
  rw [underBo] at hR
  cases v <;> simp at hR
  rename_i x
  obtain ⟨h1, -⟩ := hR
  cases hf : f d <;> rw [hf] at h1 <;> simp at h1 <;> rw [h1]
theorem AtCo.look {w : World} {b : Nat} {f : Bool → Bool} (h : AtCo w b f) (d : Bool) :
    (Instr.lookup 212 (.map (some b)) (kvCo d) true).run Tryz.prog w = .ok (.tuple #[.int .i64 (if f d = true then cst d else 0), .bool (f d)]) w := by
  obtain ⟨D, ho, ht⟩ := h
  obtain ⟨v, ps, hrun, hR⟩ := ho.look_ok keyedCo Tryz.underlying212 (z := .int .i64 0) (zeroCo _) (plainElem_int underIn (by decide)) (keyCo d)
  rw [ht.at_ d] at hR
  rw [hasCo ht d] at hrun
  refine hrun.trans ?_
  obtain ⟨c, rfl, e, -⟩ := plainElem_int_inv underIn hR
  simp only [Prod.mk.injEq] at e
  have e1 := e.1
  cases hf : f d <;> rw [hf] at e1 <;> simp at e1 <;> rw [← e1] <;> rfl
end Go.Proofs.YtcmbmmpihiekhaaGreat
namespace Go.Proofs.YtcmbmmpihiekhaaGreat
open Go.RowKit Go.Shelf

/-- Below B nothing has turned but the blocks of H. -/
structure BelowH (H : Nat → Prop) (B : Nat) (w w' : World) : Prop where
  os : w'.os = w.os
  tape : w'.tape = w.tape
  output : w'.output = w.output
  size : w.heap.size ≤ w'.heap.size
  block : ∀ k, k < B → ¬ H k → w'.heap[k]? = w.heap[k]?
variable {H : Nat → Prop}
theorem belowH_of {B : Nat} {w w' : World} (h : Below B w w') : BelowH H B w w' := ⟨h.os, h.tape, h.output, h.size, fun k hk _ => h.block k hk⟩
theorem BelowH.trans {B : Nat} {a b c : World} (h : BelowH H B a b) (k : BelowH H B b c) : BelowH H B a c :=
  ⟨k.os.trans h.os, k.tape.trans h.tape, k.output.trans h.output, Nat.le_trans h.size k.size, fun i hi hh => (k.block i hi hh).trans (h.block i hi hh)⟩
theorem BelowH.mono {B B' : Nat} {a b : World} (h : BelowH H B a b) (hB : B' ≤ B) : BelowH H B' a b := ⟨h.os, h.tape, h.output, h.size, fun i hi => h.block i (by omega)⟩
theorem BelowH.off {B : Nat} {a b : World} (h : BelowH H B a b) (hH : ∀ k, H k → B ≤ k) : Below B a b := ⟨h.os, h.tape, h.output, h.size, fun i hi => h.block i hi (fun hh => by have := hH i hh; omega)⟩
theorem BelowH.blk {B : Nat} {w w' : World} (h : BelowH H B w w') {g : Nat} {t : TypeId} {cs : Array Value} (k : Blk w g t cs) (hB : g < B) (hg : ¬ H g) : Blk w' g t cs := (h.block g hB hg).trans k
theorem BelowH.grown {B x : Nat} {a b : World} (h : a.grownBy b (some x)) (hx : H x) (hB : B ≤ a.heap.size) : BelowH H B a b :=
  ⟨h.os, h.tape, h.output, h.size, fun k hk hh => h.block k (by omega) (fun e => hh (by rw [Option.some.inj e]; exact hx))⟩
/-- .. and rows of cells lie as they lay. -/
def CalmH (H : Nat → Prop) (B : Nat) (W W' : World) : Prop := BelowH H B W W' ∧ ∀ (k : Nat) (o : Obj), ¬ H k → W.heap[k]? = some o → o.isCells = true → W'.heap[k]? = some o
theorem Calm.h {B : Nat} {W W' : World} (h : Calm B W W') : CalmH H B W W' := ⟨belowH_of h.1, fun k o _ hk ho => h.2 k o hk ho⟩
theorem CalmH.mono {B B' : Nat} {A C : World} (h : CalmH H B A C) (hB : B' ≤ B) : CalmH H B' A C := ⟨h.1.mono hB, h.2⟩
theorem calmH_blk {B : Nat} {W W' : World} (h : CalmH H B W W') {g : Nat} {t : TypeId} {cs : Array Value} (k : Blk W g t cs) (hg : ¬ H g) : Blk W' g t cs := h.2 g _ hg k rfl
theorem calmH_of {B : Nat} {W W' : World} (h : BelowH H W.heap.size W W') (hB : B ≤ W.heap.size) : CalmH H B W W' :=
  ⟨h.mono hB, fun k o hk ho _ => (h.block k (Array.getElem?_eq_some_iff.1 ho).1 hk).trans ho⟩
theorem ncH_of {B : Nat} {W W' : World} (h : BelowH H W.heap.size W W') (hH : ∀ k, H k → k < B) : NC B W W' :=
  ⟨h.size, fun k o hB hk => (h.block k (Array.getElem?_eq_some_iff.1 hk).1 (fun hh => by have := hH k hh; omega)).trans hk⟩
/-- An iterator that may write the blocks of H between the rounds, keeping L. -/
def IterH (F : Fence) (n : Nat) (P : Program) (H : Nat → Prop) (g : Nat) (lb : Array Value) (N : Nat) (G : Nat → Array Value → World → Prop) (L : World → Prop) : Prop :=
  ∀ (l : Nat) (J : Nat → World → Prop) (Jx : World → Prop) (W : World),
    (∀ k A B, J k A → CalmH H W.heap.size A B → J k B) → (∀ A B, Jx A → CalmH H W.heap.size A B → Jx B) →
    (∀ k vs W1, k < N → J k W1 → L W1 → G k vs W1 → YieldAt F (n - 1) P l vs W1 fun e W' => (e = .returned (.bool true) ∧ J (k + 1) W' ∧ L W' ∧ NC W.heap.size W1 W') ∨ (e = .returned (.bool false) ∧ Jx W' ∧ L W' ∧ NC W.heap.size W1 W')) →
    L W → J 0 W →
    CallsIn F n P g (#[.func (.yield l) #[] #[]] ++ lb) W fun e W' => (∃ v, e = .returned v) ∧ ((J N W' ∧ L W') ∨ (Jx W' ∧ L W'))
/-- How the body of a round may be left. -/
def kPostH (B : Nat) (I : World → Prop) (L : World → Prop) (Ix : Code → World → Prop) (W : World) : Exit → Act → World → Prop
  | .normal, _, W' => NC B W W' ∧ I W' ∧ L W'
  | .ret, _, W' => NC B W W' ∧ Ix .ret W' ∧ L W'
  | .exit id, _, W' => NC B W W' ∧ Ix (.exit id) W' ∧ L W'
  | .goto t, _, W' => NC B W W' ∧ Ix (.goto t) W' ∧ L W'
  | .panic _, _, _ => False
  | .outgrown, _, _ => False
variable {F : Fence} {n : Nat} {P : Program}
theorem wp_rangeH {g : Operand} {ps : Array Tmp} {assign body : Code} {Q : Exit → Act → World → Prop} {a : Act} {w : World}
    (hro : F.round = none) (h1 : 1 ≤ n) {gf : Nat} {lb : Array Value} (hg : a.eval g = .func (.func gf) #[] lb) (hFg : F.fn gf) (eg : ∀ args w, (callFunc gf args).run P w = .ok (.enter gf args) w)
    {N : Nat} {G : Nat → Array Value → World → Prop} {L : World → Prop} (hseq : IterH F (n - 1) P H gf lb N G L)
    (hps : ∀ k vs W, G k vs W → vs.size = ps.size)
    (I : Nat → World → Prop) (Ix : Code → World → Prop)
    (hI : ∀ k A B, I k A → CalmH H w.heap.size A B → I k B) (hIx : ∀ c A B, Ix c A → CalmH H w.heap.size A B → Ix c B) (hL : ∀ A B, L A → Calm w.heap.size A B → L B) (hH : ∀ k, H k → k < w.heap.size)
    (h0 : I 0 w) (hL0 : L w)
    (hround : ∀ (l k : Nat) (vs : Array Value) (W : World), w.heap.size ≤ W.heap.size → k < N → I k W → L W → G k vs W →
      assign.wpIn (F.inRound l) (n - 1 - 1) P (Exit.then (fun a₁ W1 => Below W.heap.size W W1 ∧ ∀ W2, Calm w.heap.size W1 W2 → body.wpIn (F.inRound l) (n - 1 - 1) P (kPostH w.heap.size (I (k + 1)) L Ix W2) a₁ W2) (fun _ _ _ => False))
        { tmps := (ps.zip vs).foldl (fun t (p, v) => t.setIfInBounds p v) a.tmps, defers := [] } W)
    (hdone : ∀ (D : Nat) (W : World), w.heap.size ≤ D → I N W → L W → W.heap[D]? = some (.deferred (some [])) → Q .normal { a with defers := { target := .collected D, args := #[] } :: a.defers } W)
    (hstop : ∀ (D : Nat) (c : Code) (W : World), w.heap.size ≤ D → Ix c W → L W → W.heap[D]? = some (.deferred (some [])) → c.wpIn F n P Q { a with defers := { target := .collected D, args := #[] } :: a.defers } W) :
    (Code.rangeFunc g ps assign body).wpIn F n P Q a w := by
  refine wpIn_rangeFunc ?_
  intro fn hfn
  rw [hro]
  obtain ⟨rec, hrec⟩ : ∃ rec : LoopState → Option Code → Loop, rec = fun st pe => { state := st, pending := pe, fn, tmps := a.tmps, params := ps, assign, body, defers := w.heap.size } := ⟨_, rfl⟩
  obtain ⟨W1, hW1⟩ : ∃ W1, (w.alloc (.deferred (some []))).alloc (.loop (rec .ready none)) = W1 := ⟨_, rfl⟩
  have hL1 : W1.heap[w.heap.size + 1]? = some (.loop (rec .ready none)) := by
    rw [← hW1]; have := World.alloc_heap_new (w.alloc (.deferred (some []))) (.loop (rec .ready none)); rwa [World.size_alloc] at this
  have hK1 : W1.heap[w.heap.size]? = some (.deferred (some [])) := by
    rw [← hW1]; exact (Below.heap_alloc _ _ _ (by simp)).trans (World.alloc_heap_new w _)
  have hb1 : Below w.heap.size w W1 := by
    rw [← hW1]; exact ((Below.refl _ w).alloc (Nat.le_refl _) _).alloc (by simp) _
  have hs1 : W1.heap.size = w.heap.size + 2 := by rw [← hW1]; simp
  have hc1 : Calm w.heap.size w W1 := calm_of_below hb1 (Nat.le_refl _)
  refine ⟨w.heap.size + 1, [{ target := .collected w.heap.size, args := #[] }], W1, { target := .fn (.func gf) lb, args := #[.func (.yield (w.heap.size + 1)) #[] #[]] }, W1, gf,
    #[.func (.yield (w.heap.size + 1)) #[] #[]] ++ lb, W1, ?_, ?_, ?_, ?_, fun _ => h1, ?_⟩
  · rw [← hW1, hrec]; exact run_enterLoop_outer _ _ _ _ _
  · simp only [resolve, hg]
    simp [go_sem]
  · intro f' hf'; simp [Target.leads] at hf'; subst hf'; exact hFg
  · simp [invoke, go_sem, eg]
  · refine (hseq (w.heap.size + 1)
      (fun k W => I k W ∧ W.heap[w.heap.size + 1]? = some (.loop (rec .ready none)) ∧ W.heap[w.heap.size]? = some (.deferred (some [])))
      (fun W => ∃ c, Ix c W ∧ W.heap[w.heap.size + 1]? = some (.loop (rec .done (some c))) ∧ W.heap[w.heap.size]? = some (.deferred (some [])))
      W1 ?_ ?_ ?_ (hL _ _ hL0 hc1) ⟨hI _ _ _ h0 hc1.h, hL1, hK1⟩).mono ?_
    · rintro k A B ⟨hi, hl, hk⟩ hb
      rw [hs1] at hb
      exact ⟨hI _ _ _ hi (hb.mono (by omega)), (hb.1.block _ (by omega) (fun hh => by have := hH _ hh; omega)).trans hl, (hb.1.block _ (by omega) (fun hh => by have := hH _ hh; omega)).trans hk⟩
    · rintro A B ⟨c, hi, hl, hk⟩ hb
      rw [hs1] at hb
      exact ⟨c, hIx _ _ _ hi (hb.mono (by omega)), (hb.1.block _ (by omega) (fun hh => by have := hH _ hh; omega)).trans hl, (hb.1.block _ (by omega) (fun hh => by have := hH _ hh; omega)).trans hk⟩
    · -- one round
      rintro k vs W hkN ⟨hi, hl, hk⟩ hlw hgw
      have hlt : w.heap.size + 1 < W.heap.size := (Array.getElem?_eq_some_iff.1 hl).1
      have hy := run_yield (P := P) (args := vs) hl (by rw [hrec]; exact hps k vs W hgw)
      rw [hrec] at hy
      refine ⟨fn, _, assign, body, hy, roundIn_of_wpIn hfn (wpIn_mono (hround _ k vs W (by omega) hkN hi hlw hgw) ?_)⟩
      rintro e a₁ W2 hp
      cases e with
      | normal =>
        obtain ⟨hb2, hbody⟩ := hp
        have hl2 : W2.heap[w.heap.size + 1]? = some (.loop (rec .ready none)) := (hb2.block _ hlt).trans hl
        have hk2 : W2.heap[w.heap.size]? = some (.deferred (some [])) := (hb2.block _ (by omega)).trans hk
        refine ⟨_, run_beginRound hl2 (by rw [hrec]), ?_⟩
        have hl3 : (W2.putObj (w.heap.size + 1) (.loop { rec .ready none with state := .busy })).heap[w.heap.size + 1]? = some (.loop { rec .ready none with state := .busy }) := World.putObj_heap_same (Array.getElem?_eq_some_iff.1 hl2).1
        have hk3 : (W2.putObj (w.heap.size + 1) (.loop { rec .ready none with state := .busy })).heap[w.heap.size]? = some (.deferred (some [])) := (World.putObj_heap_other (by omega)).trans hk2
        refine wpIn_mono (hbody _ (calm_put _ hl2 rfl (by omega))) ?_
        have fin : ∀ (jump : Option Code) (W3 : World), NC w.heap.size (W2.putObj (w.heap.size + 1) (.loop { rec .ready none with state := .busy })) W3 →
            (Instr.endRound (w.heap.size + 1) jump).run P W3 = .ok (.bool jump.isNone) (W3.putObj (w.heap.size + 1) (.loop (rec (if jump.isNone then .ready else .done) jump))) ∧
            Calm w.heap.size W3 (W3.putObj (w.heap.size + 1) (.loop (rec (if jump.isNone then .ready else .done) jump))) ∧
            (W3.putObj (w.heap.size + 1) (.loop (rec (if jump.isNone then .ready else .done) jump))).heap[w.heap.size + 1]? = some (.loop (rec (if jump.isNone then .ready else .done) jump)) ∧
            (W3.putObj (w.heap.size + 1) (.loop (rec (if jump.isNone then .ready else .done) jump))).heap[w.heap.size]? = some (.deferred (some [])) := fun jump W3 hnc => by
          have hl4 := hnc.2 _ _ (by omega) hl3
          have := run_endRound (P := P) jump hl4
          rw [hrec] at this ⊢
          exact ⟨this, calm_put _ hl4 rfl (by omega), World.putObj_heap_same (Array.getElem?_eq_some_iff.1 hl4).1, (World.putObj_heap_other (by omega)).trans (hnc.2 _ _ (Nat.le_refl _) hk3)⟩
        rintro e a3 W3 hp
        cases e with
        | normal =>
          obtain ⟨hnc, hi3, hl3'⟩ := hp
          obtain ⟨hr, hc4, hl4, hk4⟩ := fin none W3 hnc
          refine ⟨_, _, hr, .inl ⟨rfl, ⟨hI _ _ _ hi3 hc4.h, hl4, hk4⟩, hL _ _ hl3' hc4, ?_⟩⟩
          exact (((nc_of_below hb2).trans (nc_put _ _ (by rw [hs1]; omega))).trans (hnc.mono (by rw [hs1]; omega))).trans (nc_put _ _ (by rw [hs1]; omega))
        | ret =>
          obtain ⟨hnc, hi3, hl3'⟩ := hp
          obtain ⟨hr, hc4, hl4, hk4⟩ := fin (some .ret) W3 hnc
          exact ⟨_, _, hr, .inr ⟨rfl, ⟨.ret, hIx _ _ _ hi3 hc4.h, hl4, hk4⟩, hL _ _ hl3' hc4, (((nc_of_below hb2).trans (nc_put _ _ (by rw [hs1]; omega))).trans (hnc.mono (by rw [hs1]; omega))).trans (nc_put _ _ (by rw [hs1]; omega))⟩⟩
        | exit id =>
          obtain ⟨hnc, hi3, hl3'⟩ := hp
          obtain ⟨hr, hc4, hl4, hk4⟩ := fin (some (.exit id)) W3 hnc
          exact ⟨_, _, hr, .inr ⟨rfl, ⟨.exit id, hIx _ _ _ hi3 hc4.h, hl4, hk4⟩, hL _ _ hl3' hc4, (((nc_of_below hb2).trans (nc_put _ _ (by rw [hs1]; omega))).trans (hnc.mono (by rw [hs1]; omega))).trans (nc_put _ _ (by rw [hs1]; omega))⟩⟩
        | goto t =>
          obtain ⟨hnc, hi3, hl3'⟩ := hp
          obtain ⟨hr, hc4, hl4, hk4⟩ := fin (some (.goto t)) W3 hnc
          exact ⟨_, _, hr, .inr ⟨rfl, ⟨.goto t, hIx _ _ _ hi3 hc4.h, hl4, hk4⟩, hL _ _ hl3' hc4, (((nc_of_below hb2).trans (nc_put _ _ (by rw [hs1]; omega))).trans (hnc.mono (by rw [hs1]; omega))).trans (nc_put _ _ (by rw [hs1]; omega))⟩⟩
        | panic ch => exact hp.elim
        | outgrown => exact hp.elim
      | ret => exact hp.elim
      | exit id => exact hp.elim
      | goto t => exact hp.elim
      | panic ch => exact hp.elim
      | outgrown => exact hp.elim
    · -- behind the iterator
      rintro e W2 ⟨⟨v, rfl⟩, (⟨⟨hi, hl, hk⟩, hlw⟩ | ⟨⟨c, hi, hl, hk⟩, hlw⟩)⟩
      · exact ⟨none, _, by have := run_endLoop (P := P) hl (by rw [hrec]; simp); rw [hrec] at this; exact this, hdone _ _ (Nat.le_refl _) (hI _ _ _ hi (calm_put _ hl rfl (by omega)).h) (hL _ _ hlw (calm_put _ hl rfl (by omega))) ((World.putObj_heap_other (by omega)).trans hk)⟩
      · exact ⟨some c, _, by have := run_endLoop (P := P) hl (by rw [hrec]; simp); rw [hrec] at this; exact this, hstop _ c _ (Nat.le_refl _) (hIx _ _ _ hi (calm_put _ hl rfl (by omega)).h) (hL _ _ hlw (calm_put _ hl rfl (by omega))) ((World.putObj_heap_other (by omega)).trans hk)⟩
end Go.Proofs.YtcmbmmpihiekhaaGreat
namespace Go.Proofs.YtcmbmmpihiekhaaGreat
open Go.RowKit Go.Shelf

/-- Where the example's plan lies. -/
structure Pl where
  bL : Nat
  bO : Nat
  bB : Nat
  c : Nat
  m1 : Nat
  m2 : Nat
def HM (p : Pl) (k : Nat) : Prop := k = p.m1 ∨ k = p.m2
/-- What holds of it at all times. -/
structure InvC (p : Pl) (w : World) : Prop where
  kc : Blk w p.c 219 #[.slice (some ⟨p.bL, 0, none⟩) 1 1, .slice none 0 0, .slice none 0 0, .int .i64 0, .int .i64 0, .int .i64 0, .int .i64 0, .int .i64 0, .int .i64 0, .int .i64 0, .int .i64 0, .int .i64 0, .int .i64 0, .int .i64 0, .int .i64 2, .int .i64 3, .slice (some ⟨p.bO, 0, none⟩) 1 1, .map (some p.m1)]
  kL : Blk w p.bL 149 #[Value.int .i64 0, .int .i64 0, .int .i64 10, .int .i64 0]
  kO : Blk w p.bO 29 #[Value.slice (some ⟨p.bB, 0, none⟩) 1 1]
  kB : Blk w p.bB 26 #[Value.int .i64 7, .int .i64 100]
  kn : ∃ f, AtKn w p.m1 f
  co : ∃ f, AtCo w p.m2 f
  ne : p.m1 ≠ p.m2
theorem blk_map {w : World} {g m : Nat} {t : TypeId} {cs : Array Value} {es : Array MapEntry} {k : Nat} (h : Blk w g t cs) (hm : w.heap[m]? = some (.map es k)) : g ≠ m := fun e => by
  subst e; unfold Blk at h; rw [h] at hm; cases hm
theorem AtKn.map {w : World} {m : Nat} {f : Bool → Bool} (h : AtKn w m f) : ∃ es k, w.heap[m]? = some (.map es k) := by
  obtain ⟨D, ⟨es, k, hb, -⟩, -⟩ := h; exact ⟨es, k, hb⟩
theorem AtCo.map {w : World} {m : Nat} {f : Bool → Bool} (h : AtCo w m f) : ∃ es k, w.heap[m]? = some (.map es k) := by
  obtain ⟨D, ⟨es, k, hb, -⟩, -⟩ := h; exact ⟨es, k, hb⟩
theorem InvC.off {p : Pl} {w : World} (h : InvC p w) {g : Nat} {t : TypeId} {cs : Array Value} (k : Blk w g t cs) : ¬ HM p g := by
  obtain ⟨f1, h1⟩ := h.kn
  obtain ⟨f2, h2⟩ := h.co
  obtain ⟨e1, n1, q1⟩ := h1.map
  obtain ⟨e2, n2, q2⟩ := h2.map
  rintro (e | e)
  · exact blk_map k q1 e
  · exact blk_map k q2 e
theorem InvC.lt {p : Pl} {w : World} (h : InvC p w) : ∀ k, HM p k → k < w.heap.size := by
  obtain ⟨f1, h1⟩ := h.kn
  obtain ⟨f2, h2⟩ := h.co
  rintro k (rfl | rfl)
  · exact h1.lt
  · exact h2.lt
theorem InvC.below {p : Pl} {w w' : World} (h : InvC p w) (hb : Below w.heap.size w w') : InvC p w' := by
  obtain ⟨f1, h1⟩ := h.kn
  obtain ⟨f2, h2⟩ := h.co
  exact ⟨h.kc.below hb, h.kL.below hb, h.kO.below hb, h.kB.below hb, ⟨f1, h1.block (hb.block _ h1.lt)⟩, ⟨f2, h2.block (hb.block _ h2.lt)⟩, h.ne⟩
theorem InvC.calm {p : Pl} {w0 w w' : World} (h : InvC p w) (h0 : InvC p w0) (hb : Calm w0.heap.size w w') : InvC p w' := by
  obtain ⟨f1, h1⟩ := h.kn
  obtain ⟨f2, h2⟩ := h.co
  exact ⟨calm_blk hb h.kc, calm_blk hb h.kL, calm_blk hb h.kO, calm_blk hb h.kB, ⟨f1, h1.block (hb.1.block _ (h0.lt _ (.inl rfl)))⟩, ⟨f2, h2.block (hb.1.block _ (h0.lt _ (.inr rfl)))⟩, h.ne⟩
theorem wayA_any (p : Pl) (w : World) (hI : InvC p w) :
    Calls Tryz.prog 158 #[.pointer (some ⟨p.c, 0, none⟩), .agg #[.int .i64 0, .int .i64 0]] w fun e w' => e = .returned (.agg #[.int .i64 0, .int .i64 0, .int .i64 10, .int .i64 0]) ∧ Below w.heap.size w w' := by
  have b := ((Below.refl w.heap.size w).alloc (Nat.le_refl _) (.cells #[.int .i64 0, .int .i64 0] 224)).alloc (by simp) (.cells #[.int .i64 0, .int .i64 0, .int .i64 0, .int .i64 0] 285)
  have kx := (Blk.new w 224 #[.int .i64 0, .int .i64 0]).alloc (.cells #[.int .i64 0, .int .i64 0, .int .i64 0, .int .i64 0] 285)
  have k4 : Blk ((w.alloc (.cells #[.int .i64 0, .int .i64 0] 224)).alloc (.cells #[.int .i64 0, .int .i64 0, .int .i64 0, .int .i64 0] 285)) (w.heap.size + 1) 285 #[.int .i64 0, .int .i64 0, .int .i64 0, .int .i64 0] := Blk.newAt (by simp)
  have hsz : ((w.alloc (.cells #[.int .i64 0, .int .i64 0] 224)).alloc (.cells #[.int .i64 0, .int .i64 0, .int .i64 0, .int .i64 0] 285)).heap.size = w.heap.size + 2 := by simp
  have hJ := hI.below b
  go_enter Tryz.func158, Tryz.ntmps158
  go_upto_region 1 with fail
  generalize (w.alloc (.cells #[.int .i64 0, .int .i64 0] 224)).alloc (.cells #[.int .i64 0, .int .i64 0, .int .i64 0, .int .i64 0] 285) = W at *
  have hszl := Nat.le_of_eq hsz
  have hszg := Nat.le_of_eq hsz.symm
  clear hsz
  refine hOpn (fun w' : World => (∀ j, w'.cell? ⟨p.c, j, none⟩ = #[.slice (some ⟨p.bL, 0, none⟩) 1 1, .slice none 0 0, .slice none 0 0, .int .i64 0, .int .i64 0, .int .i64 0, .int .i64 0, .int .i64 0, .int .i64 0, .int .i64 0, .int .i64 0, .int .i64 0, .int .i64 0, .int .i64 0, .int .i64 2, .int .i64 3, .slice (some ⟨p.bO, 0, none⟩) 1 1, .map (some p.m1)][j]?) ∧ (∀ j, w'.cell? ⟨p.bL, j, none⟩ = #[Value.int .i64 0, .int .i64 0, .int .i64 10, .int .i64 0][j]?) ∧ (∀ j, w'.cell? ⟨w.heap.size, j, none⟩ = #[Value.int .i64 0, .int .i64 0][j]?)) (fun W' hbb => ⟨(hJ.kc.below hbb).cell, (hJ.kL.below hbb).cell, (kx.below hbb).cell⟩) fun hSb hb9 hS hg9 => ?_
  generalize W.drew = wd at *
  refine hTk 0 6 ?_
  refine hTk 1 7 ?_
  refine hTk 2 8 ?_
  refine hTk 3 9 ?_
  refine hTk 4 10 ?_
  refine hTk 5 11 ?_
  refine hTk 6 12 ?_
  refine hTk 7 13 ?_
  refine hTk 8 14 ?_
  refine hOne 9 fun K hK => ?_
  go_simp
  have k5 := Blk.new wd 149 #[.int .i64 0, .int .i64 0, .int .i64 0, .int .i64 0]
  have hg_g5 := hb9.size
  replace hb9 := hb9.alloc hb9.size (.cells #[.int .i64 0, .int .i64 0, .int .i64 0, .int .i64 0] 149)
  refine hK _ _ (hSb.out _ hb9) ?_
  clear hK K
  try simp only [Act.put, sA, sZ, sS]
  clear hS
  have hS := hSb.out _ hb9
  generalize wd.heap.size = g5 at *
  generalize wd.alloc (.cells #[.int .i64 0, .int .i64 0, .int .i64 0, .int .i64 0] 149) = w5 at *
  have kz := ((((k5.set_ 0 (.int .i64 0)).set_ 1 (.int .i64 0)).set_ 2 (.int .i64 10)).set_ 3 (.int .i64 0))
  simp only [sA, sZ, sS] at kz
  have bz := ((((hb9.setCell (p := ⟨g5, 0, none⟩) (by dsimp only; omega) (.int .i64 0)).setCell (p := ⟨g5, 1, none⟩) (by dsimp only; omega) (.int .i64 0)).setCell (p := ⟨g5, 2, none⟩) (by dsimp only; omega) (.int .i64 10)).setCell (p := ⟨g5, 3, none⟩) (by dsimp only; omega) (.int .i64 0))
  obtain ⟨w6, hwz⟩ : ∃ x, x = ((((w5.setCell ⟨g5, 0, none⟩ (.int .i64 0)).setCell ⟨g5, 1, none⟩ (.int .i64 0)).setCell ⟨g5, 2, none⟩ (.int .i64 10)).setCell ⟨g5, 3, none⟩ (.int .i64 0)) := ⟨_, rfl⟩
  rw [← hwz] at kz bz
  obtain ⟨c9, f9, l9⟩ := k5.rules
  refine hOne 10 fun K hK => ?_
  go_simp
  rw [← hwz]
  clear hwz c9 f9 l9 hb9 k5
  have hb9 := bz
  have k5 := kz
  clear bz kz
  refine hK _ _ (hSb.out _ hb9) ?_
  clear hK K
  try simp only [Act.put, sA, sZ, sS]
  clear hS
  have hS := hSb.out _ hb9
  refine wpAnyH_done (by kernel_rfl) (noPanic_normal ?_) _
  clear hS
  replace k4 := k4.below hb9
  replace kx := kx.below hb9
  replace b := b.trans (hb9.mono b.size)
  obtain ⟨c4, f4, l4⟩ := k4.rules
  obtain ⟨c5, f5, l5⟩ := k5.rules
  obtain ⟨cx, fx, lx⟩ := kx.rules
  go_wp2
  have kz := ((((k4.set_ 0 (.int .i64 0)).set_ 1 (.int .i64 0)).set_ 2 (.int .i64 10)).set_ 3 (.int .i64 0))
  simp only [sA, sZ, sS] at kz
  have bz := ((((b.setCell (p := ⟨w.heap.size + 1, 0, none⟩) (by dsimp only; omega) (.int .i64 0)).setCell (p := ⟨w.heap.size + 1, 1, none⟩) (by dsimp only; omega) (.int .i64 0)).setCell (p := ⟨w.heap.size + 1, 2, none⟩) (by dsimp only; omega) (.int .i64 10)).setCell (p := ⟨w.heap.size + 1, 3, none⟩) (by dsimp only; omega) (.int .i64 0))
  clear c4 f4 l4 c5 f5 l5 cx fx lx
  obtain ⟨c4, f4, l4⟩ := kz.rules
  exact bodyPost_ret (v := .agg #[.int .i64 0, .int .i64 0, .int .i64 10, .int .i64 0]) (by simp [results, Tryz.results158, go_sem, c4]) rfl ⟨rfl, bz⟩
theorem wayB_any (p : Pl) (w : World) (hI : InvC p w) :
    Calls Tryz.prog 158 #[.pointer (some ⟨p.c, 0, none⟩), .agg #[.int .i64 0, .int .i64 1]] w fun e w' => e = .returned (.agg #[.int .i64 10, .int .i64 0, .int .i64 0, .int .i64 0]) ∧ Below w.heap.size w w' := by
  have b := ((Below.refl w.heap.size w).alloc (Nat.le_refl _) (.cells #[.int .i64 0, .int .i64 1] 224)).alloc (by simp) (.cells #[.int .i64 0, .int .i64 0, .int .i64 0, .int .i64 0] 285)
  have kx := (Blk.new w 224 #[.int .i64 0, .int .i64 1]).alloc (.cells #[.int .i64 0, .int .i64 0, .int .i64 0, .int .i64 0] 285)
  have k4 : Blk ((w.alloc (.cells #[.int .i64 0, .int .i64 1] 224)).alloc (.cells #[.int .i64 0, .int .i64 0, .int .i64 0, .int .i64 0] 285)) (w.heap.size + 1) 285 #[.int .i64 0, .int .i64 0, .int .i64 0, .int .i64 0] := Blk.newAt (by simp)
  have hsz : ((w.alloc (.cells #[.int .i64 0, .int .i64 1] 224)).alloc (.cells #[.int .i64 0, .int .i64 0, .int .i64 0, .int .i64 0] 285)).heap.size = w.heap.size + 2 := by simp
  have hJ := hI.below b
  go_enter Tryz.func158, Tryz.ntmps158
  go_upto_region 1 with fail
  generalize (w.alloc (.cells #[.int .i64 0, .int .i64 1] 224)).alloc (.cells #[.int .i64 0, .int .i64 0, .int .i64 0, .int .i64 0] 285) = W at *
  have hszl := Nat.le_of_eq hsz
  have hszg := Nat.le_of_eq hsz.symm
  clear hsz
  refine hOpn (fun w' : World => (∀ j, w'.cell? ⟨p.c, j, none⟩ = #[.slice (some ⟨p.bL, 0, none⟩) 1 1, .slice none 0 0, .slice none 0 0, .int .i64 0, .int .i64 0, .int .i64 0, .int .i64 0, .int .i64 0, .int .i64 0, .int .i64 0, .int .i64 0, .int .i64 0, .int .i64 0, .int .i64 0, .int .i64 2, .int .i64 3, .slice (some ⟨p.bO, 0, none⟩) 1 1, .map (some p.m1)][j]?) ∧ (∀ j, w'.cell? ⟨p.bL, j, none⟩ = #[Value.int .i64 0, .int .i64 0, .int .i64 10, .int .i64 0][j]?) ∧ (∀ j, w'.cell? ⟨w.heap.size, j, none⟩ = #[Value.int .i64 0, .int .i64 1][j]?)) (fun W' hbb => ⟨(hJ.kc.below hbb).cell, (hJ.kL.below hbb).cell, (kx.below hbb).cell⟩) fun hSb hb9 hS hg9 => ?_
  generalize W.drew = wd at *
  refine hTk 0 6 ?_
  refine hTk 1 7 ?_
  refine hTk 2 8 ?_
  refine hTk 3 9 ?_
  refine hTk 4 10 ?_
  refine hTk 5 11 ?_
  refine hTk 6 12 ?_
  refine hTk 7 13 ?_
  refine hTk 8 14 ?_
  refine hOne 9 fun K hK => ?_
  go_simp
  have k5 := Blk.new wd 149 #[.int .i64 0, .int .i64 0, .int .i64 0, .int .i64 0]
  have hg_g5 := hb9.size
  replace hb9 := hb9.alloc hb9.size (.cells #[.int .i64 0, .int .i64 0, .int .i64 0, .int .i64 0] 149)
  refine hK _ _ (hSb.out _ hb9) ?_
  clear hK K
  try simp only [Act.put, sA, sZ, sS]
  clear hS
  have hS := hSb.out _ hb9
  generalize wd.heap.size = g5 at *
  generalize wd.alloc (.cells #[.int .i64 0, .int .i64 0, .int .i64 0, .int .i64 0] 149) = w5 at *
  have kz := ((((k5.set_ 0 (.int .i64 0)).set_ 1 (.int .i64 0)).set_ 2 (.int .i64 10)).set_ 3 (.int .i64 0))
  simp only [sA, sZ, sS] at kz
  have bz := ((((hb9.setCell (p := ⟨g5, 0, none⟩) (by dsimp only; omega) (.int .i64 0)).setCell (p := ⟨g5, 1, none⟩) (by dsimp only; omega) (.int .i64 0)).setCell (p := ⟨g5, 2, none⟩) (by dsimp only; omega) (.int .i64 10)).setCell (p := ⟨g5, 3, none⟩) (by dsimp only; omega) (.int .i64 0))
  obtain ⟨w6, hwz⟩ : ∃ x, x = ((((w5.setCell ⟨g5, 0, none⟩ (.int .i64 0)).setCell ⟨g5, 1, none⟩ (.int .i64 0)).setCell ⟨g5, 2, none⟩ (.int .i64 10)).setCell ⟨g5, 3, none⟩ (.int .i64 0)) := ⟨_, rfl⟩
  rw [← hwz] at kz bz
  obtain ⟨c9, f9, l9⟩ := k5.rules
  refine hOne 10 fun K hK => ?_
  go_simp
  rw [← hwz]
  clear hwz c9 f9 l9 hb9 k5
  have hb9 := bz
  have k5 := kz
  clear bz kz
  refine hK _ _ (hSb.out _ hb9) ?_
  clear hK K
  try simp only [Act.put, sA, sZ, sS]
  clear hS
  have hS := hSb.out _ hb9
  refine wpAnyH_done (by kernel_rfl) (noPanic_normal ?_) _
  clear hS
  replace k4 := k4.below hb9
  replace kx := kx.below hb9
  replace b := b.trans (hb9.mono b.size)
  obtain ⟨c4, f4, l4⟩ := k4.rules
  obtain ⟨c5, f5, l5⟩ := k5.rules
  obtain ⟨cx, fx, lx⟩ := kx.rules
  go_wp2
  have kz := ((((k4.set_ 0 (.int .i64 10)).set_ 1 (.int .i64 0)).set_ 2 (.int .i64 0)).set_ 3 (.int .i64 0))
  simp only [sA, sZ, sS] at kz
  have bz := ((((b.setCell (p := ⟨w.heap.size + 1, 0, none⟩) (by dsimp only; omega) (.int .i64 10)).setCell (p := ⟨w.heap.size + 1, 1, none⟩) (by dsimp only; omega) (.int .i64 0)).setCell (p := ⟨w.heap.size + 1, 2, none⟩) (by dsimp only; omega) (.int .i64 0)).setCell (p := ⟨w.heap.size + 1, 3, none⟩) (by dsimp only; omega) (.int .i64 0))
  clear c4 f4 l4 c5 f5 l5 cx fx lx
  obtain ⟨c4, f4, l4⟩ := kz.rules
  exact bodyPost_ret (v := .agg #[.int .i64 10, .int .i64 0, .int .i64 0, .int .i64 0]) (by simp [results, Tryz.results158, go_sem, c4]) rfl ⟨rfl, bz⟩
theorem endsA_any (p : Pl) (w : World) (hI : InvC p w) :
    Calls Tryz.prog 143 #[.pointer (some ⟨p.c, 0, none⟩), .agg #[.int .i64 0, .int .i64 0]] w fun e w' => e = .returned (.tuple #[.agg #[.int .i64 0, .int .i64 0, .int .i64 0], .agg #[.int .i64 10, .int .i64 0, .int .i64 0]]) ∧ Below w.heap.size w w' := by
  have b := (((Below.refl w.heap.size w).alloc (Nat.le_refl _) (.cells #[.int .i64 0, .int .i64 0] 224)).alloc (by simp) (.cells #[.int .i64 0, .int .i64 0, .int .i64 0] 227)).alloc (by simp; omega) (.cells #[.int .i64 0, .int .i64 0, .int .i64 0] 227)
  have kx := ((Blk.new w 224 #[.int .i64 0, .int .i64 0]).alloc (.cells #[.int .i64 0, .int .i64 0, .int .i64 0] 227)).alloc (.cells #[.int .i64 0, .int .i64 0, .int .i64 0] 227)
  have k4 : Blk (((w.alloc (.cells #[.int .i64 0, .int .i64 0] 224)).alloc (.cells #[.int .i64 0, .int .i64 0, .int .i64 0] 227)).alloc (.cells #[.int .i64 0, .int .i64 0, .int .i64 0] 227)) (w.heap.size + 1) 227 #[.int .i64 0, .int .i64 0, .int .i64 0] := (Blk.newAt (by simp)).alloc _
  have k5 : Blk (((w.alloc (.cells #[.int .i64 0, .int .i64 0] 224)).alloc (.cells #[.int .i64 0, .int .i64 0, .int .i64 0] 227)).alloc (.cells #[.int .i64 0, .int .i64 0, .int .i64 0] 227)) (w.heap.size + 1 + 1) 227 #[.int .i64 0, .int .i64 0, .int .i64 0] := Blk.newAt (by simp)
  have hsz : w.heap.size + 3 ≤ (((w.alloc (.cells #[.int .i64 0, .int .i64 0] 224)).alloc (.cells #[.int .i64 0, .int .i64 0, .int .i64 0] 227)).alloc (.cells #[.int .i64 0, .int .i64 0, .int .i64 0] 227)).heap.size := by simp
  have hJ := hI.below b
  go_enter Tryz.func143, Tryz.ntmps143
  go_upto_region 1 with fail
  generalize ((w.alloc (.cells #[.int .i64 0, .int .i64 0] 224)).alloc (.cells #[.int .i64 0, .int .i64 0, .int .i64 0] 227)).alloc (.cells #[.int .i64 0, .int .i64 0, .int .i64 0] 227) = W at *
  obtain ⟨cx, fx, lx⟩ := kx.rules
  go_wp2_with fail
  refine (wayA_any p _ hJ).mono ?_
  rintro e W1 ⟨rfl, hb⟩
  clear cx fx lx kx
  replace k4 := k4.below hb
  replace k5 := k5.below hb
  replace hJ := hJ.below hb
  replace b := b.trans (hb.mono b.size)
  have hsz1 : w.heap.size + 3 ≤ W1.heap.size := Nat.le_trans hsz hb.size
  clear hb
  have b6 := (Below.refl W1.heap.size W1).alloc (Nat.le_refl _) (.cells #[.int .i64 0, .int .i64 0, .int .i64 10, .int .i64 0] 285)
  have k6 := Blk.new W1 285 #[.int .i64 0, .int .i64 0, .int .i64 10, .int .i64 0]
  go_upto_region 2 with fail
  replace k4 := k4.below b6
  replace k5 := k5.below b6
  replace b := b.trans (b6.mono b.size)
  clear b6
  generalize W1.alloc (.cells #[.int .i64 0, .int .i64 0, .int .i64 10, .int .i64 0] 285) = W2 at *
  generalize W1.heap.size = g6 at *
  obtain ⟨c6, f6, l6⟩ := k6.rules
  go_wp2_with fail
  refine (octA_any _).mono ?_
  rintro e W3 ⟨rfl, hb⟩
  clear c6 f6 l6
  replace k4 := k4.below hb
  replace k5 := k5.below hb
  replace k6 := k6.below hb
  replace b := b.trans (hb.mono b.size)
  clear hb
  go_upto_region 3 with fail
  have hg6 := k6.lt
  refine wp_held_np (fun w' : World => (∀ j, w'.cell? ⟨g6, j, none⟩ = #[Value.int .i64 0, .int .i64 0, .int .i64 10, .int .i64 0][j]?)) (by kernel_rfl) ?_
  have hS : (fun w' : World => (∀ j, w'.cell? ⟨g6, j, none⟩ = #[Value.int .i64 0, .int .i64 0, .int .i64 10, .int .i64 0][j]?)) W3.drew := k6.cell
  replace k4 := k4.drew
  replace k5 := k5.drew
  replace k6 := k6.drew
  replace b := b.drew
  generalize W3.drew = wd at *
  refine hTk 0 27 ?_
  refine hTk 1 28 ?_
  refine hTk 2 29 ?_
  refine hTk 3 30 ?_
  refine hTk 4 31 ?_
  refine hTk 5 32 ?_
  refine hTk 6 33 ?_
  refine hTk 7 34 ?_
  clear hS
  have kz := (((k4.set_ 0 (.int .i64 0)).set_ 1 (.int .i64 0)).set_ 2 (.int .i64 0))
  simp only [sA, sZ, sS] at kz
  have bz := (((b.setCell (p := ⟨w.heap.size + 1, 0, none⟩) (by dsimp only; omega) (.int .i64 0)).setCell (p := ⟨w.heap.size + 1, 1, none⟩) (by dsimp only; omega) (.int .i64 0)).setCell (p := ⟨w.heap.size + 1, 2, none⟩) (by dsimp only; omega) (.int .i64 0))
  have k5z := (((k5.far (p := ⟨w.heap.size + 1, 0, none⟩) (by dsimp only; omega) (.int .i64 0)).far (p := ⟨w.heap.size + 1, 1, none⟩) (by dsimp only; omega) (.int .i64 0)).far (p := ⟨w.heap.size + 1, 2, none⟩) (by dsimp only; omega) (.int .i64 0))
  have k6z := (((k6.far (p := ⟨w.heap.size + 1, 0, none⟩) (by dsimp only; omega) (.int .i64 0)).far (p := ⟨w.heap.size + 1, 1, none⟩) (by dsimp only; omega) (.int .i64 0)).far (p := ⟨w.heap.size + 1, 2, none⟩) (by dsimp only; omega) (.int .i64 0))
  obtain ⟨w7, hwz⟩ : ∃ x, x = (((wd.setCell ⟨w.heap.size + 1, 0, none⟩ (.int .i64 0)).setCell ⟨w.heap.size + 1, 1, none⟩ (.int .i64 0)).setCell ⟨w.heap.size + 1, 2, none⟩ (.int .i64 0)) := ⟨_, rfl⟩
  rw [← hwz] at kz bz k5z k6z
  obtain ⟨c9, f9, l9⟩ := k4.rules
  refine hOne 8 fun K hK => ?_
  go_simp
  rw [← hwz]
  clear hwz c9 f9 l9 b k4
  have b := bz
  have k4 := kz
  clear bz kz
  replace k5 := k5z
  clear k5z
  replace k6 := k6z
  clear k6z
  refine hK _ _ (k6.cell) ?_
  clear hK K
  try simp only [Act.put, sA, sZ, sS]
  have kz := (((k5.set_ 0 (.int .i64 10)).set_ 1 (.int .i64 0)).set_ 2 (.int .i64 0))
  simp only [sA, sZ, sS] at kz
  have bz := (((b.setCell (p := ⟨w.heap.size + 1 + 1, 0, none⟩) (by dsimp only; omega) (.int .i64 10)).setCell (p := ⟨w.heap.size + 1 + 1, 1, none⟩) (by dsimp only; omega) (.int .i64 0)).setCell (p := ⟨w.heap.size + 1 + 1, 2, none⟩) (by dsimp only; omega) (.int .i64 0))
  have k4z := (((k4.far (p := ⟨w.heap.size + 1 + 1, 0, none⟩) (by dsimp only; omega) (.int .i64 10)).far (p := ⟨w.heap.size + 1 + 1, 1, none⟩) (by dsimp only; omega) (.int .i64 0)).far (p := ⟨w.heap.size + 1 + 1, 2, none⟩) (by dsimp only; omega) (.int .i64 0))
  have k6z := (((k6.far (p := ⟨w.heap.size + 1 + 1, 0, none⟩) (by dsimp only; omega) (.int .i64 10)).far (p := ⟨w.heap.size + 1 + 1, 1, none⟩) (by dsimp only; omega) (.int .i64 0)).far (p := ⟨w.heap.size + 1 + 1, 2, none⟩) (by dsimp only; omega) (.int .i64 0))
  obtain ⟨w8, hwz⟩ : ∃ x, x = (((w7.setCell ⟨w.heap.size + 1 + 1, 0, none⟩ (.int .i64 10)).setCell ⟨w.heap.size + 1 + 1, 1, none⟩ (.int .i64 0)).setCell ⟨w.heap.size + 1 + 1, 2, none⟩ (.int .i64 0)) := ⟨_, rfl⟩
  rw [← hwz] at kz bz k4z k6z
  obtain ⟨c9, f9, l9⟩ := k5.rules
  refine hOne 9 fun K hK => ?_
  go_simp
  rw [← hwz]
  clear hwz c9 f9 l9 b k5
  have b := bz
  have k5 := kz
  clear bz kz
  replace k4 := k4z
  clear k4z
  replace k6 := k6z
  clear k6z
  refine hK _ _ (k6.cell) ?_
  clear hK K
  try simp only [Act.put, sA, sZ, sS]
  refine wpAnyH_done (by kernel_rfl) (noPanic_normal ?_) _
  obtain ⟨c4, f4, l4⟩ := k4.rules
  obtain ⟨c5, f5, l5⟩ := k5.rules
  go_wp2
  exact bodyPost_ret (v := .tuple #[.agg #[.int .i64 0, .int .i64 0, .int .i64 0], .agg #[.int .i64 10, .int .i64 0, .int .i64 0]]) (by simp [results, Tryz.results143, go_sem, c4, c5]) rfl ⟨rfl, b⟩
theorem endsB_any (p : Pl) (w : World) (hI : InvC p w) :
    Calls Tryz.prog 143 #[.pointer (some ⟨p.c, 0, none⟩), .agg #[.int .i64 0, .int .i64 1]] w fun e w' => e = .returned (.tuple #[.agg #[.int .i64 10, .int .i64 0, .int .i64 3], .agg #[.int .i64 0, .int .i64 0, .int .i64 3]]) ∧ Below w.heap.size w w' := by
  have b := (((Below.refl w.heap.size w).alloc (Nat.le_refl _) (.cells #[.int .i64 0, .int .i64 1] 224)).alloc (by simp) (.cells #[.int .i64 0, .int .i64 0, .int .i64 0] 227)).alloc (by simp; omega) (.cells #[.int .i64 0, .int .i64 0, .int .i64 0] 227)
  have kx := ((Blk.new w 224 #[.int .i64 0, .int .i64 1]).alloc (.cells #[.int .i64 0, .int .i64 0, .int .i64 0] 227)).alloc (.cells #[.int .i64 0, .int .i64 0, .int .i64 0] 227)
  have k4 : Blk (((w.alloc (.cells #[.int .i64 0, .int .i64 1] 224)).alloc (.cells #[.int .i64 0, .int .i64 0, .int .i64 0] 227)).alloc (.cells #[.int .i64 0, .int .i64 0, .int .i64 0] 227)) (w.heap.size + 1) 227 #[.int .i64 0, .int .i64 0, .int .i64 0] := (Blk.newAt (by simp)).alloc _
  have k5 : Blk (((w.alloc (.cells #[.int .i64 0, .int .i64 1] 224)).alloc (.cells #[.int .i64 0, .int .i64 0, .int .i64 0] 227)).alloc (.cells #[.int .i64 0, .int .i64 0, .int .i64 0] 227)) (w.heap.size + 1 + 1) 227 #[.int .i64 0, .int .i64 0, .int .i64 0] := Blk.newAt (by simp)
  have hsz : w.heap.size + 3 ≤ (((w.alloc (.cells #[.int .i64 0, .int .i64 1] 224)).alloc (.cells #[.int .i64 0, .int .i64 0, .int .i64 0] 227)).alloc (.cells #[.int .i64 0, .int .i64 0, .int .i64 0] 227)).heap.size := by simp
  have hJ := hI.below b
  go_enter Tryz.func143, Tryz.ntmps143
  go_upto_region 1 with fail
  generalize ((w.alloc (.cells #[.int .i64 0, .int .i64 1] 224)).alloc (.cells #[.int .i64 0, .int .i64 0, .int .i64 0] 227)).alloc (.cells #[.int .i64 0, .int .i64 0, .int .i64 0] 227) = W at *
  obtain ⟨cx, fx, lx⟩ := kx.rules
  go_wp2_with fail
  refine (wayB_any p _ hJ).mono ?_
  rintro e W1 ⟨rfl, hb⟩
  clear cx fx lx kx
  replace k4 := k4.below hb
  replace k5 := k5.below hb
  replace hJ := hJ.below hb
  replace b := b.trans (hb.mono b.size)
  have hsz1 : w.heap.size + 3 ≤ W1.heap.size := Nat.le_trans hsz hb.size
  clear hb
  have b6 := (Below.refl W1.heap.size W1).alloc (Nat.le_refl _) (.cells #[.int .i64 10, .int .i64 0, .int .i64 0, .int .i64 0] 285)
  have k6 := Blk.new W1 285 #[.int .i64 10, .int .i64 0, .int .i64 0, .int .i64 0]
  go_upto_region 2 with fail
  replace k4 := k4.below b6
  replace k5 := k5.below b6
  replace b := b.trans (b6.mono b.size)
  clear b6
  generalize W1.alloc (.cells #[.int .i64 10, .int .i64 0, .int .i64 0, .int .i64 0] 285) = W2 at *
  generalize W1.heap.size = g6 at *
  obtain ⟨c6, f6, l6⟩ := k6.rules
  go_wp2_with fail
  refine (octB_any _).mono ?_
  rintro e W3 ⟨rfl, hb⟩
  clear c6 f6 l6
  replace k4 := k4.below hb
  replace k5 := k5.below hb
  replace k6 := k6.below hb
  replace b := b.trans (hb.mono b.size)
  clear hb
  go_upto_region 3 with fail
  have hg6 := k6.lt
  refine wp_held_np (fun w' : World => (∀ j, w'.cell? ⟨g6, j, none⟩ = #[Value.int .i64 10, .int .i64 0, .int .i64 0, .int .i64 0][j]?)) (by kernel_rfl) ?_
  have hS : (fun w' : World => (∀ j, w'.cell? ⟨g6, j, none⟩ = #[Value.int .i64 10, .int .i64 0, .int .i64 0, .int .i64 0][j]?)) W3.drew := k6.cell
  replace k4 := k4.drew
  replace k5 := k5.drew
  replace k6 := k6.drew
  replace b := b.drew
  generalize W3.drew = wd at *
  refine hTk 0 27 ?_
  refine hTk 1 28 ?_
  refine hTk 2 29 ?_
  refine hTk 3 30 ?_
  refine hTk 4 31 ?_
  refine hTk 5 32 ?_
  refine hTk 6 33 ?_
  refine hTk 7 34 ?_
  clear hS
  have kz := (((k4.set_ 0 (.int .i64 10)).set_ 1 (.int .i64 0)).set_ 2 (.int .i64 3))
  simp only [sA, sZ, sS] at kz
  have bz := (((b.setCell (p := ⟨w.heap.size + 1, 0, none⟩) (by dsimp only; omega) (.int .i64 10)).setCell (p := ⟨w.heap.size + 1, 1, none⟩) (by dsimp only; omega) (.int .i64 0)).setCell (p := ⟨w.heap.size + 1, 2, none⟩) (by dsimp only; omega) (.int .i64 3))
  have k5z := (((k5.far (p := ⟨w.heap.size + 1, 0, none⟩) (by dsimp only; omega) (.int .i64 10)).far (p := ⟨w.heap.size + 1, 1, none⟩) (by dsimp only; omega) (.int .i64 0)).far (p := ⟨w.heap.size + 1, 2, none⟩) (by dsimp only; omega) (.int .i64 3))
  have k6z := (((k6.far (p := ⟨w.heap.size + 1, 0, none⟩) (by dsimp only; omega) (.int .i64 10)).far (p := ⟨w.heap.size + 1, 1, none⟩) (by dsimp only; omega) (.int .i64 0)).far (p := ⟨w.heap.size + 1, 2, none⟩) (by dsimp only; omega) (.int .i64 3))
  obtain ⟨w7, hwz⟩ : ∃ x, x = (((wd.setCell ⟨w.heap.size + 1, 0, none⟩ (.int .i64 10)).setCell ⟨w.heap.size + 1, 1, none⟩ (.int .i64 0)).setCell ⟨w.heap.size + 1, 2, none⟩ (.int .i64 3)) := ⟨_, rfl⟩
  rw [← hwz] at kz bz k5z k6z
  obtain ⟨c9, f9, l9⟩ := k4.rules
  refine hOne 8 fun K hK => ?_
  go_simp
  rw [← hwz]
  clear hwz c9 f9 l9 b k4
  have b := bz
  have k4 := kz
  clear bz kz
  replace k5 := k5z
  clear k5z
  replace k6 := k6z
  clear k6z
  refine hK _ _ (k6.cell) ?_
  clear hK K
  try simp only [Act.put, sA, sZ, sS]
  have kz := (((k5.set_ 0 (.int .i64 0)).set_ 1 (.int .i64 0)).set_ 2 (.int .i64 3))
  simp only [sA, sZ, sS] at kz
  have bz := (((b.setCell (p := ⟨w.heap.size + 1 + 1, 0, none⟩) (by dsimp only; omega) (.int .i64 0)).setCell (p := ⟨w.heap.size + 1 + 1, 1, none⟩) (by dsimp only; omega) (.int .i64 0)).setCell (p := ⟨w.heap.size + 1 + 1, 2, none⟩) (by dsimp only; omega) (.int .i64 3))
  have k4z := (((k4.far (p := ⟨w.heap.size + 1 + 1, 0, none⟩) (by dsimp only; omega) (.int .i64 0)).far (p := ⟨w.heap.size + 1 + 1, 1, none⟩) (by dsimp only; omega) (.int .i64 0)).far (p := ⟨w.heap.size + 1 + 1, 2, none⟩) (by dsimp only; omega) (.int .i64 3))
  have k6z := (((k6.far (p := ⟨w.heap.size + 1 + 1, 0, none⟩) (by dsimp only; omega) (.int .i64 0)).far (p := ⟨w.heap.size + 1 + 1, 1, none⟩) (by dsimp only; omega) (.int .i64 0)).far (p := ⟨w.heap.size + 1 + 1, 2, none⟩) (by dsimp only; omega) (.int .i64 3))
  obtain ⟨w8, hwz⟩ : ∃ x, x = (((w7.setCell ⟨w.heap.size + 1 + 1, 0, none⟩ (.int .i64 0)).setCell ⟨w.heap.size + 1 + 1, 1, none⟩ (.int .i64 0)).setCell ⟨w.heap.size + 1 + 1, 2, none⟩ (.int .i64 3)) := ⟨_, rfl⟩
  rw [← hwz] at kz bz k4z k6z
  obtain ⟨c9, f9, l9⟩ := k5.rules
  refine hOne 9 fun K hK => ?_
  go_simp
  rw [← hwz]
  clear hwz c9 f9 l9 b k5
  have b := bz
  have k5 := kz
  clear bz kz
  replace k4 := k4z
  clear k4z
  replace k6 := k6z
  clear k6z
  refine hK _ _ (k6.cell) ?_
  clear hK K
  try simp only [Act.put, sA, sZ, sS]
  refine wpAnyH_done (by kernel_rfl) (noPanic_normal ?_) _
  obtain ⟨c4, f4, l4⟩ := k4.rules
  obtain ⟨c5, f5, l5⟩ := k5.rules
  go_wp2
  exact bodyPost_ret (v := .tuple #[.agg #[.int .i64 10, .int .i64 0, .int .i64 3], .agg #[.int .i64 0, .int .i64 0, .int .i64 3]]) (by simp [results, Tryz.results143, go_sem, c4, c5]) rfl ⟨rfl, b⟩
theorem start_any (p : Pl) (w : World) (hI : InvC p w) :
    Calls Tryz.prog 119 #[.agg #[.pointer (some ⟨p.c, 0, none⟩), .map (some p.m2)]] w fun e w' => e = .returned (.agg #[.int .i64 0, .int .i64 0, .int .i64 0, .int .i64 0]) ∧ Below w.heap.size w w' := by
  have b := ((Below.refl w.heap.size w).alloc (Nat.le_refl _) (.cells #[.pointer (some ⟨p.c, 0, none⟩), .map (some p.m2)] 214)).alloc (by simp) (.cells #[.int .i64 0, .int .i64 0, .int .i64 0, .int .i64 0] 229)
  have kx := (Blk.new w 214 #[.pointer (some ⟨p.c, 0, none⟩), .map (some p.m2)]).alloc (.cells #[.int .i64 0, .int .i64 0, .int .i64 0, .int .i64 0] 229)
  have k2 : Blk ((w.alloc (.cells #[.pointer (some ⟨p.c, 0, none⟩), .map (some p.m2)] 214)).alloc (.cells #[.int .i64 0, .int .i64 0, .int .i64 0, .int .i64 0] 229)) (w.heap.size + 1) 229 #[.int .i64 0, .int .i64 0, .int .i64 0, .int .i64 0] := Blk.newAt (by simp)
  have hJ := hI.below b
  go_enter Tryz.func119, Tryz.ntmps119
  go_upto_region 1 with fail
  generalize (w.alloc (.cells #[.pointer (some ⟨p.c, 0, none⟩), .map (some p.m2)] 214)).alloc (.cells #[.int .i64 0, .int .i64 0, .int .i64 0, .int .i64 0] 229) = W at *
  obtain ⟨cx, fx, lx⟩ := kx.rules
  obtain ⟨cc, fc, lc⟩ := hJ.kc.rules
  obtain ⟨c2, f2, l2⟩ := k2.rules
  go_wp2
  have kz := (((k2.set_ 0 (.int .i64 0)).set_ 1 (.int .i64 0)).set_ 2 (.int .i64 0)).set_ 3 (.int .i64 0)
  simp only [sA, sZ, sS] at kz
  have bz := (((b.setCell (p := ⟨w.heap.size + 1, 0, none⟩) (by dsimp only; omega) (.int .i64 0)).setCell (p := ⟨w.heap.size + 1, 1, none⟩) (by dsimp only; omega) (.int .i64 0)).setCell (p := ⟨w.heap.size + 1, 2, none⟩) (by dsimp only; omega) (.int .i64 0)).setCell (p := ⟨w.heap.size + 1, 3, none⟩) (by dsimp only; omega) (.int .i64 0)
  clear cx fx lx cc fc lc c2 f2 l2
  obtain ⟨c2, f2, l2⟩ := kz.rules
  exact bodyPost_ret (v := .agg #[.int .i64 0, .int .i64 0, .int .i64 0, .int .i64 0]) (by simp [results, Tryz.results119, go_sem, c2]) rfl ⟨rfl, bz⟩
theorem placeA_any (p : Pl) (w : World) (hI : InvC p w) :
    Calls Tryz.prog 114 #[.agg #[.pointer (some ⟨p.c, 0, none⟩), .map (some p.m2)], .int .i64 1, .agg #[.int .i64 0, .int .i64 0]] w fun e w' => e = .returned (.int .i64 2) ∧ Below w.heap.size w w' := by
  have b := ((Below.refl w.heap.size w).alloc (Nat.le_refl _) (.cells #[.pointer (some ⟨p.c, 0, none⟩), .map (some p.m2)] 214)).alloc (by simp) (.cells #[.int .i64 0, .int .i64 0] 224)
  have kx := (Blk.new w 214 #[.pointer (some ⟨p.c, 0, none⟩), .map (some p.m2)]).alloc (.cells #[.int .i64 0, .int .i64 0] 224)
  have k2 : Blk ((w.alloc (.cells #[.pointer (some ⟨p.c, 0, none⟩), .map (some p.m2)] 214)).alloc (.cells #[.int .i64 0, .int .i64 0] 224)) (w.heap.size + 1) 224 #[.int .i64 0, .int .i64 0] := Blk.newAt (by simp)
  have hJ := hI.below b
  go_enter Tryz.func114, Tryz.ntmps114
  go_upto_region 1 with fail
  generalize (w.alloc (.cells #[.pointer (some ⟨p.c, 0, none⟩), .map (some p.m2)] 214)).alloc (.cells #[.int .i64 0, .int .i64 0] 224) = W at *
  obtain ⟨cx, fx, lx⟩ := kx.rules
  obtain ⟨cc, fc, lc⟩ := hJ.kc.rules
  obtain ⟨c2, f2, l2⟩ := k2.rules
  go_quiet (fail)
  go_wp2
  go_ret
  exact ⟨rfl, below_drewN b _⟩
theorem root100 : rootS 100 = 10 := by
  unfold rootS
  rw [show (100 : Int).toNat = 100 from rfl, isq_eq (n := 100) (r := 10) (by decide) (by decide)]; rfl

theorem stepsA_any (p : Pl) (w : World) (hI : InvC p w) :
    Calls Tryz.prog 165 #[.pointer (some ⟨p.c, 0, none⟩), .agg #[.int .i64 0, .int .i64 0, .int .i64 10, .int .i64 0]] w fun e w' => e = .returned (.int .i64 5) ∧ Below w.heap.size w w' := by
  have b := (Below.refl w.heap.size w).alloc (Nat.le_refl _) (.cells #[.int .i64 0, .int .i64 0, .int .i64 10, .int .i64 0] 285)
  have kx := Blk.new w 285 #[.int .i64 0, .int .i64 0, .int .i64 10, .int .i64 0]
  have hJ := hI.below b
  have hR := fun W => Root_any 100 W (by omega) (by omega)
  rw [root100] at hR
  go_enter Tryz.func165, Tryz.ntmps165
  go_upto_region 1 with fail
  generalize w.alloc (.cells #[.int .i64 0, .int .i64 0, .int .i64 10, .int .i64 0] 285) = W at *
  obtain ⟨cx, fx, lx⟩ := kx.rules
  obtain ⟨cc, fc, lc⟩ := hJ.kc.rules
  go_quiet (fail)
  go_wp2_with fail
  refine (hR _).mono ?_
  rintro e W1 ⟨rfl, rfl⟩
  go_wp2_with fail
  go_quiet (fail)
  go_wp2
  go_ret
  exact ⟨rfl, below_drewN (below_drewN b _) _⟩
theorem placeB_any (p : Pl) (w : World) (hI : InvC p w) :
    Calls Tryz.prog 114 #[.agg #[.pointer (some ⟨p.c, 0, none⟩), .map (some p.m2)], .int .i64 1, .agg #[.int .i64 0, .int .i64 1]] w fun e w' => e = .returned (.int .i64 3) ∧ Below w.heap.size w w' := by
  have b := ((Below.refl w.heap.size w).alloc (Nat.le_refl _) (.cells #[.pointer (some ⟨p.c, 0, none⟩), .map (some p.m2)] 214)).alloc (by simp) (.cells #[.int .i64 0, .int .i64 1] 224)
  have kx := (Blk.new w 214 #[.pointer (some ⟨p.c, 0, none⟩), .map (some p.m2)]).alloc (.cells #[.int .i64 0, .int .i64 1] 224)
  have k2 : Blk ((w.alloc (.cells #[.pointer (some ⟨p.c, 0, none⟩), .map (some p.m2)] 214)).alloc (.cells #[.int .i64 0, .int .i64 1] 224)) (w.heap.size + 1) 224 #[.int .i64 0, .int .i64 1] := Blk.newAt (by simp)
  have hJ := hI.below b
  go_enter Tryz.func114, Tryz.ntmps114
  go_upto_region 1 with fail
  generalize (w.alloc (.cells #[.pointer (some ⟨p.c, 0, none⟩), .map (some p.m2)] 214)).alloc (.cells #[.int .i64 0, .int .i64 1] 224) = W at *
  obtain ⟨cx, fx, lx⟩ := kx.rules
  obtain ⟨cc, fc, lc⟩ := hJ.kc.rules
  obtain ⟨c2, f2, l2⟩ := k2.rules
  go_quiet (fail)
  go_wp2
  go_ret
  exact ⟨rfl, below_drewN b _⟩
theorem stepsB_any (p : Pl) (w : World) (hI : InvC p w) :
    Calls Tryz.prog 165 #[.pointer (some ⟨p.c, 0, none⟩), .agg #[.int .i64 10, .int .i64 0, .int .i64 0, .int .i64 0]] w fun e w' => e = .returned (.int .i64 5) ∧ Below w.heap.size w w' := by
  have b := (Below.refl w.heap.size w).alloc (Nat.le_refl _) (.cells #[.int .i64 10, .int .i64 0, .int .i64 0, .int .i64 0] 285)
  have kx := Blk.new w 285 #[.int .i64 10, .int .i64 0, .int .i64 0, .int .i64 0]
  have hJ := hI.below b
  have hR := fun W => Root_any 100 W (by omega) (by omega)
  rw [root100] at hR
  go_enter Tryz.func165, Tryz.ntmps165
  go_upto_region 1 with fail
  generalize w.alloc (.cells #[.int .i64 10, .int .i64 0, .int .i64 0, .int .i64 0] 285) = W at *
  obtain ⟨cx, fx, lx⟩ := kx.rules
  obtain ⟨cc, fc, lc⟩ := hJ.kc.rules
  go_quiet (fail)
  go_wp2_with fail
  refine (hR _).mono ?_
  rintro e W1 ⟨rfl, rfl⟩
  go_wp2_with fail
  go_quiet (fail)
  go_wp2
  go_ret
  exact ⟨rfl, below_drewN (below_drewN b _) _⟩
end Go.Proofs.YtcmbmmpihiekhaaGreat
namespace Go.Proofs.YtcmbmmpihiekhaaGreat
open Go.RowKit Go.Shelf
section
variable {n : Nat} {P : Program} {ops : Array Oper} {Q : Exit → Act → World → Prop} {md : Region.Mode} {S : World → Prop}
theorem yieldsIf_wpOpIn {i : Nat} {o : Oper} {v : Value} {a : Act} (hi : ops[i]? = some o) (hy : YieldsIf P ops S o v a)
    {K : Act → World → Prop} {w : World} (hS : S w) (h : K (a.put o.dst v) w) : wpOpIn Fence.wide n P ops Q i K a w := by
  unfold Go.wpOpIn
  simp only [hi]
  rcases hy with ⟨hw, hv⟩ | ⟨hw, rfl⟩
  · simp only [hw, if_true, Oper.wpIn]
    refine ⟨fun _ _ => trivial, ?_⟩
    rw [show Fence.wide.round = none from rfl, Oper.semAt_none, hv w hS]
    exact h
  · simp only [hw, Bool.false_eq_true, if_false]; exact ⟨fun _ _ => trivial, h⟩
theorem wpOpIn_putIf {j : Nat} {oi oj : Oper} {v : Value} (hj : ops[j]? = some oj) (hap : oi.apart ops oj = true)
    (hsi : ∀ cs b, oi.op ≠ .select cs b) (hsj : ∀ cs b, oj.op ≠ .select cs b)
    (hQ : ∀ c a w, Q (.panic c) (a.put oi.dst v) w → Q (.panic c) a w) {K : Act → World → Prop} {a : Act} {w : World}
    (hy : YieldsIf P ops S oi v a) (h : wpOpIn Fence.wide n P ops Q j K (a.put oi.dst v) w) :
    wpOpIn Fence.wide n P ops Q j (fun a' w' => YieldsIf P ops S oi v a' ∧ K (a'.put oi.dst v) w') a w := by
  obtain ⟨h1, h2, h3⟩ := Oper.apart_spec hap
  have keep : ∀ (a : Act), YieldsIf P ops S oi v a → ∀ u, YieldsIf P ops S oi v (a.put oj.dst u) := fun a hy u =>
    hy.of_same (execOp_put oi hsi a oj.dst u h3) (wanted_put oi a oj.dst u h3)
  have keepD : ∀ d, YieldsIf P ops S oi v { a with defers := d :: a.defers } := fun d => hy.of_same rfl rfl
  unfold wpOpIn at *
  simp only [hj] at *
  rw [wanted_put oj a oi.dst v h1] at h
  split
  · rename_i hw
    simp only [hw, if_true] at h
    unfold Oper.wpIn at *
    refine ⟨fun _ _ => trivial, ?_⟩
    have h := h.2
    rw [show Fence.wide.round = none from rfl, Oper.semAt_none, execOp_put oj hsj a oi.dst v h1] at h
    rw [show Fence.wide.round = none from rfl, Oper.semAt_none]
    generalize (execOp a.eval oj).run P w = r at *
    cases r with
    | ok x w' =>
      cases x <;> simp only [Oper.uponIn] at h ⊢
      case value u => exact ⟨keep a hy u, by rw [← Act.put_comm a v u h2]; exact h⟩
      case skip => exact ⟨keep a hy _, by rw [← Act.put_comm a v undef h2]; exact h⟩
      case defer d =>
        refine ⟨keep _ (keepD d) _, ?_⟩
        rw [← Act.put_comm _ v undef h2, ← Act.put_defers]
        exact h
      case enter f args =>
        refine ⟨h.1, CallsIn.mono h.2 fun e w'' he => ?_⟩
        cases e with
        | returned u => exact ⟨keep a hy u, by rw [← Act.put_comm a v u h2]; exact he⟩
        | panicked c => exact hQ _ _ _ he
        | outgrown => exact he
      case row row args => exact ⟨h.1, RowsIn.mono h.2 fun u w'' he => ⟨keep a hy u, by rw [← Act.put_comm a v u h2]; exact he⟩⟩
      case round l f tmps assign body =>
        refine ⟨h.1, RoundIn.mono h.2 fun e w'' he => ?_⟩
        cases e with
        | returned u => exact ⟨keep a hy u, by rw [← Act.put_comm a v u h2]; exact he⟩
        | panicked c => exact hQ _ _ _ he
        | outgrown => exact he
    | halt x w' =>
      cases x <;> simp only [Oper.uponIn] at h ⊢
      case panic u => exact hQ _ _ _ h
  · rename_i hw
    simp only [hw] at h
    exact ⟨fun _ _ => trivial, keep a hy _, by rw [← Act.put_comm a v undef h2]; exact h.2⟩
/-- Whatever order is picked, and S holds behind every operation. -/
def wpAnyHI (n : Nat) (P : Program) (md : Region.Mode) (ops : Array Oper) (Q : Exit → Act → World → Prop) (S : World → Prop) : Nat → Array Bool → Act → World → Prop
  | 0, listed, a, w => Region.ready md ops listed = [] ∧ Q .normal a w
  | fuel + 1, listed, a, w =>
    (Region.ready md ops listed = [] → Q .normal a w) ∧
    ∀ i ∈ Region.ready md ops listed, wpOpIn Fence.wide n P ops Q i (fun a' w' => S w' ∧ wpAnyHI n P md ops Q S fuel (listed.setIfInBounds i true) a' w') a w
theorem wpAnyIn_of_heldI : ∀ (fuel : Nat) (listed : Array Bool) (a : Act) (w : World), wpAnyHI n P md ops Q S fuel listed a w → wpAnyIn Fence.wide n P md ops Q fuel listed a w
  | 0, _, _, _, h => h
  | fuel + 1, _, _, _, h => ⟨h.1, fun i hi => wpOpIn_mono (fun a' w' h' => wpAnyIn_of_heldI fuel _ a' w' h'.2) (h.2 i hi)⟩
theorem wpAnyHI_first {i : Nat} {oi : Oper} {v : Value} (hi : ops[i]? = some oi) (hsel : ∀ (j : Nat) (o : Oper) cs b, ops[j]? = some o → o.op ≠ .select cs b)
    (hQ : ∀ c a w, Q (.panic c) (a.put oi.dst v) w → Q (.panic c) a w) :
    ∀ (fuel : Nat) (listed : Array Bool) (a : Act) (w : World),
      (∀ j oj, ops[j]? = some oj → j ≠ i → listed.getD j true = false → (∀ e ∈ oj.after, Region.binds md e = true → e.on ≠ i) → oi.apart ops oj = true) →
      i ∈ Region.ready md ops listed → YieldsIf P ops S oi v a → S w →
      wpAnyHI n P md ops Q S fuel (listed.setIfInBounds i true) (a.put oi.dst v) w → wpAnyHI n P md ops Q S (fuel + 1) listed a w := by
  intro fuel
  induction fuel with
  | zero =>
    intro listed a w _ hr hy hS H
    refine ⟨fun h => (by rw [h] at hr; cases hr), fun j hj => ?_⟩
    by_cases hji : j = i
    · subst hji; exact yieldsIf_wpOpIn hi hy hS ⟨hS, H⟩
    · have := ready_mono hj hji
      rw [H.1] at this
      cases this
  | succ fuel ih =>
    intro listed a w hfree hr hy hS H
    refine ⟨fun h => (by rw [h] at hr; cases hr), fun j hj => ?_⟩
    by_cases hji : j = i
    · subst hji; exact yieldsIf_wpOpIn hi hy hS ⟨hS, H⟩
    · have h1 := H.2 j (ready_mono hj hji)
      obtain ⟨hjun, oj, hoj, hall⟩ := mem_ready.1 hj
      have hnot : ∀ e ∈ oj.after, Region.binds md e = true → e.on ≠ i := fun e he hb heq => by
        have h1 := hall e he hb
        have h0 := (mem_ready.1 hr).1
        rw [heq] at h1
        rcases Nat.lt_or_ge i listed.size with h' | h'
        · simp [h'] at h0 h1; rw [h0] at h1; cases h1
        · simp [Array.getElem?_eq_none h'] at h1
      have h2 := wpOpIn_putIf hoj (hfree j oj hoj hji hjun hnot) (fun cs b => hsel i oi cs b hi) (fun cs b => hsel j oj cs b hoj) hQ hy h1
      have hfree' : ∀ k ok, ops[k]? = some ok → k ≠ i → (listed.setIfInBounds j true).getD k true = false →
          (∀ e ∈ ok.after, Region.binds md e = true → e.on ≠ i) → oi.apart ops ok = true := fun k ok hk hki hun hno => by
        refine hfree k ok hk hki ?_ hno
        by_cases hjk : j = k
        · subst hjk; exact hjun
        · rw [getD_set_ne true hjk] at hun; exact hun
      refine wpOpIn_mono (fun a' w' h3 => ⟨h3.2.1, ih (listed.setIfInBounds j true) a' w' hfree' (ready_mono hr (Ne.symm hji)) h3.1 h3.2.1 ?_⟩) h2
      rw [Array.setIfInBounds_comm _ _ hji]
      exact h3.2.2
theorem heldI_take {i : Nat} {oi : Oper} {v : Value} (d : Tmp) {fuel : Nat} {listed : Array Bool} {a : Act} {w : World} (hi : ops[i]? = some oi) (hd : oi.dst = some d)
    (hs : Region.noSelect ops = true) (hf : Region.free md ops listed i = true) (hr : (Region.ready md ops listed).contains i = true)
    (hQ : ∀ c a w, Q (.panic c) (a.put (some d) v) w → Q (.panic c) a w) (hy : YieldsIf P ops S oi v a) (hS : S w)
    (h : wpAnyHI n P md ops Q S fuel (listed.setIfInBounds i true) (a.put (some d) v) w) : wpAnyHI n P md ops Q S (fuel + 1) listed a w :=
  wpAnyHI_first hi (Region.noSelect_spec hs) (by rw [hd]; exact hQ) fuel listed a w (Region.free_spec hi hf) (by simpa using hr) hy hS (by rw [hd]; exact h)
theorem hTkI {oi : Oper} {v : Value} {fuel : Nat} {listed : Array Bool} {a a' : Act} {w : World} (i : Nat) (d : Tmp)
    (h : wpAnyHI n P md ops Q S fuel (listed.setIfInBounds i true) a' w)
    (hi : ops[i]? = some oi := by exact rfl) (hd : oi.dst = some d := by exact rfl)
    (hs : Region.noSelect ops = true := by kernel_rfl) (hf : Region.free md ops listed i = true := by kernel_rfl) (hr : (Region.ready md ops listed).contains i = true := by kernel_rfl)
    (hS : S w := by assumption)
    (hy : YieldsIf P ops S oi v a := by exact Or.inl ⟨by rfl, by intro w1 h1; (try dsimp only at h1); go_simp; all_goals with_reducible rfl⟩)
    (ha : a.put (some d) v = a' := by (try simp only [Act.put, sA, sZ, sS]); (try rfl))
    (hQ : ∀ c a w, Q (.panic c) (a.put (some d) v) w → Q (.panic c) a w := by exact fun _ _ _ h => h) : wpAnyHI n P md ops Q S (fuel + 1) listed a w :=
  heldI_take d hi hd hs hf hr hQ hy hS (ha ▸ h)
theorem heldI_done {listed : Array Bool} {a : Act} {w : World} (hr : Region.ready md ops listed = []) (h : Q .normal a w) : ∀ fuel, wpAnyHI n P md ops Q S fuel listed a w
  | 0 => ⟨hr, h⟩
  | _ + 1 => ⟨fun _ => h, by rw [hr]; simp⟩
theorem operIn_wide {o : Oper} {K : Act → World → Prop} {a : Act} {w : World} (h : o.wp P a w K Q) : o.wpIn Fence.wide n P a w K Q := by
  refine ⟨fun _ _ => trivial, ?_⟩
  rw [show Fence.wide.round = none from rfl, Oper.semAt_none]
  unfold Oper.wp at h
  generalize (execOp a.eval o).run P w = r at h
  cases r with
  | ok x w' =>
    cases x
    case enter f args => exact ⟨fun h => (by cases h), callsIn_wide.2 (Calls.mono h fun e w'' he => by cases e <;> exact he)⟩
    case row r args => exact ⟨fun h => (by cases h), fun c cs _ => by
        obtain ⟨v, w', r, s⟩ := h c cs
        exact ⟨v, w', r, stepsIn_wide.2 s⟩⟩
    all_goals first | exact h | exact h.elim
  | halt x w' => cases x <;> exact h
/-- One operation comes up alone: it hands on to no round. -/
theorem heldI_one {i : Nat} {o : Oper} {fuel : Nat} {listed : Array Bool} {a : Act} {w : World} (hr : Region.ready md ops listed = [i]) (ho : ops[i]? = some o) (hg : Region.wanted o (yielded ops a.tmps) = true)
    (h : ∀ K' : Act → World → Prop, (∀ a' w', S w' → wpAnyHI n P md ops Q S fuel (listed.setIfInBounds i true) a' w' → K' a' w') → o.wp P a w K' Q) :
    wpAnyHI n P md ops Q S (fuel + 1) listed a w := by
  refine ⟨fun h0 => absurd (hr ▸ h0) (by simp), fun j hj => ?_⟩
  rw [hr] at hj
  obtain rfl := List.mem_singleton.1 hj
  unfold wpOpIn
  simp only [ho]
  rw [if_pos hg]
  exact operIn_wide (h _ fun a' w' hS hW => ⟨hS, hW⟩)
theorem hOneI {o : Oper} {fuel : Nat} {listed : Array Bool} {a : Act} {w : World} (i : Nat)
    (h : ∀ K' : Act → World → Prop, (∀ a' w', S w' → wpAnyHI n P md ops Q S fuel (listed.setIfInBounds i true) a' w' → K' a' w') → o.wp P a w K' Q)
    (hr : Region.ready md ops listed = [i] := by kernel_rfl) (ho : ops[i]? = some o := by exact rfl) (hg : Region.wanted o (yielded ops a.tmps) = true := by exact rfl) :
    wpAnyHI n P md ops Q S (fuel + 1) listed a w := heldI_one hr ho hg h
theorem heldI_two {i j : Nat} {oi oj : Oper} {fuel : Nat} {listed : Array Bool} {a : Act} {w : World} (hr : Region.ready md ops listed = [i, j]) (hi : ops[i]? = some oi) (hj : ops[j]? = some oj) (hgi : oi.guard = none) (hgj : oj.guard = none)
    (h1 : ∀ K' : Act → World → Prop, (∀ a' w', S w' → wpAnyHI n P md ops Q S fuel (listed.setIfInBounds i true) a' w' → K' a' w') → oi.wp P a w K' Q)
    (h2 : ∀ K' : Act → World → Prop, (∀ a' w', S w' → wpAnyHI n P md ops Q S fuel (listed.setIfInBounds j true) a' w' → K' a' w') → oj.wp P a w K' Q) :
    wpAnyHI n P md ops Q S (fuel + 1) listed a w := by
  refine ⟨fun h0 => absurd (hr ▸ h0) (by simp), fun m hm => ?_⟩
  rw [hr] at hm
  rcases List.mem_cons.1 hm with rfl | hm
  · unfold wpOpIn
    simp only [hi]
    rw [if_pos (by simp [Region.wanted, hgi])]
    exact operIn_wide (h1 _ fun a' w' hS hW => ⟨hS, hW⟩)
  · obtain rfl := List.mem_singleton.1 hm
    unfold wpOpIn
    simp only [hj]
    rw [if_pos (by simp [Region.wanted, hgj])]
    exact operIn_wide (h2 _ fun a' w' hS hW => ⟨hS, hW⟩)
/-- One operation comes up alone: it may hand on to a round. -/
theorem heldI_yield {i : Nat} {o : Oper} {fuel : Nat} {listed : Array Bool} {a : Act} {w : World} (hr : Region.ready md ops listed = [i]) (ho : ops[i]? = some o) (hg : Region.wanted o (yielded ops a.tmps) = true)
    (h : ∀ K' : Act → World → Prop, (∀ a' w', S w' → wpAnyHI n P md ops Q S fuel (listed.setIfInBounds i true) a' w' → K' a' w') → o.wpIn Fence.wide n P a w K' Q) :
    wpAnyHI n P md ops Q S (fuel + 1) listed a w := by
  refine ⟨fun h0 => absurd (hr ▸ h0) (by simp), fun j hj => ?_⟩
  rw [hr] at hj
  obtain rfl := List.mem_singleton.1 hj
  unfold wpOpIn
  simp only [ho]
  rw [if_pos hg]
  exact h _ fun a' w' hS hW => ⟨hS, hW⟩
theorem wpIn_heldI {id : Nat} {a : Act} {w : World} (S : World → Prop) (hm : P.follows .mixedOrders = true)
    (h : wpAnyHI n P .any ops (noPanic Q) S ops.size (Array.replicate ops.size false) a w.drew) : (Code.region id ops true).wpIn Fence.wide n P Q a w :=
  wpIn_mono (wpIn_region_any hm (wpAnyIn_of_heldI _ _ _ _ h)) (fun e a w q => by cases e <;> first | exact q | exact q.elim)
theorem wpAnyHI_fin {fuel : Nat} {listed : Array Bool} {a : Act} {w : World} {α : Type} (f : Act → α → Act) (B : α → World → Prop)
    (h1 : ∀ g W, B g W → Q .normal (f a g) W) (h2 : (∀ g W, B g W → Q .normal (f a g) W) → wpAnyHI n P md ops Q S fuel listed a w) : wpAnyHI n P md ops Q S fuel listed a w := h2 h1
end
end Go.Proofs.YtcmbmmpihiekhaaGreat
