/-
  What the walks of several chapters share: predicates that are handed to the library, small helpers of the statements (numbers, lists), and lemmas on memory.
-/
import Derived.Test.YtcmbmmpihiekhaaGreatChecked
import Derived.Test.YtcmbmmpihiekhaaGreatBase
import Derived.Shelf.Abstract
import Derived.Deep.QuietTactic
import Derived.BigQuiet
import Derived.Deep.RegionHeld3
import Derived.StillTailTactics
import Derived.Deep.AppendLies
import Derived.WalkMore
set_option maxRecDepth 100000
set_option maxHeartbeats 16000000
set_option linter.unusedSimpArgs false
set_option linter.unusedVariables false
namespace Go.Proofs.YtcmbmmpihiekhaaGreat
open Go.RowKit Go.Shelf

theorem min2_int (ats : Array TypeId) (ty : TypeId) (a b : Int) : Builtin.min_ ats ty #[.int .i64 a, .int .i64 b] = pure (.int .i64 (min a b)) := by
  simp only [Builtin.min_, Builtin.min2, List.foldlM_cons, List.foldlM_nil, bind_pure]
  congr 2
  split <;> omega
theorem max2_int (ats : Array TypeId) (ty : TypeId) (a b : Int) : Builtin.max_ ats ty #[.int .i64 a, .int .i64 b] = pure (.int .i64 (max a b)) := by
  simp only [Builtin.max_, Builtin.max2, List.foldlM_cons, List.foldlM_nil, bind_pure]
  congr 2
  split <;> omega
/-- A predicate that is handed to the library: at every x, in every later world, it says p x and turns nothing that was there. -/
def PredB {α : Type} (g : Nat) (lb : Array Value) (enc : α → Value) (p : α → Bool) (w : World) : Prop :=
  ∀ (W : World) (x : α), Below w.heap.size w W → Calls Tryz.prog g (#[enc x] ++ lb) W fun e w' => e = .returned (.bool (p x)) ∧ Below W.heap.size W w'

/-- Where a predicate holds first; -1: nowhere. -/
def idxf {α : Type} (p : α → Bool) : List α → Nat → Int
  | [], _ => -1
  | x :: xs, k => if p x then k else idxf p xs (k + 1)
theorem idxf_hit {α : Type} (p : α → Bool) : ∀ (xs : List α) (j k : Nat) (x : α), xs[k]? = some x → p x = true → (xs.take k).any p = false → idxf p xs j = (j + k : Nat)
  | [], _, _, _, h, _, _ => by simp at h
  | y :: ys, j, 0, x, h, hp, _ => by simp at h; subst h; simp [idxf, hp]
  | y :: ys, j, k + 1, x, h, hp, ha => by
    simp only [List.take_succ_cons, List.any_cons, Bool.or_eq_false_iff] at ha
    rw [idxf, if_neg (by simp [ha.1]), idxf_hit p ys (j + 1) k x (by simpa using h) hp ha.2]
    omega
theorem idxf_miss {α : Type} (p : α → Bool) : ∀ (xs : List α) (j : Nat), xs.any p = false → idxf p xs j = -1
  | [], _, _ => rfl
  | y :: ys, j, h => by
    simp only [List.any_cons, Bool.or_eq_false_iff] at h
    rw [idxf, if_neg (by simp [h.1]), idxf_miss p ys (j + 1) h.2]
theorem idxf_any {α : Type} (p : α → Bool) : ∀ (xs : List α) (j : Nat), decide (0 ≤ idxf p xs j) = xs.any p
  | [], _ => rfl
  | y :: ys, j => by
    rw [idxf, List.any_cons]
    by_cases h : p y = true
    · rw [if_pos h, h]; simp
    · rw [if_neg h, idxf_any p ys (j + 1)]; simp [h]
def noneTo {α : Type} (p : α → Bool) (xs : List α) (k : Nat) : Prop := (xs.take k).any p = false
theorem noneTo_succ {α : Type} {p : α → Bool} {xs : List α} {k : Nat} {x : α} (h : noneTo p xs k) (hx : xs[k]? = some x) (hp : p x = false) : noneTo p xs (k + 1) := by
  unfold noneTo at *
  rw [List.take_add_one, hx]; simp [h, hp]
theorem noneTo_all {α : Type} {p : α → Bool} {xs : List α} {k : Nat} (h : noneTo p xs k) (hk : xs.length ≤ k) : xs.any p = false := by
  unfold noneTo at h; rwa [List.take_of_length_le hk] at h
theorem some_of_lt {α : Type} {xs : List α} {k n : Nat} (h : xs.length = n) (hk : k < n) : ∃ x, xs[k]? = some x := ⟨_, List.getElem?_eq_getElem (by omega)⟩

theorem index_int (p : Int → Bool) (A : Option Addr) (n c B g : Nat) (lb : Array Value) (eg : ∀ args w, (callFunc g args).run Tryz.prog w = .ok (.enter g args) w) (xs : List Int) (w : World)
    (hp : PredB g lb (fun n => Value.int .i64 n) p w) (hs : SlAt w B 1 ivs A n c xs) :
    Calls Tryz.prog 91 #[.slice A n c, .func (.func g) #[] lb] w fun e w' => e = .returned (.int .i64 (idxf p xs 0)) ∧ Below w.heap.size w w' := by
  have hn := hs.le
  have hl := Lib.hid hs.len
  go_enter Tryz.func91, Tryz.ntmps91
  go_wp2
  go_loopw [8] (fun i wr => ∃ k : Nat, i = .int .i64 k ∧ k ≤ n ∧ noneTo p xs k ∧ Below w.heap.size w wr) (fun i wr => n - (intOf i).toNat)
  case atStart => exact ⟨0, rfl, Nat.zero_le _, by simp [noneTo], Below.refl _ _⟩
  case round =>
    obtain ⟨k, rfl, hk, hno, hb⟩ := hrel
    by_cases hlt : k < n
    · obtain ⟨x, hx⟩ := some_of_lt hl.out hlt
      have hcall := hp wr x hb
      obtain ⟨b, off, rfl, -, hbl, c0⟩ := (hs.keep hb.size (fun _ _ h => hb.cell h)).int hx
      replace hx := Lib.hid hx
      clear hs hp
      cases hq : p x with
      | true =>
        rw [hq] at hcall
        replace hq := Lib.hid hq
        go_wp2_with (go_at_fn g; refine hcall.mono ?_; rintro e w' ⟨rfl, hb'⟩)
        go_ret
        exact ⟨ret_int (by rw [idxf_hit p xs 0 k x hx.out hq.out hno]; omega), hb.trans (hb'.mono hb.size)⟩
      | false =>
        rw [hq] at hcall
        replace hq := Lib.hid hq
        go_wp2_with (go_at_fn g; refine hcall.mono ?_; rintro e w' ⟨rfl, hb'⟩)
        go_roundw
        case rel => exact ⟨k + 1, by go_num, by omega, noneTo_succ hno hx.out hq.out, hb.trans (hb'.mono hb.size)⟩
        case measure => simp [intOf]; omega
    · go_wp2
      go_ret
      exact ⟨ret_int (by rw [idxf_miss p xs 0 (noneTo_all hno (by have := hl.out; omega))]), hb⟩
theorem contains_int (p : Int → Bool) (A : Option Addr) (n c B g : Nat) (lb : Array Value) (eg : ∀ args w, (callFunc g args).run Tryz.prog w = .ok (.enter g args) w) (xs : List Int) (w : World)
    (hp : PredB g lb (fun n => Value.int .i64 n) p w) (hs : SlAt w B 1 ivs A n c xs) :
    Calls Tryz.prog 50 #[.slice A n c, .func (.func g) #[] lb] w fun e w' => e = .returned (.bool (xs.any p)) ∧ Below w.heap.size w w' := by
  go_enter Tryz.func50, Tryz.ntmps50
  go_wp2_with (go_at_call 91; refine (index_int p A n c B g lb eg xs _ hp hs).mono ?_; rintro e w' ⟨rfl, hb'⟩)
  go_ret
  exact ⟨ret_bool (idxf_any p xs 0), hb'⟩

theorem any_not {α : Type} (p : α → Bool) (l : List α) : (!l.any fun x => !p x) = l.all p := by simp [List.any_eq_not_all_not]
theorem mul_bd (a b A B : Int) (h0 : 0 ≤ a) (h1 : a ≤ A) (h2 : -B ≤ b) (h3 : b ≤ B) (hB : 0 ≤ B) : -(A * B) ≤ a * b ∧ a * b ≤ A * B := by
  have e1 : a * b ≤ a * B := Int.mul_le_mul_of_nonneg_left h3 h0
  have e2 : a * (-B) ≤ a * b := Int.mul_le_mul_of_nonneg_left h2 h0
  have e3 : a * B ≤ A * B := Int.mul_le_mul_of_nonneg_right h1 hB
  rw [Int.mul_neg] at e2
  omega

theorem getD_bd {l : List Int} {m : Int} (h : l.all (okNum m) = true) (hm : 0 ≤ m) (i : Nat) : -m ≤ l.getD i 0 ∧ l.getD i 0 ≤ m := by
  rw [List.getD_eq_getElem?_getD]
  by_cases hi : i < l.length
  · rw [List.getElem?_eq_getElem hi]
    have := List.all_eq_true.1 h _ (List.getElem_mem hi)
    simpa [okNum] using this
  · rw [List.getElem?_eq_none (by omega)]
    simp; omega
theorem get_getD {l : List Int} {i : Nat} (d : Int) (hi : i < l.length) : l[i]? = some (l.getD i d) := by
  rw [List.getD_eq_getElem?_getD, List.getElem?_eq_getElem hi]; rfl
theorem getD_get {α : Type} {l : List α} {i : Nat} (d : α) (hi : i < l.length) : l[i]? = some (l.getD i d) := by
  rw [List.getD_eq_getElem?_getD, List.getElem?_eq_getElem hi]; rfl
/-- The first k of a list are there, what follows is not yet. -/
def fillTo {β : Type} (l : List β) (k : Nat) (z : β) : List β := l.take k ++ List.replicate (l.length - k) z
theorem fillTo_zero {β : Type} (l : List β) (z : β) : fillTo l 0 z = List.replicate l.length z := by simp [fillTo]
theorem fillTo_all {β : Type} (l : List β) (z : β) : fillTo l l.length z = l := by simp [fillTo]
theorem fillTo_len {β : Type} {l : List β} {k : Nat} (z : β) (h : l.length = k) : fillTo l k z = l := by subst h; exact fillTo_all l z
theorem fillTo_set {β : Type} {l : List β} {k : Nat} {z x : β} (h : l[k]? = some x) : (fillTo l k z).set k x = fillTo l (k + 1) z := by
  have hk : k < l.length := (List.getElem?_eq_some_iff.1 h).1
  unfold fillTo
  rw [List.set_append_right _ _ (by simp; omega), List.take_add_one, h]
  have e : l.length - k = (l.length - (k + 1)) + 1 := by omega
  rw [e, List.replicate_succ]
  rw [List.length_take, Nat.min_eq_left (Nat.le_of_lt hk), Nat.sub_self, List.append_assoc]
  rfl
theorem flatMap_ivs (l : List Int) : l.flatMap ivs = l.map (Value.int .i64) := by
  induction l with
  | nil => rfl
  | cons x l ih => rw [List.flatMap_cons, ih]; rfl
theorem Tryz.infoInt : (Tryz.prog.info? 3).map (fun i => (i.zero, i.size, i.bytes)) = some (some (.int .i64 0), 1, 8) := by kernel_rfl
/-- A slice and an error, as a function hands them back. -/
def RetSl {α : Type} (s : Nat) (enc : α → List Value) (r : List α × Int) (w : World) (e : Ending) (w' : World) : Prop :=
  ∃ O no co, e = .returned (.tuple #[.slice O no co, .int .i64 r.2]) ∧ SlAt w' w.heap.size s enc O no co r.1 ∧ Below w.heap.size w w'
theorem RetSl.none_ {α : Type} {s : Nat} {enc : α → List Value} {er : Int} {w w' : World} (hb : Below w.heap.size w w') : RetSl s enc (([] : List α), er) w (.returned (.tuple #[.slice none 0 0, .int .i64 er])) w' :=
  ⟨none, 0, 0, rfl, SlAt.nil _ _ _ _, hb⟩
theorem grownBy_setCell (w : World) (p : Addr) (u : Value) : w.grownBy (w.setCell p u) (some p.block) :=
  ⟨rfl, rfl, rfl, by simp [World.setCell], fun k _ hk => Below.heap_setCell w p u k (fun e => hk (by rw [e]))⟩
theorem ownsRow_setCell {w : World} {base : Nat} {e : TypeId} {size : Nat} {v : Value} {n : Nat} {xs : List Value} (h : w.ownsRow base e size v n xs) {p : Addr} (hp : v.ownBlock ≠ some p.block) (u : Value) : (w.setCell p u).ownsRow base e size v n xs :=
  h.kept (grownBy_setCell w p u) (.inr hp)
theorem flatMap_set2 : ∀ (l : List Bnd) (k : Nat) (x : Bnd), ((l.flatMap Bnd.cells).set (k * 2) (.int .i64 x.lo)).set (k * 2 + 1) (.int .i64 x.hi) = (l.set k x).flatMap Bnd.cells
  | [], k, x => by simp
  | y :: l, 0, x => by simp [Bnd.cells, List.flatMap_cons]
  | y :: l, k + 1, x => by
    rw [sS, List.flatMap_cons, List.flatMap_cons, ← flatMap_set2 l k x]
    simp only [Bnd.cells, List.cons_append, List.nil_append]
    rw [show (k + 1) * 2 = k * 2 + 1 + 1 from by omega]
    rw [sS, sS, sS, sS]
theorem madeCells_bnd (n : Nat) : (madeCells (Value.agg #[.int .i64 0, .int .i64 0]).cells (n * 2)).toList = (List.replicate n (⟨0, 0⟩ : Bnd)).flatMap Bnd.cells := by
  apply List.ext_getElem?
  intro j
  have e : (List.replicate n (⟨0, 0⟩ : Bnd)).flatMap Bnd.cells = List.replicate (n * 2) (.int .i64 0) := by
    induction n with
    | zero => rfl
    | succ n ih => rw [List.replicate_succ, List.flatMap_cons, ih, show (n + 1) * 2 = n * 2 + 1 + 1 from by omega, List.replicate_succ, List.replicate_succ]; rfl
  rw [e]
  by_cases hj : j < n * 2
  · have hm : j % 2 = 0 ∨ j % 2 = 1 := by omega
    rcases hm with hm | hm <;> simp [madeCells, hj, hm, Value.cells]
  · simp [madeCells, hj]
theorem Tryz.infoBnd : (Tryz.prog.info? 26).map (fun i => (i.zero, i.size, i.bytes)) = some (some (.agg #[.int .i64 0, .int .i64 0]), 2, 16) := by kernel_rfl

theorem ownsRow_base {w : World} {base base' : Nat} {e : TypeId} {size : Nat} {v : Value} {n : Nat} {xs : List Value} (h : w.ownsRow base e size v n xs) (hb : base' ≤ base) : w.ownsRow base' e size v n xs := by
  refine ⟨h.1, ?_⟩
  rcases h.2 with h2 | ⟨g, cap, cur, hv, hg, r⟩
  · exact .inl h2
  · exact .inr ⟨g, cap, cur, hv, by omega, r⟩
theorem take_succ_eq {α : Type} {xs ys : List α} {k : Nat} {x y : α} (h : xs.take k = ys.take k) (hx : xs[k]? = some x) (hy : ys[k]? = some y) (e : x = y) : xs.take (k + 1) = ys.take (k + 1) := by
  rw [List.take_add_one, List.take_add_one, h, hx, hy, e]
theorem Alike_any (A C : Option Addr) (na ca nb cb B1 B2 : Nat) (xs ys : List Int) (w : World) (h1 : SlAt w B1 1 ivs A na ca xs) (h2 : SlAt w B2 1 ivs C nb cb ys) :
    Calls Tryz.prog 64 #[.slice A na ca, .slice C nb cb] w fun e w' => e = .returned (.bool (decide (xs = ys))) ∧ Below w.heap.size w w' := by
  have hle := h1.le
  have hl1 := Lib.hid h1.len
  have hl2 := Lib.hid h2.len
  by_cases hn : na = nb
  · subst hn
    go_enter Tryz.func64, Tryz.ntmps64
    go_wp2
    go_loopw [5] (fun i wr => ∃ k : Nat, i = .int .i64 k ∧ k ≤ na ∧ xs.take k = ys.take k ∧ Below w.heap.size w wr) (fun i wr => na - (intOf i).toNat)
    case atStart => exact ⟨0, rfl, Nat.zero_le _, rfl, Below.refl _ _⟩
    case round =>
      obtain ⟨k, rfl, hk, ht, hb⟩ := hrel
      by_cases hlt : k < na
      · obtain ⟨x, hx⟩ := some_of_lt hl1.out hlt
        obtain ⟨y, hy⟩ := some_of_lt hl2.out hlt
        obtain ⟨b1, o1, hA1, -, -, e1⟩ := (h1.keep hb.size (fun _ _ h => hb.cell h)).int hx
        obtain ⟨b2, o2, hA2, -, -, e2⟩ := (h2.keep hb.size (fun _ _ h => hb.cell h)).int hy
        have t1 := IntWalk.i64_in ((k : Int) + 1) (by omega)
        have hk0 : (0 : Int) ≤ (k : Int) := by omega
        have hk1 : (k : Int) < (na : Int) := by omega
        replace hx := Lib.hid hx
        replace hy := Lib.hid hy
        replace ht := Lib.hid ht
        subst hA1
        subst hA2
        by_cases hxy : x = y
        · have hxy2 := Lib.hid hxy
          subst hxy
          go_wp2_with fail
          go_quiet (fail)
          go_wp2
          go_roundw
          case rel => exact ⟨k + 1, by go_num, by omega, take_succ_eq ht.out hx.out hy.out rfl, below_drewN hb _⟩
          case measure => simp [intOf]; omega
        · have hne : (x != y) = true := by rw [bne_iff_ne]; exact hxy
          go_wp2_with fail
          go_quiet (fail)
          go_wp2
          go_ret
          refine ⟨ret_bool (Eq.symm (decide_eq_false fun h => ?_)), below_drewN hb _⟩
          subst h
          exact hxy (Option.some.inj (hx.out.symm.trans hy.out))
      · obtain rfl : k = na := by omega
        go_wp2
        go_ret
        refine ⟨ret_bool (Eq.symm (decide_eq_true ?_)), hb⟩
        rw [List.take_of_length_le (by rw [hl1.out]; exact Nat.le_refl _), List.take_of_length_le (by rw [hl2.out]; exact Nat.le_refl _)] at ht
        exact ht
  · have hn' : ¬ ((na : Int) = (nb : Int)) := by omega
    go_enter Tryz.func64, Tryz.ntmps64
    go_wp2
    go_ret
    exact ⟨ret_bool (Eq.symm (decide_eq_false fun h => hn (by rw [← hl1.out, ← hl2.out, h]))), Below.refl _ _⟩
theorem flat_get {α : Type} {enc : α → List Value} {s : Nat} (he : ∀ x, (enc x).length = s) : ∀ (xs : List α) (k : Nat) (x : α) (j : Nat) (u : Value), xs[k]? = some x → (enc x)[j]? = some u → (xs.flatMap enc)[k * s + j]? = some u
  | [], k, x, j, u, hk, _ => by simp at hk
  | y :: xs, 0, x, j, u, hk, hu => by
    simp at hk; subst hk
    have hj : j < s := by rw [← he y]; exact (List.getElem?_eq_some_iff.1 hu).1
    rw [List.flatMap_cons, List.getElem?_append_left (by rw [he]; omega)]
    simpa using hu
  | y :: xs, k + 1, x, j, u, hk, hu => by
    rw [List.flatMap_cons, List.getElem?_append_right (by rw [he, Nat.add_mul]; omega)]
    rw [he, show (k + 1) * s + j - s = k * s + j from by rw [Nat.add_mul]; omega]
    exact flat_get he xs k x j u (by simpa using hk) hu
theorem SlAt.of_blk {α : Type} {enc : α → List Value} {s : Nat} {w : World} {g : Nat} {t : TypeId} {cs : Array Value} (h : Blk w g t cs) (he : ∀ x, (enc x).length = s) (xs : List α) (hc : cs.toList = xs.flatMap enc) (hn : xs.length ≤ 17592186044416) :
    SlAt w g s enc (some ⟨g, 0, none⟩) xs.length xs.length xs :=
  ⟨rfl, Nat.le_refl _, hn, fun _ => ⟨g, 0, rfl, Nat.le_refl _, h.lt, fun k x hx j v hv => by
    rw [Nat.zero_add, h.cell]
    have := flat_get he xs k x j v hx hv
    rw [← hc] at this
    simpa using this⟩⟩
theorem flip_w {P : Program} {f : FuncId} {args : Array Value} {w : World} {v : Value} (h : Calls P f args w fun e w' => e = .returned v ∧ w = w') : Calls P f args w fun e w' => e = .returned v ∧ w' = w :=
  h.mono fun _ _ h => ⟨h.1, h.2.symm⟩
theorem Between_any (n lo hi : Int) (w : World) :
    Calls Tryz.prog 7 #[.int .i64 n, .int .i64 lo, .int .i64 hi] w fun e w' => e = .returned (.bool (decide (lo ≤ n ∧ n ≤ hi))) ∧ w = w' := by
  by_cases h : lo ≤ n
  · go_enter Tryz.func7, Tryz.ntmps7
    go_wp2
    go_ret
    simp [h]
  · go_enter Tryz.func7, Tryz.ntmps7
    go_wp2
    go_ret
    simp; omega
end Go.Proofs.YtcmbmmpihiekhaaGreat
