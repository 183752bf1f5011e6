/-
  Lists of rows in memory, a list of one's own: what several walks share.
-/
import Derived.Test.YtfengddpfeneiaaGreatI1
import Derived.Deep.AppendLies
namespace Go.Proofs.YtfengddpfeneiaaGreat
open Go.RowKit Go.Shelf
set_option linter.unusedSimpArgs false
set_option linter.unusedVariables false

theorem flatInvQ {α : Type} {enc : α → List Value} {s : Nat} (he : ∀ x, (enc x).length = s) : ∀ (xs : List α) (j : Nat) (u : Value), (xs.flatMap enc)[j]? = some u → ∃ k x r, xs[k]? = some x ∧ (enc x)[r]? = some u ∧ j = k * s + r
  | [], j, u, h => by simp at h
  | x :: xs, j, u, h => by
    rw [List.flatMap_cons] at h
    by_cases hj : j < s
    · rw [List.getElem?_append_left (by rw [he]; exact hj)] at h
      exact ⟨0, x, j, rfl, h, by omega⟩
    · rw [List.getElem?_append_right (by rw [he]; omega), he] at h
      obtain ⟨k, y, r, h1, h2, h3⟩ := flatInvQ he xs (j - s) u h
      exact ⟨k + 1, y, r, h1, h2, by rw [Nat.add_mul]; omega⟩
theorem flatSetQ {α : Type} {enc : α → List Value} {s : Nat} (he : ∀ x, (enc x).length = s) {x y : α} {j : Nat} {u : Value} (hj : j < s) (hy : enc y = (enc x).set j u) : ∀ (xs : List α) (k : Nat), xs[k]? = some x → (xs.flatMap enc).set (k * s + j) u = (xs.set k y).flatMap enc
  | [], k, h => by simp at h
  | z :: xs, 0, h => by
    simp at h; subst h
    rw [List.set_cons_zero, List.flatMap_cons, List.flatMap_cons, hy, Nat.zero_mul, Nat.zero_add, List.set_append_left _ _ (by rw [he]; exact hj)]
  | z :: xs, k + 1, h => by
    rw [List.set_cons_succ, List.flatMap_cons, List.flatMap_cons, List.set_append_right _ _ (by rw [he, Nat.add_mul]; omega), he, show (k + 1) * s + j - s = k * s + j from by rw [Nat.add_mul]; omega, flatSetQ he hj hy xs k (by simpa using h)]
theorem SlAt.newsQ {α : Type} {w : World} {B s : Nat} {enc : α → List Value} {n c b off : Nat} {xs : List α} (he : ∀ x, (enc x).length = s) (h : SlAt w B s enc (some ⟨b, off, none⟩) n c xs) (hn : 0 < n) : ∀ (j : Nat) (u : Value), (xs.flatMap enc)[j]? = some u → w.cell? ((⟨b, off, none⟩ : Addr).add j) = some u := by
  intro j u hu
  obtain ⟨k, x, r, h1, h2, rfl⟩ := flatInvQ he xs j u hu
  obtain ⟨b', off', hA, -, -, hc⟩ := h.2.2.2 hn
  simp only [Option.some.injEq, Addr.mk.injEq] at hA
  obtain ⟨rfl, rfl, -⟩ := hA
  have e : (⟨b, off, none⟩ : Addr).add (k * s + r) = ⟨b, off + (k * s + r), none⟩ := by unfold Addr.add; split <;> simp_all
  rw [e]
  exact hc k x h1 r u h2
theorem SlAt.ownQ {α : Type} {enc : α → List Value} {s : Nat} {w : World} {base : Nat} {e : TypeId} {g n pc : Nat} {ys : List Value} (h : w.ownsRow base e s (.slice (some ⟨g, 0, none⟩) n pc) n ys) (hn : n ≤ 17592186044416) (xs : List α) (hx : ys = xs.flatMap enc) (he : ∀ x, (enc x).length = s) (hl : xs.length = n) :
    SlAt w base s enc (some ⟨g, 0, none⟩) n pc xs := by
  obtain ⟨A, c, e1, h1⟩ := SlAt.of_own h hn xs hx he hl
  simp only [Value.slice.injEq] at e1
  obtain ⟨rfl, -, rfl⟩ := e1
  exact h1
theorem flatLenQ {α : Type} {enc : α → List Value} {s : Nat} (he : ∀ x, (enc x).length = s) (xs : List α) : (xs.flatMap enc).length = xs.length * s := by
  induction xs with
  | nil => simp
  | cons x xs ih => rw [List.flatMap_cons, List.length_append, ih, he, List.length_cons, Nat.add_mul]; omega
/-- Some elements new, the others as they were. -/
theorem mixGetQ {α : Type} {xs ys : List α} {k : Nat} (hx : k ≤ xs.length) (hl : xs.length = ys.length) {i : Nat} (hi : k ≤ i) : (xs.take k ++ ys.drop k)[i]? = ys[i]? := by
  rw [List.getElem?_append_right (by rw [List.length_take]; omega), List.length_take, List.getElem?_drop]
  rw [show k + (i - min k xs.length) = i by omega]
theorem mixSetQ {α : Type} {xs ys : List α} {k : Nat} {x : α} (hl : xs.length = ys.length) (hk : k < xs.length) (h : xs[k]? = some x) : (xs.take k ++ ys.drop k).set k x = xs.take (k + 1) ++ ys.drop (k + 1) := by
  refine List.ext_getElem? fun i => ?_
  rw [List.getElem?_set]
  have hll : (xs.take k ++ ys.drop k).length = xs.length := by simp; omega
  by_cases hi : k = i
  · subst hi
    rw [if_pos rfl, if_pos (by omega), List.getElem?_append_left (by simp; omega), List.getElem?_take_of_lt (by omega), h]
  · rw [if_neg hi]
    by_cases hlt : i < k
    · rw [List.getElem?_append_left (by simp; omega), List.getElem?_append_left (by simp; omega), List.getElem?_take_of_lt (by omega), List.getElem?_take_of_lt (by omega)]
    · rw [mixGetQ (by omega) hl (by omega), mixGetQ (by omega) hl (by omega)]
theorem setSameQ {α : Type} {xs : List α} {k : Nat} {x : α} (h : xs[k]? = some x) : xs.set k x = xs := by
  refine List.ext_getElem? fun i => ?_
  rw [List.getElem?_set]
  by_cases hi : k = i
  · subst hi
    rw [if_pos rfl, if_pos (List.getElem?_eq_some_iff.1 h).1, h]
  · rw [if_neg hi]
theorem ints_set {l : List Int} {k : Nat} {x y : Int} (h : l[k]? = some x) : (l.flatMap ivs).set k (.int .i64 y) = (l.set k y).flatMap ivs := by
  have := flatSetQ (enc := ivs) (s := 1) (fun _ => rfl) (x := x) (y := y) (j := 0) (u := .int .i64 y) (by omega) rfl l k h
  simpa using this
theorem ints_one (l : List Int) : ∀ u ∈ l.flatMap ivs, u.oneCell' = true := by
  intro u hu
  obtain ⟨x, -, hx⟩ := List.mem_flatMap.1 hu
  simp [ivs] at hx
  subst hx; rfl
theorem ownEmpty (w : World) (e : TypeId) (s : Nat) : (w.alloc (.cells #[] e)).ownsRow w.heap.size e s (.slice (some ⟨w.heap.size, 0, none⟩) 0 0) 0 [] := by
  refine ⟨by simp, .inr ⟨w.heap.size, 0, #[], rfl, Nat.le_refl _, World.alloc_heap_new w _, Nat.le_refl _, by unfold maxLen; omega, by simp, by simp⟩⟩
set_option maxRecDepth 100000 in
set_option maxHeartbeats 1000000 in
theorem CloneI_any (l : List Int) (A : Option Addr) (n c B : Nat) (w : World) (hn : n ≤ 1000000) (hs : SlAt w B 1 ivs A n c l) :
    Calls Tryz.prog 94 #[.slice A n c] w fun e w' => ∃ v, e = .returned v ∧ w'.ownsRow w.heap.size 3 1 v n (l.flatMap ivs) ∧ Below w.heap.size w w' := by
  have hl := Lib.hid hs.len
  by_cases hn0 : 0 < n
  · obtain ⟨b, off, hA, -, hbl, -⟩ := hs.2.2.2 hn0
    subst hA
    have hown := ownEmpty w 3 1
    have hbf := (Below.refl w.heap.size w).alloc (Nat.le_refl _) (.cells #[] 3)
    have hnews := Lib.hid (SlAt.newsQ (enc := ivs) (s := 1) (fun _ => rfl) (hs.alloc (.cells #[] 3)) hn0)
    have hlen : Hid ((l.flatMap ivs).length = n * 1) := by show _ = _; rw [flatLenQ (s := 1) (fun _ => rfl), hl.out]
    have hone := Lib.hid (ints_one l)
    have hbig1 : Hid (0 + n ≤ maxLen) := by show 0 + n ≤ maxLen; unfold maxLen; omega
    have hbig2 : Hid ((0 + n) * 8 ≤ 140737488355328) := by show (0 + n) * 8 ≤ 140737488355328; omega
    obtain ⟨i0, hi0, hz0, hz1, hz2⟩ := info_parts Tryz.infoInt
    clear hs
    have hnil := fun W => Lib.run_eql_slice_nil (P := Tryz.prog) W 36 3 (some ⟨b, off, none⟩) n c 0 0 Tryz.underlying36
    simp only [Option.isNone_some] at hnil
    go_enter Tryz.func94, Tryz.ntmps94
    go_wp2_with (at_builtin; refine wpList_append_lies _ rfl (.tmp 5) (.tmp 6) 36 rfl w.heap.size 3 i0 (.int .i64 0) 1 8 Tryz.underlying36 hi0 hz0 hz1 hz2 rfl (by decide) (.slice (some ⟨w.heap.size, 0, none⟩) 0 0) 0 [] rfl hown ⟨b, off, none⟩ n c (l.flatMap ivs) rfl hlen.out hnews.out hone.out hn0 hbig1.out hbig2.out hbf.size (w.heap.size + 1) (by simp) ?_; intro g cap w7 hown7 hgrow hlies hlt7)
    go_ret
    have hbg : Below w.heap.size _ w7 := ⟨hgrow.os, hgrow.tape, hgrow.output, hgrow.size, fun b hb2 => hgrow.block b (Nat.lt_of_lt_of_le hb2 hbf.size) (fun e => by have := (hown.lt _ e.symm).1; omega)⟩
    refine ⟨_, rfl, ?_, hbf.trans hbg⟩
    rw [Nat.zero_add, List.nil_append] at hown7
    exact hown7
  · obtain rfl : n = 0 := by omega
    obtain rfl : l = [] := List.length_eq_zero_iff.1 hl.out
    have hnil := fun W A => Lib.run_eql_slice_nil (P := Tryz.prog) W 36 3 A 0 c 0 0 Tryz.underlying36
    cases A with
    | none =>
      have hnil := fun W => hnil W none
      simp only [Option.isNone_none] at hnil
      go_enter Tryz.func94, Tryz.ntmps94
      go_wp2_with fail
      go_ret
      exact ⟨_, rfl, ⟨rfl, .inl ⟨rfl, rfl⟩⟩, Below.refl _ _⟩
    | some a =>
      have hnil := fun W => hnil W (some a)
      simp only [Option.isNone_some] at hnil
      go_enter Tryz.func94, Tryz.ntmps94
      go_wp2_with fail
      go_ret
      exact ⟨_, rfl, ownEmpty w _ 1, (Below.refl _ _).alloc (Nat.le_refl _) _⟩
theorem wp_make_fullQ {P : Program} (w : World) {o : Oper} {a : Act} {K : Act → World → Prop} {Q : Exit → Act → World → Prop} (l c : Operand) (t : TypeId) (hop : o.op = Op.makeSlice t l c)
    (base : Nat) (e : TypeId) (i : TypeInfo) (z : Value) (size : Nat) (h1 : P.underlying t = some (.slice e)) (h2 : P.info? e = some i) (h3 : i.zero = some z) (h4 : i.size = size)
    (kl kc : IntKind) (L C : Int) (n : Nat) (hl : a.eval l = .int kl L) (hc : a.eval c = .int kc C) (hL : L = (n : Int)) (hC : C = (n : Int)) (b2 : i.bytes * n ≤ 281474976710656) (b3 : n ≤ maxLen) (b4 : base ≤ w.heap.size)
    (hK : ∀ w', w'.ownsRow base e size (.slice (some ⟨w.heap.size, 0, none⟩) n n) n (madeCells z.cells (n * size)).toList → w.grownBy w' none → K (a.put o.dst (.slice (some ⟨w.heap.size, 0, none⟩) n n)) w') :
    o.wp P a w K Q := by
  obtain ⟨w', hrun, r1, r2⟩ := run_make_full (P := P) w base t e i z size h1 h2 h3 h4 kl kc n b2 b3 b4
  subst hL
  subst hC
  unfold Oper.wp
  simp [execOp, hop, hl, hc, hrun, Result.andThen]
  exact hK w' r1 r2
/-! Lists of truth values. -/
def bvs (x : Bool) : List Value := [.bool x]
theorem SlAt.boo {w : World} {B n c k : Nat} {A : Option Addr} {xs : List Bool} {x : Bool} (h : SlAt w B 1 bvs A n c xs) (hk : xs[k]? = some x) :
    ∃ b off, A = some ⟨b, off, none⟩ ∧ B ≤ b ∧ b < w.heap.size ∧ w.cell? ⟨b, off + k, none⟩ = some (.bool x) := by
  obtain ⟨b, off, hA, hB, hb, hc⟩ := h.at_ hk
  refine ⟨b, off, hA, hB, hb, ?_⟩
  have := hc 0 _ rfl
  simpa using this
theorem bvs_map (l : List Bool) : l.flatMap bvs = l.map Value.bool := by
  induction l with
  | nil => rfl
  | cons x l ih => rw [List.flatMap_cons, ih]; rfl
theorem madeCells_bool (n : Nat) : (madeCells (Value.bool false).cells (n * 1)).toList = (List.replicate n false).map Value.bool := by
  apply List.ext_getElem?
  intro j
  rw [List.map_replicate]
  by_cases hj : j < n
  · have hz : j % 1 = 0 := by omega
    simp [madeCells, hj, Value.cells, hz]
  · simp [madeCells, hj]
end Go.Proofs.YtfengddpfeneiaaGreat
