/-
  A list of one's own, an empty one too; the first of a slice.
-/
import Derived.Test.YtfengddpfeneiaaI2
namespace Go.Proofs.Ytfengddpfeneiaa
open Go.RowKit Go.Shelf
set_option linter.unusedSimpArgs false
set_option linter.unusedVariables false

theorem SlAt.takeQ {α : Type} {w : World} {B s : Nat} {enc : α → List Value} {A : Option Addr} {n c : Nat} {xs : List α} (h : SlAt w B s enc A n c xs) {N : Nat} (hN : N ≤ n) : SlAt w B s enc A N c (xs.take N) := by
  refine ⟨by rw [List.length_take, h.1]; omega, Nat.le_trans hN h.2.1, Nat.le_trans hN h.2.2.1, fun h0 => ?_⟩
  obtain ⟨b, off, hA, hB, hb, hc⟩ := h.2.2.2 (by omega)
  refine ⟨b, off, hA, hB, hb, fun k x hk => hc k x ?_⟩
  have hl := (List.getElem?_eq_some_iff.1 hk).1
  rw [List.length_take] at hl
  rwa [List.getElem?_take_of_lt (by omega)] at hk
set_option maxRecDepth 100000 in
set_option maxHeartbeats 1000000 in
theorem OwnQ_any (l : List Int) (A : Option Addr) (n c B : Nat) (w : World) (hn : n ≤ 1000000) (hs : SlAt w B 1 ivs A n c l) :
    Calls Try.prog 62 #[.slice A n c] w fun e w' => ∃ v, e = .returned v ∧ w'.ownsRow w.heap.size 3 1 v n (l.map (.int .i64 ·)) ∧ Below w.heap.size w w' := by
  have hl := Lib.hid hs.len
  by_cases hn0 : 0 < n
  · obtain ⟨b, off, hA, -, hbl, hc⟩ := hs.2.2.2 hn0
    have hnews : Hid (∀ (j : Nat) (u : Value), (l.map (Value.int .i64 ·))[j]? = some u → w.cell? ((⟨b, off, none⟩ : Addr).add j) = some u) := by
      show ∀ _ _, _
      intro j u hu
      rw [List.getElem?_map] at hu
      cases hx : l[j]? with
      | none => rw [hx] at hu; cases hu
      | some x =>
        rw [hx] at hu
        cases hu
        have := hc j x hx 0 (.int .i64 x) rfl
        rw [show (⟨b, off, none⟩ : Addr).add j = ⟨b, off + j, none⟩ from by unfold Addr.add; split <;> simp_all]
        simpa using this
    have hlen : Hid ((l.map (Value.int .i64 ·)).length = n * 1) := by show _ = _; rw [List.length_map, hl.out, Nat.mul_one]
    have hone : Hid (∀ u ∈ l.map (Value.int .i64 ·), u.oneCell' = true) := by
      show ∀ _ _, _
      intro u hu
      obtain ⟨x, _, rfl⟩ := List.mem_map.1 hu
      rfl
    have hbig1 : Hid (0 + n ≤ maxLen) := by show 0 + n ≤ maxLen; unfold maxLen; omega
    have hbig2 : Hid ((0 + n) * 8 ≤ 140737488355328) := by show (0 + n) * 8 ≤ 140737488355328; omega
    obtain ⟨i0, hi0, hz0, hz1, hz2⟩ := info_parts Try.infoInt
    have hown : w.ownsRow w.heap.size 3 1 (.slice none 0 0) 0 [] := ⟨rfl, .inl ⟨rfl, rfl⟩⟩
    subst hA
    clear hc
    go_enter Try.func62, Try.ntmps62
    go_wp2_with (at_builtin; refine wpList_append_lies _ rfl (.tmp 4) (.tmp 5) 22 rfl w.heap.size 3 i0 (.int .i64 0) 1 8 Try.underlying22 hi0 hz0 hz1 hz2 rfl (by decide) (.slice none 0 0) 0 [] rfl hown ⟨b, off, none⟩ n c (l.map (.int .i64 ·)) rfl hlen.out hnews.out hone.out hn0 hbig1.out hbig2.out (Nat.le_refl _) w.heap.size rfl ?_; intro g cap w7 hown7 hgrow hlies hlt7)
    go_ret
    have hbg : Below w.heap.size w w7 := ⟨hgrow.os, hgrow.tape, hgrow.output, hgrow.size, fun b hb2 => hgrow.block b hb2 (fun e => by cases e)⟩
    refine ⟨_, rfl, ?_, hbg⟩
    rw [Nat.zero_add, List.nil_append] at hown7
    exact hown7
  · obtain rfl : n = 0 := by omega
    obtain rfl : l = [] := List.length_eq_zero_iff.1 hl.out
    have hpure : ∀ (W : World), (pure (#[] : Array Value) : Sem (Array Value)).run Try.prog W = .ok #[] W := fun _ => rfl
    cases A with
    | none =>
      go_enter Try.func62, Try.ntmps62
      go_wp2_with fail
      go_ret
      exact ⟨_, rfl, ⟨rfl, .inl ⟨rfl, rfl⟩⟩, Below.refl _ _⟩
    | some a =>
      go_enter Try.func62, Try.ntmps62
      go_wp2_with fail
      go_ret
      exact ⟨_, rfl, ⟨rfl, .inl ⟨rfl, rfl⟩⟩, Below.refl _ _⟩
end Go.Proofs.Ytfengddpfeneiaa
