/-
  Shots, walks: the chapter's own array, firing and rules; part of a section.
-/
import Derived.Test.YtfengddpfeneiaaGreatS26
import Derived.Test.YtfengddpfeneiaaGreatS21
import Derived.Test.YtfengddpfeneiaaGreatS19
import Derived.Test.YtfengddpfeneiaaGreatS16
import Derived.Test.YtfengddpfeneiaaGreatS15
import Derived.Test.YtfengddpfeneiaaGreatS12
import Derived.Test.YtfengddpfeneiaaGreatS11
import Derived.Test.YtfengddpfeneiaaGreatS8
import Derived.Test.YtfengddpfeneiaaGreatQ11
namespace Go.Proofs.YtfengddpfeneiaaGreat
open Go.RowKit Go.Shelf
set_option linter.unusedSimpArgs false
set_option linter.unusedVariables false

theorem SlAt.subL {α : Type} {w : World} {B s n c b off : Nat} {enc : α → List Value} {xs : List α} (h : SlAt w B s enc (some ⟨b, off, none⟩) n c xs) (i m : Nat) (hm : i + m ≤ n) :
    SlAt w B s enc (some ⟨b, off + i * s, none⟩) m (c - i) ((xs.drop i).take m) := by
  obtain ⟨h1, h2, h3, h4⟩ := h
  refine ⟨by rw [List.length_take, List.length_drop]; omega, by omega, by omega, fun hn => ?_⟩
  obtain ⟨b', off', hA, hB, hb, hc⟩ := h4 (by omega)
  simp only [Option.some.injEq, Addr.mk.injEq, and_true] at hA
  obtain ⟨rfl, rfl⟩ := hA
  refine ⟨_, _, rfl, hB, hb, fun k x hx j v hv => ?_⟩
  rw [List.getElem?_take] at hx
  split at hx
  · rw [List.getElem?_drop] at hx
    have := hc (i + k) x hx j v hv
    rw [Nat.add_mul] at this
    rw [show off + i * s + (k * s + j) = off + (i * s + k * s + j) from by omega]
    exact this
  · cases hx
theorem lls2 {w : World} {g a b : Nat} (h : Blk w g 36 #[.slice (some ⟨a, 0, none⟩) 1 1, .slice (some ⟨b, 0, none⟩) 1 1]) {x y : Int} (h1 : SlAt w 0 1 ivs (some ⟨a, 0, none⟩) 1 1 [x]) (h2 : SlAt w 0 1 ivs (some ⟨b, 0, none⟩) 1 1 [y]) : LLs w 0 (some ⟨g, 0, none⟩) 2 2 [[x], [y]] := by
  refine ⟨rfl, [.slice (some ⟨a, 0, none⟩) 1 1, .slice (some ⟨b, 0, none⟩) 1 1], (SlAt.of_blk (enc := fun v => [v]) (s := 1) h (fun _ => rfl) _ rfl (by simp)).mono (Nat.zero_le _), fun i v l hv hl => ?_⟩
  match i with
  | 0 => simp at hv hl; subst hv; subst hl; exact ⟨_, _, _, rfl, h1⟩
  | 1 => simp at hv hl; subst hv; subst hl; exact ⟨_, _, _, rfl, h2⟩
  | i + 2 => simp at hv
set_option maxRecDepth 100000 in
theorem gunsE_any (w : World) : Calls Tryz.prog 36 #[] w fun e w' => ∃ S G, e = .returned (.agg #[.slice S 2 2, .slice G 2 2]) ∧ SlAt w' w.heap.size 1 ivs S 2 2 gunsA.sh ∧ SlAt w' w.heap.size 4 Gun.cells G 2 2 gunsA.gs ∧ Below w.heap.size w w' := by
  obtain ⟨wz, hwz⟩ : ∃ x, x = ((w.alloc (.cells #[Value.slice (some ⟨w.heap.size + 1, 0, none⟩) 2 2, .slice (some ⟨w.heap.size + 1 + 1, 0, none⟩) 2 2] 83)).alloc (.cells #[Value.int .i64 4, .int .i64 (-2)] 3)).alloc (.cells #[Value.int .i64 3, .int .i64 0, .int .i64 0, .int .i64 1, .int .i64 1, .int .i64 2, .int .i64 0, .int .i64 0] 163) := ⟨_, rfl⟩
  have k0 : Blk wz w.heap.size 83 #[Value.slice (some ⟨w.heap.size + 1, 0, none⟩) 2 2, .slice (some ⟨w.heap.size + 1 + 1, 0, none⟩) 2 2] := by rw [hwz]; exact ((Blk.new w _ _).alloc _).alloc _
  have k1 : Blk wz (w.heap.size + 1) 3 #[Value.int .i64 4, .int .i64 (-2)] := by
    rw [hwz]; have := (Blk.new (w.alloc (.cells #[Value.slice (some ⟨w.heap.size + 1, 0, none⟩) 2 2, .slice (some ⟨w.heap.size + 1 + 1, 0, none⟩) 2 2] 83)) 3 #[Value.int .i64 4, .int .i64 (-2)]).alloc (.cells #[Value.int .i64 3, .int .i64 0, .int .i64 0, .int .i64 1, .int .i64 1, .int .i64 2, .int .i64 0, .int .i64 0] 163); rwa [World.size_alloc] at this
  have k2 : Blk wz (w.heap.size + 1 + 1) 163 #[Value.int .i64 3, .int .i64 0, .int .i64 0, .int .i64 1, .int .i64 1, .int .i64 2, .int .i64 0, .int .i64 0] := by
    rw [hwz]; have := Blk.new ((w.alloc (.cells #[Value.slice (some ⟨w.heap.size + 1, 0, none⟩) 2 2, .slice (some ⟨w.heap.size + 1 + 1, 0, none⟩) 2 2] 83)).alloc (.cells #[Value.int .i64 4, .int .i64 (-2)] 3)) 163 #[Value.int .i64 3, .int .i64 0, .int .i64 0, .int .i64 1, .int .i64 1, .int .i64 2, .int .i64 0, .int .i64 0]; rwa [World.size_alloc, World.size_alloc] at this
  have b1 : Below w.heap.size w wz := by rw [hwz]; exact (((Below.refl _ _).alloc (Nat.le_refl _) _).alloc (by simp) _).alloc (by simp; omega) _
  go_enter Tryz.func36, Tryz.ntmps36
  go_wp2
  rw [← hwz]
  clear hwz
  obtain ⟨c0, f0, l0⟩ := k0.rules
  exact bodyPost_ret (v := .agg #[Value.slice (some ⟨w.heap.size + 1, 0, none⟩) 2 2, .slice (some ⟨w.heap.size + 1 + 1, 0, none⟩) 2 2]) (by simp [results, Tryz.results36, go_sem, c0]) rfl
    ⟨_, _, rfl, (SlAt.of_blk (enc := ivs) (s := 1) k1 (fun _ => rfl) gunsA.sh rfl (by decide)).mono (Nat.le_succ _), (SlAt.of_blk (enc := Gun.cells) (s := 4) k2 (fun _ => rfl) gunsA.gs rfl (by decide)).mono (by omega), b1⟩
set_option maxRecDepth 100000 in
theorem firing_any (w : World) : Calls Tryz.prog 42 #[] w fun e w' => e = .returned (.agg #[.int .i64 10, .int .i64 5, .int .i64 2, .int .i64 4, .int .i64 4]) ∧ Below w.heap.size w w' := by
  obtain ⟨wz, hwz⟩ : ∃ x, x = w.alloc (.cells #[.int .i64 10, .int .i64 5, .int .i64 2, .int .i64 4, .int .i64 4] 47) := ⟨_, rfl⟩
  have k0 : Blk wz w.heap.size 47 #[.int .i64 10, .int .i64 5, .int .i64 2, .int .i64 4, .int .i64 4] := by rw [hwz]; exact Blk.new w _ _
  have b1 : Below w.heap.size w wz := by rw [hwz]; exact (Below.refl _ _).alloc (Nat.le_refl _) _
  go_enter Tryz.func42, Tryz.ntmps42
  go_wp2
  rw [← hwz]
  clear hwz
  obtain ⟨c0, f0, l0⟩ := k0.rules
  exact bodyPost_ret (v := .agg #[.int .i64 10, .int .i64 5, .int .i64 2, .int .i64 4, .int .i64 4]) (by simp [results, Tryz.results42, go_sem, c0]) rfl ⟨rfl, b1⟩
set_option maxRecDepth 100000 in
theorem rules_any (w : World) : Calls Tryz.prog 48 #[] w fun e w' => e = .returned (.agg #[.int .i64 3, .int .i64 5, .int .i64 3, .int .i64 6]) ∧ Below w.heap.size w w' := by
  obtain ⟨wz, hwz⟩ : ∃ x, x = w.alloc (.cells #[.int .i64 3, .int .i64 5, .int .i64 3, .int .i64 6] 104) := ⟨_, rfl⟩
  have k0 : Blk wz w.heap.size 104 #[.int .i64 3, .int .i64 5, .int .i64 3, .int .i64 6] := by rw [hwz]; exact Blk.new w _ _
  have b1 : Below w.heap.size w wz := by rw [hwz]; exact (Below.refl _ _).alloc (Nat.le_refl _) _
  go_enter Tryz.func48, Tryz.ntmps48
  go_wp2
  rw [← hwz]
  clear hwz
  obtain ⟨c0, f0, l0⟩ := k0.rules
  exact bodyPost_ret (v := .agg #[.int .i64 3, .int .i64 5, .int .i64 3, .int .i64 6]) (by simp [results, Tryz.results48, go_sem, c0]) rfl ⟨rfl, b1⟩
end Go.Proofs.YtfengddpfeneiaaGreat
