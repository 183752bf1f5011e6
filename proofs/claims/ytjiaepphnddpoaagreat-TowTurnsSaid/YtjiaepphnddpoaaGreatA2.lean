/-
  The chapter's own streamer and bounds.
-/
import Derived.Test.YtjiaepphnddpoaaGreatW3
namespace Go.Proofs.YtjiaepphnddpoaaGreat
open Go.RowKit Go.Shelf
theorem flat_get {α : Type} {enc : α → List Value} {s : Nat} (he : ∀ x, (enc x).length = s) : ∀ (xs : List α) (k : Nat) (x : α) (j : Nat) (u : Value), xs[k]? = some x → (enc x)[j]? = some u → (xs.flatMap enc)[k * s + j]? = some u
  | [], k, x, j, u, hk, _ => by simp at hk
  | y :: xs, 0, x, j, u, hk, hu => by
    simp at hk; subst hk
    have hj : j < s := by rw [← he y]; exact (List.getElem?_eq_some_iff.1 hu).1
    rw [List.flatMap_cons, List.getElem?_append_left (by rw [he]; omega)]
    simpa using hu
  | y :: xs, k + 1, x, j, u, hk, hu => by
    rw [List.flatMap_cons, List.getElem?_append_right (by rw [he, Nat.add_mul]; omega)]
    rw [he, show (k + 1) * s + j - s = k * s + j from by rw [Nat.add_mul]; omega]
    exact flat_get he xs k x j u (by simpa using hk) hu
theorem SlAt.of_blk {α : Type} {enc : α → List Value} {s : Nat} {w : World} {g : Nat} {t : TypeId} {cs : Array Value} (h : Blk w g t cs) (he : ∀ x, (enc x).length = s) (xs : List α) (hc : cs.toList = xs.flatMap enc) (hn : xs.length ≤ 17592186044416) :
    SlAt w g s enc (some ⟨g, 0, none⟩) xs.length xs.length xs :=
  ⟨rfl, Nat.le_refl _, hn, fun _ => ⟨g, 0, rfl, Nat.le_refl _, h.lt, fun k x hx j v hv => by
    rw [Nat.zero_add, h.cell]
    have := flat_get he xs k x j v hx hv
    rw [← hc] at this
    simpa using this⟩⟩
theorem first_any (w : World) : Calls Tryz.prog 47 #[] w fun e w' => ∃ A, e = .returned (.slice A 2 2) ∧ SlAt w' w.heap.size 2 Bnd.cells A 2 2 [⟨10, 10⟩, ⟨20, 24⟩] ∧ Below w.heap.size w w' := by
  go_enter Tryz.func47, Tryz.ntmps47
  go_wp2
  go_ret
  exact ⟨_, rfl, SlAt.of_blk (enc := Bnd.cells) (s := 2) (Blk.new w 24 #[.int .i64 10, .int .i64 10, .int .i64 20, .int .i64 24]) (fun _ => rfl) [⟨10, 10⟩, ⟨20, 24⟩] rfl (by decide), (Below.refl _ _).alloc (Nat.le_refl _) _⟩
theorem after_any (w : World) : Calls Tryz.prog 46 #[] w fun e w' => ∃ A, e = .returned (.slice A 2 2) ∧ SlAt w' w.heap.size 2 Bnd.cells A 2 2 [⟨4, 7⟩, ⟨16, 20⟩] ∧ Below w.heap.size w w' := by
  go_enter Tryz.func46, Tryz.ntmps46
  go_wp2
  go_ret
  exact ⟨_, rfl, SlAt.of_blk (enc := Bnd.cells) (s := 2) (Blk.new w 24 #[.int .i64 4, .int .i64 7, .int .i64 16, .int .i64 20]) (fun _ => rfl) [⟨4, 7⟩, ⟨16, 20⟩] rfl (by decide), (Below.refl _ _).alloc (Nat.le_refl _) _⟩
def cable0 : Strm := { head := 0, secs := [⟨100, 32, 0, 2, 5000⟩, ⟨100, 16, 5, 3, 3000⟩], lane := ⟨-20, 20⟩, bend := 30 }
set_option maxRecDepth 100000 in
theorem cable_any (w : World) : Calls Tryz.prog 42 #[] w fun e w' => ∃ A, e = .returned (.agg #[.int .i64 0, .slice A 2 2, .int .i64 (-20), .int .i64 20, .int .i64 30]) ∧ SlAt w' w.heap.size 5 Sec.cells A 2 2 cable0.secs ∧ Below w.heap.size w w' := by
  obtain ⟨wz, hwz⟩ : ∃ x, x = (w.alloc (.cells #[.int .i64 0, .slice (some ⟨w.heap.size + 1, 0, none⟩) 2 2, .int .i64 (-20), .int .i64 20, .int .i64 30] 26)).alloc (.cells #[.int .i64 100, .int .i64 32, .int .i64 0, .int .i64 2, .int .i64 5000, .int .i64 100, .int .i64 16, .int .i64 5, .int .i64 3, .int .i64 3000] 94) := ⟨_, rfl⟩
  have k0 : Blk wz w.heap.size 26 #[.int .i64 0, .slice (some ⟨w.heap.size + 1, 0, none⟩) 2 2, .int .i64 (-20), .int .i64 20, .int .i64 30] := by rw [hwz]; exact (Blk.new w _ _).alloc _
  have k1 : Blk wz (w.heap.size + 1) 94 #[.int .i64 100, .int .i64 32, .int .i64 0, .int .i64 2, .int .i64 5000, .int .i64 100, .int .i64 16, .int .i64 5, .int .i64 3, .int .i64 3000] := by
    rw [hwz]; have := Blk.new (w.alloc (.cells #[.int .i64 0, .slice (some ⟨w.heap.size + 1, 0, none⟩) 2 2, .int .i64 (-20), .int .i64 20, .int .i64 30] 26)) 94 #[.int .i64 100, .int .i64 32, .int .i64 0, .int .i64 2, .int .i64 5000, .int .i64 100, .int .i64 16, .int .i64 5, .int .i64 3, .int .i64 3000]; rwa [World.size_alloc] at this
  have b1 : Below w.heap.size w wz := by rw [hwz]; exact ((Below.refl _ _).alloc (Nat.le_refl _) _).alloc (by simp) _
  go_enter Tryz.func42, Tryz.ntmps42
  go_wp2
  rw [← hwz]
  clear hwz
  obtain ⟨c0, f0, l0⟩ := k0.rules
  exact bodyPost_ret (v := .agg #[.int .i64 0, .slice (some ⟨w.heap.size + 1, 0, none⟩) 2 2, .int .i64 (-20), .int .i64 20, .int .i64 30]) (by simp [results, Tryz.results42, go_sem, c0]) rfl
    ⟨_, rfl, (SlAt.of_blk (enc := Sec.cells) (s := 5) k1 (fun _ => rfl) cable0.secs rfl (by decide)).mono (Nat.le_succ _), b1⟩
end Go.Proofs.YtjiaepphnddpoaaGreat
