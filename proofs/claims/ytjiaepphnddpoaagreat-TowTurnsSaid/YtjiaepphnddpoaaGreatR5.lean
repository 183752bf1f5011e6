/-
  The specification's package: the ends of bounds, and so many times a number.
-/
import Derived.Test.YtjiaepphnddpoaaGreatR3
namespace Go.Proofs.YtjiaepphnddpoaaGreat
open Go.RowKit Go.Shelf
set_option linter.unusedSimpArgs false
set_option linter.unusedVariables false

theorem mapTake_succ {α β : Type} (f : α → β) {l : List α} {k : Nat} {x : α} (hk : l[k]? = some x) : (l.take (k + 1)).map f = (l.take k).map f ++ [f x] := by
  rw [List.take_add_one, hk, List.map_append]; rfl
set_option maxRecDepth 100000 in
set_option maxHeartbeats 1000000 in
theorem Rlows_any (A : Option Addr) (n c B : Nat) (l : List Bnd) (w : World) (hn : n ≤ 1000) (hs : SlAt w B 2 Bnd.cells A n c l) :
    Calls Tryz.prog 152 #[.slice A n c] w fun e w' => ∃ P pc, e = .returned (.slice P n pc) ∧ SlAt w' w.heap.size 1 ivs P n pc (l.map (·.lo)) ∧ Below w.heap.size w w' := by
  have hl := Lib.hid hs.len
  go_enter Tryz.func152, Tryz.ntmps152
  go_wp2_with fail
  go_loopw [3, 4] (fun v i wr => ∃ k : Nat, i = .int .i64 k ∧ k ≤ n ∧ wr.ownsRow w.heap.size 3 1 v k (((l.take k).map (·.lo)).map (.int .i64 ·)) ∧ Below w.heap.size w wr) (fun v i wr => n - (intOf i).toNat)
  case atStart => exact ⟨0, rfl, Nat.zero_le _, ⟨rfl, .inl ⟨rfl, rfl⟩⟩, Below.refl _ _⟩
  case round =>
    obtain ⟨k, rfl, hk, hown, hb⟩ := hrel
    by_cases hlt : k < n
    · obtain ⟨x, hx⟩ := some_of_lt hl.out hlt
      have hnx : Hid (((l.take (k + 1)).map (·.lo)).map (.int .i64 ·) = ((l.take k).map (·.lo)).map (Value.int .i64 ·) ++ [.int .i64 x.lo]) := by show _ = _; rw [mapTake_succ _ hx, List.map_append]; rfl
      obtain ⟨b, off, rfl, -, hbl, c0, c1⟩ := (hs.keep hb.size (fun _ _ h => hb.cell h)).bnd hx
      replace hx := Lib.hid hx
      have hk0 : (0 : Int) ≤ (k : Int) := by omega
      have hk1 : (k : Int) < (n : Int) := by omega
      have hbig1 : Hid (k + 1 ≤ maxLen) := by show k + 1 ≤ maxLen; unfold maxLen; omega
      have hbig2 : Hid ((k + 1) * 8 ≤ 140737488355328) := by show (k + 1) * 8 ≤ 140737488355328; omega
      obtain ⟨i0, hi0, hz0, hz1, hz2⟩ := info_parts Tryz.infoInt
      have hnews : ∀ (j : Nat) (u : Value), ([.int .i64 x.lo] : List Value)[j]? = some u → (wr.alloc (.cells #[.int .i64 x.lo] 3)).cell? ((⟨wr.heap.size, 0, none⟩ : Addr).add j) = some u :=
        World.news_of_block (cs := #[.int .i64 x.lo]) (World.alloc_heap_new wr _)
      have hownf := hown.alloc (.cells #[.int .i64 x.lo] 3)
      have hbf := hb.alloc hb.size (.cells #[.int .i64 x.lo] 3)
      go_wp2_with (at_builtin; refine wpList_append_lies _ rfl (.tmp 11) (.tmp 17) 31 rfl w.heap.size 3 i0 (.int .i64 0) 1 8 Tryz.underlying31 hi0 hz0 hz1 hz2 rfl (by decide) u3 k (((l.take k).map (·.lo)).map (.int .i64 ·)) rfl hownf ⟨wr.heap.size, 0, none⟩ 1 1 [.int .i64 x.lo] rfl rfl hnews (by simp [Value.oneCell']) (by decide) hbig1.out hbig2.out hbf.size (wr.heap.size + 1) (by simp) ?_; intro g cap w7 hown7 hgrow hlies hlt7)
      have hbg : Below w.heap.size _ w7 := ⟨hgrow.os, hgrow.tape, hgrow.output, hgrow.size, fun b hb2 => hgrow.block b (Nat.lt_of_lt_of_le hb2 hbf.size) (fun e => by have := (hownf.lt _ e.symm).1; omega)⟩
      have hbh := hbf.trans hbg
      go_roundw
      case rel =>
        refine ⟨k + 1, by go_num, by omega, ?_, hbh⟩
        rw [hnx.out]
        simpa using hown7
      case measure => simp [intOf]; omega
    · obtain rfl : k = n := by omega
      go_wp2
      go_ret
      have ht : l.take k = l := List.take_of_length_le (by rw [hl.out]; exact Nat.le_refl _)
      rw [ht] at hown
      obtain ⟨P, pc, e2, h2⟩ := SlAt.of_own (enc := ivs) hown (by omega) (l.map (·.lo)) (flatMap_ivs _).symm (fun _ => rfl) (by rw [List.length_map]; exact hl.out)
      exact ⟨P, pc, by rw [e2]; rfl, h2, hb⟩
set_option maxRecDepth 100000 in
set_option maxHeartbeats 1000000 in
theorem Rhighs_any (A : Option Addr) (n c B : Nat) (l : List Bnd) (w : World) (hn : n ≤ 1000) (hs : SlAt w B 2 Bnd.cells A n c l) :
    Calls Tryz.prog 154 #[.slice A n c] w fun e w' => ∃ P pc, e = .returned (.slice P n pc) ∧ SlAt w' w.heap.size 1 ivs P n pc (l.map (·.hi)) ∧ Below w.heap.size w w' := by
  have hl := Lib.hid hs.len
  go_enter Tryz.func154, Tryz.ntmps154
  go_wp2_with fail
  go_loopw [3, 4] (fun v i wr => ∃ k : Nat, i = .int .i64 k ∧ k ≤ n ∧ wr.ownsRow w.heap.size 3 1 v k (((l.take k).map (·.hi)).map (.int .i64 ·)) ∧ Below w.heap.size w wr) (fun v i wr => n - (intOf i).toNat)
  case atStart => exact ⟨0, rfl, Nat.zero_le _, ⟨rfl, .inl ⟨rfl, rfl⟩⟩, Below.refl _ _⟩
  case round =>
    obtain ⟨k, rfl, hk, hown, hb⟩ := hrel
    by_cases hlt : k < n
    · obtain ⟨x, hx⟩ := some_of_lt hl.out hlt
      have hnx : Hid (((l.take (k + 1)).map (·.hi)).map (.int .i64 ·) = ((l.take k).map (·.hi)).map (Value.int .i64 ·) ++ [.int .i64 x.hi]) := by show _ = _; rw [mapTake_succ _ hx, List.map_append]; rfl
      obtain ⟨b, off, rfl, -, hbl, c0, c1⟩ := (hs.keep hb.size (fun _ _ h => hb.cell h)).bnd hx
      replace hx := Lib.hid hx
      have hk0 : (0 : Int) ≤ (k : Int) := by omega
      have hk1 : (k : Int) < (n : Int) := by omega
      have hbig1 : Hid (k + 1 ≤ maxLen) := by show k + 1 ≤ maxLen; unfold maxLen; omega
      have hbig2 : Hid ((k + 1) * 8 ≤ 140737488355328) := by show (k + 1) * 8 ≤ 140737488355328; omega
      obtain ⟨i0, hi0, hz0, hz1, hz2⟩ := info_parts Tryz.infoInt
      have hnews : ∀ (j : Nat) (u : Value), ([.int .i64 x.hi] : List Value)[j]? = some u → (wr.alloc (.cells #[.int .i64 x.hi] 3)).cell? ((⟨wr.heap.size, 0, none⟩ : Addr).add j) = some u :=
        World.news_of_block (cs := #[.int .i64 x.hi]) (World.alloc_heap_new wr _)
      have hownf := hown.alloc (.cells #[.int .i64 x.hi] 3)
      have hbf := hb.alloc hb.size (.cells #[.int .i64 x.hi] 3)
      go_wp2_with (at_builtin; refine wpList_append_lies _ rfl (.tmp 11) (.tmp 17) 31 rfl w.heap.size 3 i0 (.int .i64 0) 1 8 Tryz.underlying31 hi0 hz0 hz1 hz2 rfl (by decide) u3 k (((l.take k).map (·.hi)).map (.int .i64 ·)) rfl hownf ⟨wr.heap.size, 0, none⟩ 1 1 [.int .i64 x.hi] rfl rfl hnews (by simp [Value.oneCell']) (by decide) hbig1.out hbig2.out hbf.size (wr.heap.size + 1) (by simp) ?_; intro g cap w7 hown7 hgrow hlies hlt7)
      have hbg : Below w.heap.size _ w7 := ⟨hgrow.os, hgrow.tape, hgrow.output, hgrow.size, fun b hb2 => hgrow.block b (Nat.lt_of_lt_of_le hb2 hbf.size) (fun e => by have := (hownf.lt _ e.symm).1; omega)⟩
      have hbh := hbf.trans hbg
      go_roundw
      case rel =>
        refine ⟨k + 1, by go_num, by omega, ?_, hbh⟩
        rw [hnx.out]
        simpa using hown7
      case measure => simp [intOf]; omega
    · obtain rfl : k = n := by omega
      go_wp2
      go_ret
      have ht : l.take k = l := List.take_of_length_le (by rw [hl.out]; exact Nat.le_refl _)
      rw [ht] at hown
      obtain ⟨P, pc, e2, h2⟩ := SlAt.of_own (enc := ivs) hown (by omega) (l.map (·.hi)) (flatMap_ivs _).symm (fun _ => rfl) (by rw [List.length_map]; exact hl.out)
      exact ⟨P, pc, by rw [e2]; rfl, h2, hb⟩
theorem rep_succ (x : Int) (k : Nat) : (List.replicate (k + 1) x).map (Value.int .i64 ·) = (List.replicate k x).map (Value.int .i64 ·) ++ [.int .i64 x] := by
  rw [List.replicate_succ', List.map_append]; rfl
set_option maxRecDepth 100000 in
set_option maxHeartbeats 1000000 in
theorem Rsame_any (x : Int) (n : Nat) (w : World) (hn : n ≤ 1000) :
    Calls Tryz.prog 153 #[.int .i64 x, .int .i64 (n : Int)] w fun e w' => ∃ P pc, e = .returned (.slice P n pc) ∧ SlAt w' w.heap.size 1 ivs P n pc (List.replicate n x) ∧ Below w.heap.size w w' := by
  go_enter Tryz.func153, Tryz.ntmps153
  go_wp2_with fail
  go_loopw [5, 6] (fun v i wr => ∃ k : Nat, i = .int .i64 k ∧ k ≤ n ∧ wr.ownsRow w.heap.size 3 1 v k ((List.replicate k x).map (.int .i64 ·)) ∧ Below w.heap.size w wr) (fun v i wr => n - (intOf i).toNat)
  case atStart => exact ⟨0, rfl, Nat.zero_le _, ⟨rfl, .inl ⟨rfl, rfl⟩⟩, Below.refl _ _⟩
  case round =>
    obtain ⟨k, rfl, hk, hown, hb⟩ := hrel
    by_cases hlt : k < n
    · have hnx := Lib.hid (rep_succ x k)
      have hk0 : (0 : Int) ≤ (k : Int) := by omega
      have hk1 : (k : Int) < (n : Int) := by omega
      have hbig1 : Hid (k + 1 ≤ maxLen) := by show k + 1 ≤ maxLen; unfold maxLen; omega
      have hbig2 : Hid ((k + 1) * 8 ≤ 140737488355328) := by show (k + 1) * 8 ≤ 140737488355328; omega
      obtain ⟨i0, hi0, hz0, hz1, hz2⟩ := info_parts Tryz.infoInt
      have hnews : ∀ (j : Nat) (u : Value), ([.int .i64 x] : List Value)[j]? = some u → (wr.alloc (.cells #[.int .i64 x] 3)).cell? ((⟨wr.heap.size, 0, none⟩ : Addr).add j) = some u :=
        World.news_of_block (cs := #[.int .i64 x]) (World.alloc_heap_new wr _)
      have hownf := hown.alloc (.cells #[.int .i64 x] 3)
      have hbf := hb.alloc hb.size (.cells #[.int .i64 x] 3)
      go_wp2_with (at_builtin; refine wpList_append_lies _ rfl (.tmp 12) (.tmp 14) 31 rfl w.heap.size 3 i0 (.int .i64 0) 1 8 Tryz.underlying31 hi0 hz0 hz1 hz2 rfl (by decide) u5 k ((List.replicate k x).map (.int .i64 ·)) rfl hownf ⟨wr.heap.size, 0, none⟩ 1 1 [.int .i64 x] rfl rfl hnews (by simp [Value.oneCell']) (by decide) hbig1.out hbig2.out hbf.size (wr.heap.size + 1) (by simp) ?_; intro g cap w7 hown7 hgrow hlies hlt7)
      have hbg : Below w.heap.size _ w7 := ⟨hgrow.os, hgrow.tape, hgrow.output, hgrow.size, fun b hb2 => hgrow.block b (Nat.lt_of_lt_of_le hb2 hbf.size) (fun e => by have := (hownf.lt _ e.symm).1; omega)⟩
      have hbh := hbf.trans hbg
      go_roundw
      case rel =>
        refine ⟨k + 1, by go_num, by omega, ?_, hbh⟩
        rw [hnx.out]
        simpa using hown7
      case measure => simp [intOf]; omega
    · obtain rfl : k = n := by omega
      go_wp2
      go_ret
      obtain ⟨P, pc, e2, h2⟩ := SlAt.of_own (enc := ivs) hown (by omega) (List.replicate k x) (flatMap_ivs _).symm (fun _ => rfl) (by simp)
      exact ⟨P, pc, by rw [e2]; rfl, h2, hb⟩
end Go.Proofs.YtjiaepphnddpoaaGreat
