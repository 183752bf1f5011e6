/-
  Shots, walks: a way within bounds that numbers choose (for ShotTrue and ShotNarrower).
-/
import Derived.Test.YtfengddpfeneiaaQ14
import Derived.Test.YtfengddpfeneiaaQ15
namespace Go.Proofs.Ytfengddpfeneiaa
open Go.RowKit Go.Shelf
set_option linter.unusedSimpArgs false
set_option linter.unusedVariables false

set_option maxRecDepth 100000 in
set_option maxHeartbeats 2000000 in
theorem truth_any (b : List Bnd) (h0 : okDists b = true) (h2 : okEven b = true) (bits : List Int) (A O : Option Addr) (n c no co B1 B2 : Nat) (w : World) (hs : SlAt w B1 2 Bnd.cells A n c b) (ho : SlAt w B2 1 ivs O no co bits) :
    Calls Try.prog 59 #[.slice A n c, .slice O no co] w fun e w' => ∃ P pc, e = .returned (.slice P n pc) ∧ SlAt w' w.heap.size 1 ivs P n pc (truthL b bits) ∧ Below w.heap.size w w' := by
  have hl := Lib.hid hs.len
  have hmin := min2_int
  have hmax := max2_int
  have hn512 : n ≤ 512 := by have := (okDists_is h0).1; rw [hs.len] at this; omega
  have hP := fun q W h => Pick_any bits q O no co B2 W h
  have h1 := Lib.hid (okDists_is h0).2
  replace h2 := Lib.hid h2
  clear h0
  go_enter Try.func59, Try.ntmps59
  go_wp2_with fail
  go_loopw [5, 6, 7] (fun v a i wr => ∃ t : Nat, i = .int .i64 (t : Int) ∧ t ≤ n ∧ a = .int .i64 (trA b bits t) ∧ wr.ownsRow w.heap.size 3 1 v t (((truthL b bits).take t).map (.int .i64 ·)) ∧ Below w.heap.size w wr) (fun v a i wr => n - (intOf i).toNat)
  case atStart => exact ⟨0, rfl, Nat.zero_le _, rfl, ⟨rfl, .inl ⟨rfl, rfl⟩⟩, Below.refl _ _⟩
  case round =>
    obtain ⟨t, rfl, ht, rfl, hown, hb⟩ := hrel
    by_cases hlt : t < n
    · obtain ⟨x, hx⟩ := some_of_lt hl.out hlt
      obtain ⟨ba, oa, hA, -, hbl, e0, e1⟩ := (hs.below hb).bnd hx
      have hxd : b.getD t ⟨0, 0⟩ = x := by rw [List.getD_eq_getElem?_getD, hx]; rfl
      have htb : t < b.length := by rw [hl.out]; exact hlt
      have hin := tr_in bits h1.out h2.out t htb
      have hat := tr_at bits h1.out h2.out htb
      have hhb := highT_bd h1.out t
      have hnx : Hid (trA b bits (t + 1) = max (trA b bits t) x.lo + restS (pickS bits (t : Int)) (highT b t - max (trA b bits t) x.lo + 1)) := by show _ = _; rw [← hxd]; rfl
      rw [hxd] at hin
      have hk0 : (0 : Int) ≤ (t : Int) := by omega
      have hk1 : (t : Int) < (n : Int) := by omega
      have htk : Hid (((truthL b bits).take (t + 1)).map (Value.int .i64 ·) = ((truthL b bits).take t).map (.int .i64 ·) ++ [.int .i64 (trA b bits (t + 1))]) := by show _ = _; rw [List.take_add_one, truthL_at b bits htb]; simp
      have hst : Hid (hiTo b t t = x.hi) := by show _ = _; rw [hiTo_start, hxd]
      have hen : Hid (hiTo b t n = highT b t) := by show _ = _; rw [← hl.out]; exact hiTo_end htb
      have hsw := hs.below hb
      have how := ho.below hb
      replace hx := Lib.hid hx
      clear hxd
      subst hA
      go_wp2_with fail
      generalize wr = V at *
      go_loopw [8, 9] (fun h i wq => ∃ k : Nat, i = .int .i64 (k : Int) ∧ t ≤ k ∧ k ≤ n ∧ h = .int .i64 (hiTo b t k) ∧ wq = V) (fun h i wq => n - (intOf i).toNat)
      case atStart => exact ⟨t, rfl, Nat.le_refl _, ht, by rw [hst.out], rfl⟩
      case round =>
        obtain ⟨k, rfl, htk2, hkn, rfl, hwq⟩ := hrel
        rw [hwq]
        clear hwq wr
        by_cases hkl : k < n
        · obtain ⟨y, hy⟩ := some_of_lt hl.out hkl
          obtain ⟨ba2, oa2, hA2, -, hbl2, e2, e3⟩ := hsw.bnd hy
          cases hA2
          have hq0 : (0 : Int) ≤ (k : Int) := by omega
          have hq1 : (k : Int) < (n : Int) := by omega
          have hsc := Lib.hid (hiTo_succ htk2 hy)
          replace hy := Lib.hid hy
          go_wp2_with fail
          go_roundw
          case rel => exact ⟨k + 1, by go_num, by omega, by omega, by rw [hsc.out], by first | rfl | trivial⟩
          case measure => simp [intOf]; omega
        · obtain rfl : k = n := by omega
          rw [hen.out]
          generalize highT b t = hi at *
          generalize hR : restS (pickS bits (t : Int)) (hi - max (trA b bits t) x.lo + 1) = rr at *
          generalize hta : trA b bits (t + 1) = a1 at *
          replace hta := Lib.hid hta
          generalize trA b bits t = a0 at *
          have hnx2 := hnx.out
          have u1 := IntWalk.i64_in (hi - max a0 x.lo) (by omega)
          have u2 := IntWalk.i64_in (hi - max a0 x.lo + 1) (by omega)
          have u3 : IntKind.i64.wrap (max a0 x.lo + rr) = a1 := by rw [IntWalk.i64_in _ (by omega)]; omega
          have hRe := fun W => Rest_any (pickS bits (t : Int)) (hi - max a0 x.lo + 1) W (by omega)
          simp only [hR] at hRe
          clear hnx2 hR
          replace hin := Lib.hid hin
          replace hat := Lib.hid hat
          go_wp2_with fail
          refine (hP _ _ how).mono ?_
          rintro e w' ⟨rfl, rfl⟩
          go_wp2_with fail
          refine (hRe _).mono ?_
          rintro e w' ⟨rfl, rfl⟩
          have hbig1 : Hid (t + 1 ≤ maxLen) := by show t + 1 ≤ maxLen; unfold maxLen; omega
          have hbig2 : Hid ((t + 1) * 8 ≤ 140737488355328) := by show (t + 1) * 8 ≤ 140737488355328; omega
          obtain ⟨i0, hi0, hz0, hz1, hz2⟩ := info_parts Try.infoInt
          have hnews : ∀ (j : Nat) (u : Value), ([.int .i64 a1] : List Value)[j]? = some u → (V.alloc (.cells #[.int .i64 a1] 3)).cell? ((⟨V.heap.size, 0, none⟩ : Addr).add j) = some u :=
            World.news_of_block (cs := #[.int .i64 a1]) (World.alloc_heap_new V _)
          have hownf := hown.alloc (.cells #[.int .i64 a1] 3)
          have hbf := hb.alloc hb.size (.cells #[.int .i64 a1] 3)
          go_wp2_with (at_builtin; refine wpList_append_lies _ rfl (.tmp 52) (.tmp 54) 22 rfl w.heap.size 3 i0 (.int .i64 0) 1 8 Try.underlying22 hi0 hz0 hz1 hz2 rfl (by decide) u5 t (((truthL b bits).take t).map (.int .i64 ·)) rfl hownf ⟨V.heap.size, 0, none⟩ 1 1 [.int .i64 a1] rfl rfl hnews (by simp [Value.oneCell']) (by decide) hbig1.out hbig2.out hbf.size (V.heap.size + 1) (by simp) ?_; intro g cap w7 hown7 hgrow hlies hlt7)
          have hbg : Below w.heap.size _ w7 := ⟨hgrow.os, hgrow.tape, hgrow.output, hgrow.size, fun b hb2 => hgrow.block b (Nat.lt_of_lt_of_le hb2 hbf.size) (fun e => by have := (hownf.lt _ e.symm).1; omega)⟩
          have hbh := hbf.trans hbg
          go_roundw
          case rel => exact ⟨t + 1, by go_num, by omega, by rw [hta.out], by rw [htk.out]; exact hown7, hbh⟩
          case measure => simp [intOf]; omega
    · obtain rfl : t = n := by omega
      rw [List.take_of_length_le (by rw [truthL_len, hl.out]; exact Nat.le_refl _)] at hown
      obtain ⟨P, pc, rfl, hP1⟩ := SlAt.of_own (enc := ivs) hown (by omega) (truthL b bits) (flatMap_ivs _).symm (fun _ => rfl) (by rw [truthL_len]; exact hl.out)
      go_wp2_with fail
      go_ret
      exact ⟨P, pc, rfl, hP1, hb⟩
end Go.Proofs.Ytfengddpfeneiaa
