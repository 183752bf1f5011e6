/-
  Shots, walks: Repeat.
-/
import Derived.Test.YtfengddpfeneiaaGreatS18
namespace Go.Proofs.YtfengddpfeneiaaGreat
open Go.RowKit Go.Shelf
set_option linter.unusedSimpArgs false
set_option linter.unusedVariables false

def repTo (r : Rul) (l : List Int) (k : Nat) : List Int := ((List.range k).filter fun i => l.getD i 0 != (keepTo r l l.length).getD i 0).map fun (i : Nat) => (i : Int)
theorem repTo_succ (r : Rul) (l : List Int) (k : Nat) : repTo r l (k + 1) = repTo r l k ++ (if l.getD k 0 != (keepTo r l l.length).getD k 0 then [(k : Int)] else []) := by
  unfold repTo
  rw [List.range_succ, List.filter_append, List.map_append]
  congr 1
  rw [List.filter_cons, List.filter_nil]
  split <;> rfl
theorem repTo_len (r : Rul) (l : List Int) (k : Nat) : (repTo r l k).length ≤ k := by
  unfold repTo
  rw [List.length_map]
  have := List.length_filter_le (fun i => l.getD i 0 != (keepTo r l l.length).getD i 0) (List.range k)
  simpa using this
theorem rep_bad {r : Rul} {l : List Int} {k : Nat} (h : k < l.length) (hx : l.getD k 0 = 1) : (l.getD k 0 != (keepTo r l l.length).getD k 0) = decide (gS r l (pN l k) < gS r l (pN l k + 1)) := by
  have h1 := keepS_get r l h
  unfold keepS at h1
  have h2 := hS_bad (r := r) h hx
  have h3 : pN l (k + 1) = pN l k + 1 := by rw [pN_succ h, if_pos hx]
  rw [← h3, gS_at r l (by omega), gS_at r l (by omega), h2, h1, hx]
  split
  · simp
  · simp
    omega
theorem rep_good {r : Rul} {l : List Int} {k : Nat} (h : k < l.length) (hx : l.getD k 0 ≠ 1) (h0 : l.getD k 0 = 0 ∨ l.getD k 0 = 1) : (l.getD k 0 != (keepTo r l l.length).getD k 0) = false := by
  have h1 := keepS_get r l h
  unfold keepS at h1
  have h2 : l.getD k 0 = 0 := h0.resolve_right hx
  rw [h1, h2]
  split <;> rfl
set_option maxRecDepth 100000 in
set_option maxHeartbeats 4000000 in
theorem Repeat_any (r : Rul) (l : List Int) (A : Option Addr) (n c B : Nat) (w : World) (hs : SlAt w B 1 ivs A n c l) :
    Calls Tryz.prog 51 #[.agg #[.int .i64 r.row, .int .i64 r.win, .int .i64 r.many, .int .i64 r.total], .slice A n c] w (RetSl 1 ivs (repR r l) w) := by
  have h1 := fun W h => ruled_any r l A n c B W h
  obtain ⟨w1, hw1⟩ : ∃ w1, w1 = w.alloc (.cells #[.int .i64 r.row, .int .i64 r.win, .int .i64 r.many, .int .i64 r.total] 104) := ⟨_, rfl⟩
  have k3 : Blk w1 w.heap.size 104 #[.int .i64 r.row, .int .i64 r.win, .int .i64 r.many, .int .i64 r.total] := by rw [hw1]; exact Blk.new _ _ _
  have b : Below w.heap.size w w1 := by rw [hw1]; exact (Below.refl _ _).alloc (Nat.le_refl _) _
  have hs1 : SlAt w1 B 1 ivs A n c l := by rw [hw1]; exact hs.alloc _
  have hl := Lib.hid hs.len
  have hs0 := Lib.hid hs
  clear hs
  unfold repR
  by_cases her : errJ r l 1 = 0
  · rw [if_pos her]
    have hr : okRul r = true := by unfold errJ at her; split at her; assumption; cases her
    have hres : okRes l 1 = true := by
      unfold errJ at her; rw [if_pos hr] at her; split at her; assumption; cases her
    have hisr := Lib.hid (isRes_of hres)
    have hn256 : n ≤ 256 := by have := hisr.out.2; rw [hl.out] at this; exact this
    have h2 := fun W h => fewest_any r hr l A n c B W hn256 h
    rw [her] at h1
    replace hres := Lib.hid hres
    replace her := Lib.hid her
    go_enter Tryz.func51, Tryz.ntmps51
    go_wp2_with fail
    rw [← hw1]
    clear hw1
    obtain ⟨c3, f3, l3⟩ := k3.rules
    go_wp2_with fail
    refine (h1 _ hs1).mono ?_
    rintro e W ⟨rfl, hb⟩
    clear c3 f3 l3 h1
    replace k3 := k3.below hb
    replace b := b.trans (hb.mono b.size)
    replace hs1 := hs1.below hb
    clear hb
    obtain ⟨c3, f3, l3⟩ := k3.rules
    go_wp2_with fail
    refine (h2 _ hs1).mono ?_
    rintro e W2 ⟨O, co, P, cp, d, rfl, hO, -, -, hb⟩
    clear c3 f3 l3 h2 k3 hs1
    have hoz := hb.size
    have hgO : w.heap.size ≤ W.heap.size := b.size
    replace b := b.trans (hb.mono b.size)
    clear hb
    obtain ⟨cl, hcl⟩ : ∃ cl, cnt l = cl := ⟨_, rfl⟩
    rw [hcl] at hO
    rw [hcl]
    have hcn := cnt_le l
    rw [hl.out, hcl] at hcn
    replace hcl := Lib.hid hcl
    have hO0 := Lib.hid hO
    clear hO
    have hown0 : W2.ownsRow W2.heap.size 3 1 (.slice none 0 0) 0 ((repTo r l 0).flatMap ivs) := ⟨rfl, .inl ⟨rfl, rfl⟩⟩
    go_wp2_with fail
    go_loopw [9, 10, 27] (fun v kk i wr => ∃ k : Nat, i = .int .i64 (k : Int) ∧ k ≤ n ∧ kk = .int .i64 (pN l k : Nat) ∧ wr.ownsRow W2.heap.size 3 1 v (repTo r l k).length ((repTo r l k).flatMap ivs) ∧ Below W2.heap.size W2 wr) (fun v kk i wr => n - (intOf i).toNat)
    case atStart => exact ⟨0, rfl, Nat.zero_le _, by rw [pN_zero]; rfl, hown0, Below.refl _ _⟩
    case round =>
      clear hown0
      obtain ⟨k, rfl, hk, rfl, hown, hb⟩ := hrel
      by_cases hlt : k < n
      · have hk0 : (0 : Int) ≤ (k : Int) := by omega
        have hk1 : (k : Int) < (n : Int) := by omega
        have hkl : k < l.length := by rw [hl.out]; exact hlt
        obtain ⟨x, hx⟩ := some_of_lt hl.out hlt
        have hs1 := hs0.out.below (b.trans (hb.mono (by have := b.size; omega)))
        obtain ⟨bb, oo, hA, -, hbl, e0⟩ := hs1.int hx
        subst hA
        have hgx : l.getD k 0 = x := by rw [List.getD_eq_getElem?_getD, hx]; rfl
        have hpm := pN_succ hkl
        have hx01 := hisr.out.1 x (List.mem_of_getElem? hx)
        have hru := repTo_succ r l k
        have hpc := pN_le_cnt l (k + 1)
        rw [hcl.out] at hpc
        by_cases hx1 : x = 1
        · subst hx1
          rw [rep_bad hkl hgx] at hru
          rw [hgx, if_pos rfl] at hpm
          rw [hpm] at hpc
          obtain ⟨pk, hpk⟩ : ∃ pk, pN l k = pk := ⟨_, rfl⟩
          rw [hpk] at hpm hpc hru
          rw [hpk]
          have hOr := hO0.out.below hb
          have hgl1 : (gL r l)[pk + 1]? = some (gS r l (pk + 1)) := mapRange_at _ (by rw [hcl.out]; omega)
          have hgl2 : (gL r l)[pk]? = some (gS r l pk) := mapRange_at _ (by rw [hcl.out]; omega)
          obtain ⟨b1, o1, hA1, -, -, g1⟩ := hOr.int hgl1
          obtain ⟨b2, o2, hA2, -, -, g2⟩ := hOr.int hgl2
          rw [hA1] at hA2
          simp only [Option.some.injEq, Addr.mk.injEq, and_true] at hA2
          obtain ⟨rfl, rfl⟩ := hA2
          subst hA1
          clear hgl1 hgl2 hOr hs1
          generalize gS r l (pk + 1) = y1 at *
          generalize gS r l pk = y0 at *
          have u1 := IntWalk.i64_in ((pk : Int) + 1) (by omega)
          have u2 := IntWalk.i64_in ((pk : Int) + 1 - 1) (by omega)
          have u3 : (pk : Int) + 1 - 1 = (pk : Int) := by omega
          have z1 : (0 : Int) ≤ (pk : Int) + 1 := by omega
          have z2 : (pk : Int) + 1 < (cl : Int) + 1 := by omega
          have z3 : (0 : Int) ≤ (pk : Int) := by omega
          have z4 : (pk : Int) < (cl : Int) + 1 := by omega
          have z5 : ((pk : Int) + 1).toNat = pk + 1 := by omega
          replace hpm := Lib.hid hpm
          replace hpk := Lib.hid hpk
          replace hgx := Lib.hid hgx
          replace hx := Lib.hid hx
          clear hx01
          by_cases hlt9 : y0 < y1
          · rw [decide_eq_true hlt9] at hru
            simp only [if_true] at hru
            replace hru := Lib.hid hru
            go_wp2_with fail
            go_quiet (fail)
            have hbd := below_drewN (Below.refl wr.heap.size wr) nq
            replace hown := ownsRow_below hown hbd
            replace hb := hb.trans (hbd.mono hb.size)
            clear hbd
            generalize wr.drewN nq = Wd at *
            have hsl := repTo_len r l k
            generalize repTo r l k = sk at *
            obtain ⟨sn, hsn⟩ : ∃ sn, sk.length = sn := ⟨_, rfl⟩
            rw [hsn] at hown hsl
            replace hsn := Lib.hid hsn
            have hbig1 : Hid (sn + 1 ≤ maxLen) := by show _ ≤ maxLen; unfold maxLen; omega
            have hbig2 : Hid ((sn + 1) * 8 ≤ 140737488355328) := by show (sn + 1) * 8 ≤ 140737488355328; omega
            obtain ⟨i0, hi0, hz0, hz1, hz2⟩ := info_parts Tryz.infoInt
            have hnews : ∀ (j : Nat) (u : Value), ([.int .i64 (k : Int)] : List Value)[j]? = some u → (Wd.alloc (.cells #[.int .i64 (k : Int)] 3)).cell? ((⟨Wd.heap.size, 0, none⟩ : Addr).add j) = some u :=
              World.news_of_block (cs := #[.int .i64 (k : Int)]) (World.alloc_heap_new Wd _)
            have hownf := hown.alloc (.cells #[.int .i64 (k : Int)] 3)
            have hbf := hb.alloc hb.size (.cells #[.int .i64 (k : Int)] 3)
            go_wp2_with (at_builtin; refine wpList_append_lies _ rfl (.tmp 46) (.tmp 48) 36 rfl W2.heap.size 3 i0 (.int .i64 0) 1 8 Tryz.underlying36 hi0 hz0 hz1 hz2 rfl (by decide) u9 sn (sk.flatMap ivs) rfl hownf ⟨Wd.heap.size, 0, none⟩ 1 1 [.int .i64 (k : Int)] rfl rfl hnews (by simp [Value.oneCell']) (by decide) hbig1.out hbig2.out (hbf.size) (Wd.heap.size + 1) (by simp) ?_; intro g cap w7 hown7 hgrow hlies hlt7)
            have hbg : Below W2.heap.size _ w7 := ⟨hgrow.os, hgrow.tape, hgrow.output, hgrow.size, fun b hb2 => hgrow.block b (Nat.lt_of_lt_of_le hb2 hbf.size) (fun e => by have := (hownf.lt _ e.symm).1; omega)⟩
            have hbh := hbf.trans hbg
            go_roundw
            case rel =>
              refine ⟨k + 1, by go_num, by omega, by rw [hpm.out]; go_num, ?_, hbh⟩
              rw [hru.out, List.flatMap_append, List.length_append, hsn.out]
              exact hown7
            case measure => simp [intOf]; omega
          · rw [decide_eq_false hlt9] at hru
            simp only [Bool.false_eq_true, if_false, List.append_nil] at hru
            have hge9 : ¬ y1 > y0 := by omega
            have hge8 : y1 ≤ y0 := by omega
            replace hru := Lib.hid hru
            go_wp2_with fail
            go_quiet (fail)
            have hbd := below_drewN (Below.refl wr.heap.size wr) nq
            replace hown := ownsRow_below hown hbd
            replace hb := hb.trans (hbd.mono hb.size)
            clear hbd
            generalize wr.drewN nq = Wd at *
            go_wp2_with fail
            go_roundw
            case rel => exact ⟨k + 1, by go_num, by omega, by rw [hpm.out]; go_num, by rw [hru.out]; exact hown, hb⟩
            case measure => simp [intOf]; omega
        · rw [rep_good hkl (by rw [hgx]; exact hx1) (by rw [hgx]; exact hx01)] at hru
          simp only [Bool.false_eq_true, if_false, List.append_nil] at hru
          rw [hgx, if_neg hx1, Nat.add_zero] at hpm
          have hx2 : (x != 1) = true := by rw [bne_iff_ne]; exact hx1
          replace hru := Lib.hid hru
          replace hpm := Lib.hid hpm
          replace hgx := Lib.hid hgx
          replace hx := Lib.hid hx
          replace hx1 := Lib.hid hx1
          clear hx01 hs1
          go_wp2_with fail
          go_roundw
          case rel => exact ⟨k + 1, by go_num, by omega, by rw [hpm.out]; first | rfl | done, by rw [hru.out]; exact hown, hb⟩
          case measure => simp [intOf]; omega
      · obtain rfl : k = n := by omega
        have hsl := repTo_len r l k
        have hrl : repTo r l k = repL r l := by unfold repTo repL; rw [hl.out]
        rw [hrl] at hown hsl
        obtain ⟨O9, co9, e9, h9⟩ := SlAt.of_own (enc := ivs) hown (by omega) (repL r l) rfl (fun _ => rfl) rfl
        have hsz := b.size
        replace hrl := Lib.hid hrl
        subst e9
        go_wp2_with fail
        go_ret2
        exact ⟨O9, _, co9, rfl, h9.mono (by omega), b.trans (hb.mono (by omega))⟩
  · rw [if_neg her]
    generalize errJ r l 1 = q at *
    have hz2 : (q != 0) = true := by rw [bne_iff_ne]; exact her
    replace her := Lib.hid her
    go_enter Tryz.func51, Tryz.ntmps51
    go_wp2_with fail
    rw [← hw1]
    clear hw1
    obtain ⟨c3, f3, l3⟩ := k3.rules
    go_wp2_with fail
    refine (h1 _ hs1).mono ?_
    rintro e W ⟨rfl, hb⟩
    clear c3 f3 l3
    go_wp2_with fail
    go_ret2
    exact RetSl.none_ (b.trans (hb.mono b.size))
end Go.Proofs.YtfengddpfeneiaaGreat
