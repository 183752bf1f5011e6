/-
  The law ShotForeseen.
-/
import Derived.Test.YtfengddpfeneiaaS28
import Derived.Test.YtfengddpfeneiaaQ12
namespace Go.Proofs.Ytfengddpfeneiaa
open Go.RowKit Go.Shelf
set_option linter.unusedSimpArgs false
set_option linter.unusedVariables false

set_option maxRecDepth 100000 in
set_option maxHeartbeats 4000000 in
theorem ShotForeseen_any (r : Rul) (A O : Option Addr) (n c no co : Nat) (l bits : List Int) (w : World) (hs : SlAt w 0 1 ivs A n c l) (ho : SlAt w 0 1 ivs O no co bits) :
    Calls Try.prog 14 #[.agg #[.int .i64 r.row, .int .i64 r.win, .int .i64 r.many, .int .i64 r.total], .slice A n c, .slice O no co] w fun e w' => e = .returned (.bool true) ∧ Below w.heap.size w w' := by
  have h1 := fun W h => Foresee_any r l A n c 0 W h
  obtain ⟨w1, hw1⟩ : ∃ w1, w1 = w.alloc (.cells #[.int .i64 r.row, .int .i64 r.win, .int .i64 r.many, .int .i64 r.total] 57) := ⟨_, rfl⟩
  have k3 : Blk w1 w.heap.size 57 #[.int .i64 r.row, .int .i64 r.win, .int .i64 r.many, .int .i64 r.total] := by rw [hw1]; exact Blk.new _ _ _
  have hs1 : SlAt w1 0 1 ivs A n c l := by rw [hw1]; exact hs.alloc _
  have ho1 : SlAt w1 0 1 ivs O no co bits := by rw [hw1]; exact ho.alloc _
  have b : Below w.heap.size w w1 := by rw [hw1]; exact (Below.refl _ _).alloc (Nat.le_refl _) _
  unfold foreR at h1
  by_cases her : errJ r l 2 = 0
  · rw [if_pos her] at h1
    obtain ⟨hru, hok⟩ := errJ_ok her
    have hn := Lib.hid hs.len
    have hn256 : n ≤ 256 := by have := okRes_len hok; rw [hs.len] at this; exact this
    obtain ⟨x, hx⟩ : ∃ x : Nat → Int, x = fun (i : Nat) => restS (pickS bits (i : Int)) 2 := ⟨_, rfl⟩
    have hx01 : ∀ i, x i = 0 ∨ x i = 1 := fun i => by rw [hx]; have := restS_bd (pickS bits (i : Int)) (many := 2) (by omega); dsimp only; omega
    have hk := Lib.hid (knownX_len l x)
    have hkat := Lib.hid (fun i (h : i < l.length) => knownX_at l x h)
    have hkok := knownX_ok hok hx01
    have hfs := foreseen_said hru l hx01
    obtain ⟨q, hq1, hq2, hq3, hq4, hq5⟩ := judge_form r (knownX l x)
    rw [hk.out] at hq1 hq5
    rw [hq2] at hfs
    have hju := fun A n c B W h => Judge_any r (knownX l x) A n c B W h
    rw [judgeR, if_pos (errJ_mk hru hkok), hq2] at hju
    have hset := fun j => set_more hru (knownX l x) j
    rw [hq2] at hset
    have hju2 := fun j A n c B W h => Judge_any r ((knownX l x).set j 1) A n c B W h
    have hjx : ∀ j, judgeR r ((knownX l x).set j 1) = ((judgeS r ((knownX l x).set j 1)).1, (judgeS r ((knownX l x).set j 1)).2, 0) := fun j => by rw [judgeR, if_pos (errJ_mk hru (set_ok hkok j))]
    simp only [hjx] at hju2
    replace hset := Lib.hid hset
    clear hjx
    generalize (judgeS r (knownX l x)).2 = ru at *
    generalize (foreS r l).lo = lo at *
    generalize (foreS r l).hi = hi at *
    generalize hK : knownX l x = K at *
    replace hK := Lib.hid hK
    have hP := fun q W h => Pick_any bits q O no co 0 W h
    have hR := fun a W => Rest_any a 2 W (by omega)
    have hB := fun W => (Between_any (q : Int) lo hi W)
    simp only [decide_eq_true hfs] at hB
    have hB2 := fun W => (Between_any ru 0 3 W)
    simp only [show decide (0 ≤ ru ∧ ru ≤ 3) = true from decide_eq_true ⟨hq3, hq4⟩] at hB2
    rw [hn.out] at hq1 hq5
    replace hfs := Lib.hid hfs
    go_enter Try.func14, Try.ntmps14
    go_wp2_with fail
    rw [← hw1]
    clear hw1
    obtain ⟨c3, f3, l3⟩ := k3.rules
    go_wp2_with fail
    refine (h1 _ hs1).mono ?_
    rintro e W ⟨rfl, hb⟩
    clear c3 f3 l3 h1
    replace k3 := k3.below hb
    replace hs1 := hs1.below hb
    replace ho1 := ho1.below hb
    replace b := b.trans (hb.mono b.size)
    clear hb
    go_wp2_with fail
    have k7 := Blk.new W 62 #[.int .i64 lo, .int .i64 hi]
    have hb := (Below.refl W.heap.size W).alloc (Nat.le_refl _) (.cells #[.int .i64 lo, .int .i64 hi] 62)
    replace k3 := k3.below hb
    replace hs1 := hs1.below hb
    replace ho1 := ho1.below hb
    replace b := b.trans (hb.mono b.size)
    clear hb
    generalize hg7 : W.heap.size = g7 at *
    clear hg7
    generalize W.alloc (.cells #[.int .i64 lo, .int .i64 hi] 62) = W2 at *
    have k3w := k3
    go_loopw [9, 10] (fun u i wr => ∃ k : Nat, i = .int .i64 (k : Int) ∧ k ≤ n ∧ wr.ownsRow W2.heap.size 3 1 u k ((K.take k).map (.int .i64 ·)) ∧ Below W2.heap.size W2 wr) (fun u i wr => n - (intOf i).toNat)
    case atStart => exact ⟨0, rfl, Nat.zero_le _, ⟨rfl, .inl ⟨rfl, rfl⟩⟩, Below.refl _ _⟩
    case round =>
      obtain ⟨k, rfl, hkn, hown, hb⟩ := hrel
      by_cases hlt : k < n
      · have hk0 : (0 : Int) ≤ (k : Int) := by omega
        have hk1 : (k : Int) < (n : Int) := by omega
        obtain ⟨y, hy⟩ := some_of_lt hn.out hlt
        obtain ⟨ba, oa, hA, -, hbl, e0⟩ := (hs1.below hb).int hy
        have hgy : l.getD k 0 = y := by rw [List.getD_eq_getElem?_getD, hy]; rfl
        have hke := hkat.out k (by rw [hn.out]; exact hlt)
        rw [hgy] at hke
        subst hA
        have how := ho1.below hb
        replace hy := Lib.hid hy
        clear hgy
        by_cases h2 : y = 2
        · rw [if_pos h2] at hke
          have htk : Hid ((K.take (k + 1)).map (Value.int .i64 ·) = (K.take k).map (.int .i64 ·) ++ [.int .i64 (x k)]) := by show _ = _; rw [List.take_add_one, hke]; simp
          have hxk : x k = restS (pickS bits (k : Int)) 2 := by rw [hx]
          rw [hxk] at htk
          clear hke hxk
          go_wp2_with fail
          refine (hP _ _ how).mono ?_
          rintro e w' ⟨rfl, rfl⟩
          go_wp2_with fail
          refine (hR _ _).mono ?_
          rintro e w' ⟨rfl, rfl⟩
          have hbig1 : Hid (k + 1 ≤ maxLen) := by show k + 1 ≤ maxLen; unfold maxLen; omega
          have hbig2 : Hid ((k + 1) * 8 ≤ 140737488355328) := by show (k + 1) * 8 ≤ 140737488355328; omega
          obtain ⟨i0, hi0, hz0, hz1, hz2⟩ := info_parts Try.infoInt
          have hnews : ∀ (j : Nat) (u : Value), ([.int .i64 (restS (pickS bits (k : Int)) 2)] : List Value)[j]? = some u → (wr.alloc (.cells #[.int .i64 (restS (pickS bits (k : Int)) 2)] 3)).cell? ((⟨wr.heap.size, 0, none⟩ : Addr).add j) = some u :=
            World.news_of_block (cs := #[.int .i64 (restS (pickS bits (k : Int)) 2)]) (World.alloc_heap_new wr _)
          have hownf := hown.alloc (.cells #[.int .i64 (restS (pickS bits (k : Int)) 2)] 3)
          have hbf := hb.alloc hb.size (.cells #[.int .i64 (restS (pickS bits (k : Int)) 2)] 3)
          go_wp2_with (at_builtin; refine wpList_append_lies _ rfl (.tmp 40) (.tmp 45) 22 rfl W2.heap.size 3 i0 (.int .i64 0) 1 8 Try.underlying22 hi0 hz0 hz1 hz2 rfl (by decide) u9 k ((K.take k).map (.int .i64 ·)) rfl hownf ⟨wr.heap.size, 0, none⟩ 1 1 [.int .i64 (restS (pickS bits (k : Int)) 2)] rfl rfl hnews (by simp [Value.oneCell']) (by decide) hbig1.out hbig2.out (hbf.size) (wr.heap.size + 1) (by simp) ?_; intro g cap w7 hown7 hgrow hlies hlt7)
          have hbg : Below W2.heap.size _ w7 := ⟨hgrow.os, hgrow.tape, hgrow.output, hgrow.size, fun b hb2 => hgrow.block b (Nat.lt_of_lt_of_le hb2 hbf.size) (fun e => by have := (hownf.lt _ e.symm).1; omega)⟩
          have hbh := hbf.trans hbg
          go_roundw
          case rel => exact ⟨k + 1, by go_num, by omega, by rw [htk.out]; exact hown7, hbh⟩
          case measure => simp [intOf]; omega
        · rw [if_neg h2] at hke
          have htk : Hid ((K.take (k + 1)).map (Value.int .i64 ·) = (K.take k).map (.int .i64 ·) ++ [.int .i64 y]) := by show _ = _; rw [List.take_add_one, hke]; simp
          clear hke
          have hbig1 : Hid (k + 1 ≤ maxLen) := by show k + 1 ≤ maxLen; unfold maxLen; omega
          have hbig2 : Hid ((k + 1) * 8 ≤ 140737488355328) := by show (k + 1) * 8 ≤ 140737488355328; omega
          obtain ⟨i0, hi0, hz0, hz1, hz2⟩ := info_parts Try.infoInt
          have hnews : ∀ (j : Nat) (u : Value), ([.int .i64 (y)] : List Value)[j]? = some u → (wr.alloc (.cells #[.int .i64 (y)] 3)).cell? ((⟨wr.heap.size, 0, none⟩ : Addr).add j) = some u :=
            World.news_of_block (cs := #[.int .i64 (y)]) (World.alloc_heap_new wr _)
          have hownf := hown.alloc (.cells #[.int .i64 (y)] 3)
          have hbf := hb.alloc hb.size (.cells #[.int .i64 (y)] 3)
          go_wp2_with (at_builtin; refine wpList_append_lies _ rfl (.tmp 47) (.tmp 52) 22 rfl W2.heap.size 3 i0 (.int .i64 0) 1 8 Try.underlying22 hi0 hz0 hz1 hz2 rfl (by decide) u9 k ((K.take k).map (.int .i64 ·)) rfl hownf ⟨wr.heap.size, 0, none⟩ 1 1 [.int .i64 (y)] rfl rfl hnews (by simp [Value.oneCell']) (by decide) hbig1.out hbig2.out (hbf.size) (wr.heap.size + 1) (by simp) ?_; intro g cap w7 hown7 hgrow hlies hlt7)
          have hbg : Below W2.heap.size _ w7 := ⟨hgrow.os, hgrow.tape, hgrow.output, hgrow.size, fun b hb2 => hgrow.block b (Nat.lt_of_lt_of_le hb2 hbf.size) (fun e => by have := (hownf.lt _ e.symm).1; omega)⟩
          have hbh := hbf.trans hbg
          go_roundw
          case rel => exact ⟨k + 1, by go_num, by omega, by rw [htk.out]; exact hown7, hbh⟩
          case measure => simp [intOf]; omega
      · obtain rfl : k = n := by omega
        rw [List.take_of_length_le (by rw [hk.out, hn.out]; exact Nat.le_refl _)] at hown
        have hown2 := hown
        obtain ⟨P, pc, rfl, hP1⟩ := SlAt.of_own (enc := ivs) hown (by omega) K (flatMap_ivs _).symm (fun _ => rfl) (hk.out.trans hn.out)
        replace k3 := k3.below hb
        replace k7 := k7.below hb
        replace ho1 := ho1.below hb
        replace b := b.trans (hb.mono b.size)
        obtain ⟨c3, f3, l3⟩ := k3.rules
        go_wp2_with fail
        refine (hju _ _ _ _ _ hP1).mono ?_
        rintro e W3 ⟨rfl, hb3⟩
        clear c3 f3 l3 hju
        replace k3 := k3.below hb3
        replace k7 := k7.below hb3
        replace ho1 := ho1.below hb3
        replace b := b.trans (hb3.mono b.size)
        replace hown2 := ownsRow_below hown2 hb3
        clear hb hb3 hs1 hP1 hown
        have hR2 := fun a W => Rest_any a (k : Int) W (by omega)
        have hjb := restS_bd (pickS bits 1) (many := (k : Int))
        obtain ⟨c7, f7, l7⟩ := k7.rules
        by_cases hqk : q = k
        · have hr0 := hq5.2 hqk
          clear hq5 hq2
          subst hqk
          subst hr0
          go_wp2_with fail
          refine (hB _).mono ?_
          rintro e w' ⟨rfl, rfl⟩
          go_wp2_with fail
          refine (hB2 _).mono ?_
          rintro e w' ⟨rfl, rfl⟩
          by_cases hk0 : q = 0
          · have hk0' : (q : Int) = 0 := by omega
            go_wp2_with fail
            refine (works_any _).mono ?_
            rintro e W4 ⟨rfl, hb⟩
            go_wp2_with fail
            go_ret
            exact ⟨rfl, b.trans (hb.mono b.size)⟩
          · have hk0' : ¬ (q : Int) = 0 := by omega
            replace hjb := hjb (by omega)
            obtain ⟨j, hj⟩ : ∃ j : Nat, restS (pickS bits 1) (q : Int) = (j : Int) := ⟨(restS (pickS bits 1) (q : Int)).toNat, by omega⟩
            rw [hj] at hjb
            have hj0 : (0 : Int) ≤ (j : Int) := by omega
            have hj1 : (j : Int) < (q : Int) := hjb.2
            replace hR2 := fun W => hR2 (pickS bits 1) W
            rw [hj] at hR2
            clear hj
            have hP1 := fun W h => hP 1 W h
            rcases hown2.2 with ⟨-, h⟩ | ⟨gr, cap, cur, hOv, hgr, -⟩
            · omega
            simp only [Value.slice.injEq, true_and] at hOv
            obtain ⟨rfl, rfl⟩ := hOv
            obtain ⟨v0, hcc⟩ := own_cell hown2 (j := j) (by omega)
            have hfr := hown2.frozenAt j
            have hown3 := Lib.hid ((hown2.stored j (.int .i64 1)).1)
            rw [← List.map_set] at hown3
            have hwg : w.heap.size < gr := by have := k3w.lt; omega
            have k3z := k3.far (p := ⟨gr, j, none⟩) (by dsimp only; omega) (.int .i64 1)
            have bz := b.setCell (p := ⟨gr, j, none⟩) (by dsimp only; omega) (.int .i64 1)
            have hm := hset.out j
            have hju3 := hju2
            clear hju2 hB hB2 hP hR hset
            go_wp2_with fail
            refine (hP1 _ ho1).mono ?_
            rintro e w' ⟨rfl, rfl⟩
            go_wp2_with fail
            refine (hR2 _).mono ?_
            rintro e w' ⟨rfl, rfl⟩
            clear hP1 hR2 c7 f7 l7
            replace hju3 := fun A n c B W h => hju3 j A n c B W h
            obtain ⟨Z, zc, eZ, hZ⟩ := SlAt.of_own (enc := ivs) hown3.out (by omega) (K.set j 1) (flatMap_ivs _).symm (fun _ => rfl) (by rw [List.length_set]; exact hk.out.trans hn.out)
            simp only [Value.slice.injEq, true_and] at eZ
            obtain ⟨rfl, rfl⟩ := eZ
            generalize (judgeS r (K.set j 1)).1 = mm at *
            generalize (judgeS r (K.set j 1)).2 = mr at *
            obtain ⟨c8, f8, l8⟩ := k3z.rules
            go_wp2_with fail
            refine (hju3 _ _ _ _ _ hZ).mono ?_
            rintro e W5 ⟨rfl, hb5⟩
            replace bz := bz.trans (hb5.mono bz.size)
            clear hju3 hZ c8 f8 l8 k3z hb5 hown3
            go_wp2_with fail
            refine (works_any _).mono ?_
            rintro e W6 ⟨rfl, hb6⟩
            go_wp2_with fail
            go_ret
            exact ⟨rfl, bz.trans (hb6.mono bz.size)⟩
        · have hr0 : ¬ ru = 0 := fun h => hqk (hq5.1 h)
          have hqk' : ¬ (q : Int) = (k : Int) := by omega
          have hbb : (ru == 0) = ((q : Int) == (k : Int)) := by rw [beq_eq_false_iff_ne.2 hr0, beq_eq_false_iff_ne.2 hqk']
          clear hq5 hq2
          go_wp2_with fail
          refine (hB _).mono ?_
          rintro e w' ⟨rfl, rfl⟩
          go_wp2_with fail
          refine (hB2 _).mono ?_
          rintro e w' ⟨rfl, rfl⟩
          by_cases hk0 : k = 0
          · have hk0' : (k : Int) = 0 := by omega
            go_wp2_with fail
            refine (works_any _).mono ?_
            rintro e W4 ⟨rfl, hb⟩
            go_wp2_with fail
            go_ret
            exact ⟨rfl, b.trans (hb.mono b.size)⟩
          · have hk0' : ¬ (k : Int) = 0 := by omega
            replace hjb := hjb (by omega)
            obtain ⟨j, hj⟩ : ∃ j : Nat, restS (pickS bits 1) (k : Int) = (j : Int) := ⟨(restS (pickS bits 1) (k : Int)).toNat, by omega⟩
            rw [hj] at hjb
            have hj0 : (0 : Int) ≤ (j : Int) := by omega
            have hj1 : (j : Int) < (k : Int) := hjb.2
            replace hR2 := fun W => hR2 (pickS bits 1) W
            rw [hj] at hR2
            clear hj
            have hP1 := fun W h => hP 1 W h
            rcases hown2.2 with ⟨-, h⟩ | ⟨gr, cap, cur, hOv, hgr, -⟩
            · omega
            simp only [Value.slice.injEq, true_and] at hOv
            obtain ⟨rfl, rfl⟩ := hOv
            obtain ⟨v0, hcc⟩ := own_cell hown2 (j := j) (by omega)
            have hfr := hown2.frozenAt j
            have hown3 := Lib.hid ((hown2.stored j (.int .i64 1)).1)
            rw [← List.map_set] at hown3
            have hwg : w.heap.size < gr := by have := k3w.lt; omega
            have k3z := k3.far (p := ⟨gr, j, none⟩) (by dsimp only; omega) (.int .i64 1)
            have bz := b.setCell (p := ⟨gr, j, none⟩) (by dsimp only; omega) (.int .i64 1)
            have hm := hset.out j
            have hju3 := hju2
            clear hju2 hB hB2 hP hR hset
            go_wp2_with fail
            refine (hP1 _ ho1).mono ?_
            rintro e w' ⟨rfl, rfl⟩
            go_wp2_with fail
            refine (hR2 _).mono ?_
            rintro e w' ⟨rfl, rfl⟩
            clear hP1 hR2 c7 f7 l7
            replace hju3 := fun A n c B W h => hju3 j A n c B W h
            obtain ⟨Z, zc, eZ, hZ⟩ := SlAt.of_own (enc := ivs) hown3.out (by omega) (K.set j 1) (flatMap_ivs _).symm (fun _ => rfl) (by rw [List.length_set]; exact hk.out.trans hn.out)
            simp only [Value.slice.injEq, true_and] at eZ
            obtain ⟨rfl, rfl⟩ := eZ
            generalize (judgeS r (K.set j 1)).1 = mm at *
            generalize (judgeS r (K.set j 1)).2 = mr at *
            obtain ⟨c8, f8, l8⟩ := k3z.rules
            go_wp2_with fail
            refine (hju3 _ _ _ _ _ hZ).mono ?_
            rintro e W5 ⟨rfl, hb5⟩
            replace bz := bz.trans (hb5.mono bz.size)
            clear hju3 hZ c8 f8 l8 k3z hb5 hown3
            go_wp2_with fail
            refine (works_any _).mono ?_
            rintro e W6 ⟨rfl, hb6⟩
            go_wp2_with fail
            go_ret
            exact ⟨rfl, bz.trans (hb6.mono bz.size)⟩
  · rw [if_neg her] at h1
    go_enter Try.func14, Try.ntmps14
    go_wp2_with fail
    rw [← hw1]
    clear hw1
    obtain ⟨c3, f3, l3⟩ := k3.rules
    go_wp2_with fail
    refine (h1 _ hs1).mono ?_
    rintro e W ⟨rfl, hb⟩
    replace b := b.trans (hb.mono b.size)
    clear c3 f3 l3 h1 hb
    have k7 := Blk.new W 62 #[.int .i64 0, .int .i64 0]
    replace b := b.alloc b.size (.cells #[.int .i64 0, .int .i64 0] 62)
    obtain ⟨c7, f7, l7⟩ := k7.rules
    go_wp2_with fail
    refine (works_any _).mono ?_
    rintro e W4 ⟨rfl, hb⟩
    go_wp2_with fail
    go_ret
    exact ⟨rfl, b.trans (hb.mono b.size)⟩
end Go.Proofs.Ytfengddpfeneiaa
