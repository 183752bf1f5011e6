/-
  The law ShotAllowed.
-/
import Derived.Test.YtfengddpfeneiaaS28
import Derived.Test.YtfengddpfeneiaaS29
import Derived.Test.YtfengddpfeneiaaQ13
namespace Go.Proofs.Ytfengddpfeneiaa
open Go.RowKit Go.Shelf
set_option linter.unusedSimpArgs false
set_option linter.unusedVariables false

theorem allow_yes {r : Rul} {l : List Int} (h1 : errJ r l 1 = 0) (h2 : (judgeS r l).2 = 0) {M : Nat} (hM : M ≤ 64) : allowR r l (M : Int) = ((restB r l M : Int), 0) := by
  unfold allowR allowS restB
  rw [if_pos h1, if_pos ⟨by omega, by omega⟩, if_pos h2, Int.toNat_natCast]
theorem allow_no {r : Rul} {l : List Int} {M : Nat} (h : ¬ (errJ r l 1 = 0 ∧ (judgeS r l).2 = 0)) (hM : M ≤ 64) : ∃ e : Int, allowR r l (M : Int) = (0, e) ∧ e ≠ 0 := by
  unfold allowR
  by_cases h1 : errJ r l 1 = 0
  · rw [if_pos h1, if_pos ⟨by omega, by omega⟩, if_neg (fun h2 => h ⟨h1, h2⟩)]
    exact ⟨4, rfl, by decide⟩
  · rw [if_neg h1]; exact ⟨_, rfl, h1⟩
def restL (xs : List Int) : List Int := xs.map fun y => restS y 2
theorem restL_res (xs : List Int) : isRes (restL xs) := fun x hx => by
  obtain ⟨y, -, rfl⟩ := List.mem_map.1 hx
  have := restS_bd y (many := 2) (by omega)
  omega
theorem isRes_take {xs : List Int} (h : isRes xs) (k : Nat) : isRes (xs.take k) := fun x hx => h x (List.mem_of_mem_take hx)
theorem set_last (a : List Int) (x y : Int) {k : Nat} (h : a.length = k) : (a ++ [x]).set k y = a ++ [y] := by subst h; simp
theorem restB_le (r : Rul) (l : List Int) (n : Nat) : restB r l n ≤ n := (bestS_le r n _ _).2
set_option maxRecDepth 100000 in
set_option maxHeartbeats 8000000 in
theorem ShotAllowed_any (r : Rul) (A O : Option Addr) (n c no co : Nat) (l next : List Int) (w : World) (hs : SlAt w 0 1 ivs A n c l) (ho : SlAt w 0 1 ivs O no co next) :
    Calls Try.prog 15 #[.agg #[.int .i64 r.row, .int .i64 r.win, .int .i64 r.many, .int .i64 r.total], .slice A n c, .slice O no co] w fun e w' => e = .returned (.bool true) ∧ Below w.heap.size w w' := by
  obtain ⟨M, hM⟩ : ∃ M : Nat, min (no : Int) 64 = (M : Int) := ⟨(min (no : Int) 64).toNat, by omega⟩
  have hM1 : M ≤ no := by omega
  have hM2 : M ≤ 64 := by omega
  have hmin := fun ats ty => (min2_int ats ty (no : Int) 64).trans (by rw [hM])
  have hx := ho.takeQ hM1
  have hco := ho.lec
  have hnz := ho.le
  have h1 := fun W h => Allow_any r l (M : Int) A n c 0 W h
  obtain ⟨w1, hw1⟩ : ∃ w1, w1 = w.alloc (.cells #[.int .i64 r.row, .int .i64 r.win, .int .i64 r.many, .int .i64 r.total] 57) := ⟨_, rfl⟩
  have k3 : Blk w1 w.heap.size 57 #[.int .i64 r.row, .int .i64 r.win, .int .i64 r.many, .int .i64 r.total] := by rw [hw1]; exact Blk.new _ _ _
  have hs1 : SlAt w1 0 1 ivs A n c l := by rw [hw1]; exact hs.alloc _
  have hx1 : SlAt w1 0 1 ivs O M co (next.take M) := by rw [hw1]; exact hx.alloc _
  have b : Below w.heap.size w w1 := by rw [hw1]; exact (Below.refl _ _).alloc (Nat.le_refl _) _
  obtain ⟨c3, f3, l3⟩ := k3.rules
  have hl := Lib.hid hs.len
  have hxl := Lib.hid hx.len
  clear ho hx hM hs
  by_cases hyn : errJ r l 1 = 0 ∧ (judgeS r l).2 = 0
  · rw [allow_yes hyn.1 hyn.2 hM2] at h1
    obtain ⟨RB, hRB⟩ : ∃ x, x = restB r l M := ⟨_, rfl⟩
    rw [← hRB] at h1
    replace hRB := Lib.hid hRB
    obtain ⟨hru, hok⟩ := errJ_ok hyn.1
    have hil := (isRes_of hok).1
    have hn256 : n ≤ 256 := by have := okRes_len hok; rw [hl.out] at this; exact this
    have hj0 := Lib.hid hyn.2
    clear hyn
    obtain ⟨xs, hxs⟩ : ∃ x, x = next.take M := ⟨_, rfl⟩
    rw [← hxs] at hx1 hxl
    clear hxs
    obtain ⟨ys, hys⟩ : ∃ x, x = restL xs := ⟨_, rfl⟩
    have hyl : Hid (ys.length = M) := by show _ = _; rw [hys, restL, List.length_map]; exact hxl.out
    replace hys := Lib.hid hys
    have hOw := fun W h => OwnQ_any l A n c 0 W (by omega) h
    cases O with
    | none =>
      have hM0 : M ≤ 0 := by
        by_cases h : 0 < M
        · obtain ⟨b9, o9, h9, -⟩ := hx1.2.2.2 h
          cases h9
        · omega
      replace hM0 := Lib.hid hM0
      go_enter Try.func15, Try.ntmps15
      go_wp2_with fail
      rw [← hw1]
      clear hw1
      refine (h1 _ hs1).mono ?_
      rintro e W ⟨rfl, hb⟩
      clear c3 f3 l3 h1
      replace k3 := k3.below hb
      replace hs1 := hs1.below hb
      replace hx1 := hx1.below hb
      replace b := b.trans (hb.mono b.size)
      clear hb
      go_wp2_with fail
      refine (hOw _ hs1).mono ?_
      rintro e V ⟨v, rfl, hv, hbV⟩
      go_wp2_with fail
      go_loopw [9, 10, 11] (fun u mo i wr => ∃ (q k m : Nat) (zs : List Int), i = .int .i64 (q : Int) ∧ k = n + q ∧ q ≤ M ∧ mo = .int .i64 (m : Int) ∧ zs.length = q ∧ isRes zs ∧ (judgeS r (l ++ zs)).2 = 0 ∧ m + restB r (l ++ zs) (M - q) = RB ∧ k ≤ 256 ∧ wr.ownsRow W.heap.size 3 1 u k ((l ++ zs).map (.int .i64 ·)) ∧ Below W.heap.size W wr) (fun u mo i wr => M - (intOf i).toNat)
      case atStart => exact ⟨0, n, 0, [], rfl, rfl, Nat.zero_le _, rfl, rfl, fun x hx => by simp at hx, by rw [List.append_nil]; exact hj0.out, by rw [List.append_nil, Nat.sub_zero]; have := hRB.out; omega, hn256, by rw [List.append_nil]; exact hv, hbV⟩
      case round =>
        clear hv hbV
        obtain ⟨q, k, m, zs, rfl, hkq, hq, rfl, hgl, hgr, hgj, hgm, hk256, hown, hb⟩ := hrel
        have hk8 : n + q ≤ k := Nat.le_of_eq hkq.symm
        have hk9 : k ≤ n + q := Nat.le_of_eq hkq
        replace hkq := Lib.hid hkq
        replace hgl := Lib.hid hgl
        replace hgj := Lib.hid hgj
        replace hgm := Lib.hid hgm
        have hown2 := hown
        obtain ⟨P, pc, rfl, hP1⟩ := SlAt.of_own (enc := ivs) hown2 (by omega) (l ++ zs) (flatMap_ivs _).symm (fun _ => rfl) (by rw [List.length_append, hl.out, hgl.out]; exact hkq.out.symm)
        clear hown2 hP1
        have hk0 : (0 : Int) ≤ (q : Int) := by omega
        by_cases hlt : q < M
        · have := hM0.out; omega
        · have hqm : q = M := by omega
          have hqn : ¬ (q : Int) < (M : Int) := by omega
          have hgm2 : RB = m := by have := hgm.out; rw [hqm, Nat.sub_self, rest_zero] at this; omega
          have u5 := IntWalk.i64_in ((n : Int) + (M : Int)) (by omega)
          replace k3 := k3.below hb
          replace hs1 := hs1.below hb
          replace hx1 := hx1.below hb
          replace b := b.trans (hb.mono b.size)
          have hnm : (n : Int) + (M : Int) ≤ 256 := by omega
          replace hqm := Lib.hid hqm
          clear hown hgm hgj hb hgl
          subst hgm2
          obtain ⟨Wb, rfl⟩ : ∃ x, x = wr := ⟨_, rfl⟩
          obtain ⟨c3, f3, l3⟩ := k3.rules
          go_wp2_with fail
          refine (hOw _ hs1).mono ?_
          rintro e V ⟨v, rfl, hv, hbV⟩
          clear c3 f3 l3 hOw
          go_wp2_with fail
          go_loopw [9, 15, 16] (fun u ct i wr => ∃ q k : Nat, i = .int .i64 (q : Int) ∧ k = n + q ∧ q ≤ M ∧ ct = .int .i64 (cnt (ys.take q) : Int) ∧ wr.ownsRow Wb.heap.size 3 1 u k ((l ++ ys.take q).map (.int .i64 ·)) ∧ Below Wb.heap.size Wb wr) (fun u ct i wr => M - (intOf i).toNat)
          case atStart => exact ⟨0, n, rfl, rfl, Nat.zero_le _, rfl, by rw [List.take_zero, List.append_nil]; exact hv, hbV⟩
          case round =>
            clear hv hbV
            obtain ⟨q, k, rfl, hkq, hq, rfl, hown, hb⟩ := hrel
            have hk8 : n + q ≤ k := Nat.le_of_eq hkq.symm
            have hk9 : k ≤ n + q := Nat.le_of_eq hkq
            replace hkq := Lib.hid hkq
            by_cases hlt : q < M
            · have := hM0.out; omega
            · obtain rfl : q = M := by omega
              rw [List.take_of_length_le (by rw [hyl.out]; exact Nat.le_refl _)] at hown
              rw [List.take_of_length_le (by rw [hyl.out]; exact Nat.le_refl _)]
              obtain ⟨P, pc, rfl, hP1⟩ := SlAt.of_own (enc := ivs) hown (by omega) (l ++ ys) (flatMap_ivs _).symm (fun _ => rfl) (by rw [List.length_append, hl.out, hyl.out]; exact hkq.out.symm)
              replace k3 := k3.below hb
              replace b := b.trans (hb.mono b.size)
              have hju := fun A n c B W h => Judge_any r (l ++ ys) A n c B W h
              have hfin : errJ r (l ++ ys) 1 = 0 → (judgeS r (l ++ ys)).2 = 0 → (cnt ys : Int) ≤ (RB : Int) := fun _ h2 => by
                have := rest_most hru ys l hil (by rw [hys.out]; exact restL_res _) h2
                rw [hyl.out, ← hRB.out] at this
                omega
              have hcl : cnt ys ≤ 64 := by have := cnt_le ys; rw [hyl.out] at this; omega
              generalize cnt ys = cq at *
              clear hown hx1 hb
              obtain ⟨c3, f3, l3⟩ := k3.rules
              unfold judgeR at hju
              by_cases her : errJ r (l ++ ys) 1 = 0
              · rw [if_pos her] at hju
                by_cases hjz : (judgeS r (l ++ ys)).2 = 0
                · have hle := hfin her hjz
                  rw [hjz] at hju
                  replace her := Lib.hid her
                  clear hfin hjz
                  generalize (judgeS r (l ++ ys)).1 = j1 at *
                  go_wp2_with fail
                  refine (hju _ _ _ _ _ hP1).mono ?_
                  rintro e W5 ⟨rfl, hb5⟩
                  replace b := b.trans (hb5.mono b.size)
                  clear hju hP1 c3 f3 l3 k3 hb5
                  go_wp2_with fail
                  refine (works_any _).mono ?_
                  rintro e W6 ⟨rfl, hb6⟩
                  go_wp2_with fail
                  go_ret
                  exact ⟨rfl, b.trans (hb6.mono b.size)⟩
                · replace her := Lib.hid her
                  clear hfin
                  generalize (judgeS r (l ++ ys)).1 = j1 at *
                  generalize (judgeS r (l ++ ys)).2 = j2 at *
                  go_wp2_with fail
                  refine (hju _ _ _ _ _ hP1).mono ?_
                  rintro e W5 ⟨rfl, hb5⟩
                  replace b := b.trans (hb5.mono b.size)
                  clear hju hP1 c3 f3 l3 k3 hb5
                  go_wp2_with fail
                  refine (works_any _).mono ?_
                  rintro e W6 ⟨rfl, hb6⟩
                  go_wp2_with fail
                  go_ret
                  exact ⟨rfl, b.trans (hb6.mono b.size)⟩
              · rw [if_neg her] at hju
                clear hfin
                generalize errJ r (l ++ ys) 1 = j2 at *
                go_wp2_with fail
                refine (hju _ _ _ _ _ hP1).mono ?_
                rintro e W5 ⟨rfl, hb5⟩
                replace b := b.trans (hb5.mono b.size)
                clear hju hP1 c3 f3 l3 k3 hb5
                go_wp2_with fail
                refine (works_any _).mono ?_
                rintro e W6 ⟨rfl, hb6⟩
                go_wp2_with fail
                go_ret
                exact ⟨rfl, b.trans (hb6.mono b.size)⟩
    | some a =>
      go_enter Try.func15, Try.ntmps15
      go_wp2_with fail
      rw [← hw1]
      clear hw1
      refine (h1 _ hs1).mono ?_
      rintro e W ⟨rfl, hb⟩
      clear c3 f3 l3 h1
      replace k3 := k3.below hb
      replace hs1 := hs1.below hb
      replace hx1 := hx1.below hb
      replace b := b.trans (hb.mono b.size)
      clear hb
      go_wp2_with fail
      refine (hOw _ hs1).mono ?_
      rintro e V ⟨v, rfl, hv, hbV⟩
      go_wp2_with fail
      go_loopw [9, 10, 11] (fun u mo i wr => ∃ (q k m : Nat) (zs : List Int), i = .int .i64 (q : Int) ∧ k = n + q ∧ q ≤ M ∧ mo = .int .i64 (m : Int) ∧ zs.length = q ∧ isRes zs ∧ (judgeS r (l ++ zs)).2 = 0 ∧ m + restB r (l ++ zs) (M - q) = RB ∧ k ≤ 256 ∧ wr.ownsRow W.heap.size 3 1 u k ((l ++ zs).map (.int .i64 ·)) ∧ Below W.heap.size W wr) (fun u mo i wr => M - (intOf i).toNat)
      case atStart => exact ⟨0, n, 0, [], rfl, rfl, Nat.zero_le _, rfl, rfl, fun x hx => by simp at hx, by rw [List.append_nil]; exact hj0.out, by rw [List.append_nil, Nat.sub_zero]; have := hRB.out; omega, hn256, by rw [List.append_nil]; exact hv, hbV⟩
      case round =>
        clear hv hbV
        obtain ⟨q, k, m, zs, rfl, hkq, hq, rfl, hgl, hgr, hgj, hgm, hk256, hown, hb⟩ := hrel
        have hk8 : n + q ≤ k := Nat.le_of_eq hkq.symm
        have hk9 : k ≤ n + q := Nat.le_of_eq hkq
        replace hkq := Lib.hid hkq
        replace hgl := Lib.hid hgl
        replace hgj := Lib.hid hgj
        replace hgm := Lib.hid hgm
        have hown2 := hown
        obtain ⟨P, pc, rfl, hP1⟩ := SlAt.of_own (enc := ivs) hown2 (by omega) (l ++ zs) (flatMap_ivs _).symm (fun _ => rfl) (by rw [List.length_append, hl.out, hgl.out]; exact hkq.out.symm)
        clear hown2 hP1
        have hk0 : (0 : Int) ≤ (q : Int) := by omega
        by_cases hlt : q < M
        · have hk1 : (q : Int) < (M : Int) := by omega
          by_cases hk2 : k < 256
          · have hk3 : (k : Int) < 256 := by omega
            have hlg : Hid ((l ++ zs).length = k) := by show _ = _; rw [List.length_append, hl.out, hgl.out]; exact hkq.out.symm
            have hlr := isRes_app hil hgr
            have hok1 : okRes (l ++ zs ++ [1]) 1 = true := isRes_ok (isRes_app hlr isRes_one) (by rw [List.length_append, hlg.out]; simp; omega)
            have hju := fun A n c B W h => Judge_any r (l ++ zs ++ [1]) A n c B W h
            unfold judgeR at hju
            rw [if_pos (errJ_mk hru hok1)] at hju
            have hm64 : m ≤ 64 := by have := restB_le r l M; have := hRB.out; have := hgm.out; omega
            have hsucc := Lib.hid (show M - q = (M - (q + 1)) + 1 by omega)
            have u2 : IntKind.i64.wrap (((k + 1 : Nat) : Int) - 1) = (k : Int) := by rw [IntWalk.i64_in _ (by omega)]; omega
            have u3 : IntKind.i64.wrap ((k : Int) + 1 - 1) = (k : Int) := by rw [IntWalk.i64_in _ (by omega)]; omega
            have u4 := IntWalk.i64_in ((m : Int) + 1) (by omega)
            have hq1 := Lib.hid (rest_one hru hlr hgj.out)
            have hq0 := Lib.hid (rest_nil hru hlr hgj.out)
            have hjn := Lib.hid (judge_nil hru hlr hgj.out)
            have hmap : ((l ++ zs).map (Value.int .i64 ·)) ++ [.int .i64 1] = (l ++ zs ++ [1]).map (.int .i64 ·) := by simp
            replace hmap := Lib.hid hmap
            have hbig1 : Hid (k + 1 ≤ maxLen) := by show k + 1 ≤ maxLen; unfold maxLen; omega
            have hbig2 : Hid ((k + 1) * 8 ≤ 140737488355328) := by show (k + 1) * 8 ≤ 140737488355328; omega
            obtain ⟨i0, hi0, hz0, hz1, hz2⟩ := info_parts Try.infoInt
            have hnews : ∀ (j : Nat) (u : Value), ([.int .i64 (1)] : List Value)[j]? = some u → (wr.alloc (.cells #[.int .i64 (1)] 3)).cell? ((⟨wr.heap.size, 0, none⟩ : Addr).add j) = some u :=
              World.news_of_block (cs := #[.int .i64 (1)]) (World.alloc_heap_new wr _)
            have hownf := hown.alloc (.cells #[.int .i64 (1)] 3)
            have hbf := hb.alloc hb.size (.cells #[.int .i64 (1)] 3)
            go_wp2_with (at_builtin; refine wpList_append_lies _ rfl (.tmp 53) (.tmp 54) 22 rfl W.heap.size 3 i0 (.int .i64 0) 1 8 Try.underlying22 hi0 hz0 hz1 hz2 rfl (by decide) (.slice P k pc) k ((l ++ zs).map (.int .i64 ·)) rfl hownf ⟨wr.heap.size, 0, none⟩ 1 1 [.int .i64 (1)] rfl rfl hnews (by simp [Value.oneCell']) (by decide) hbig1.out hbig2.out (hbf.size) (wr.heap.size + 1) (by simp) ?_; intro g cap w7 hown7 hgrow hlies hlt7; have hbg : Below W.heap.size _ w7 := ⟨hgrow.os, hgrow.tape, hgrow.output, hgrow.size, fun b hb2 => hgrow.block b (Nat.lt_of_lt_of_le hb2 hbf.size) (fun e => by have := (hownf.lt _ e.symm).1; omega)⟩; have hbh := hbf.trans hbg; obtain ⟨c3, f3, l3⟩ := (k3.below hbh).rules)
            rw [hmap.out] at hown7
            have hown8 := hown7
            obtain ⟨Z, zc, eZ, hZ⟩ := SlAt.of_own (enc := ivs) hown8 (by omega) (l ++ zs ++ [1]) (flatMap_ivs _).symm (fun _ => rfl) (by rw [List.length_append, hlg.out]; rfl)
            simp only [Value.slice.injEq, true_and] at eZ
            obtain ⟨rfl, rfl⟩ := eZ
            clear hown8 hownf hbf hbg hgrow hlies hlt7 hnews hown hb
            refine (hju _ _ _ _ _ hZ).mono ?_
            rintro e W5 ⟨rfl, hb5⟩
            replace hbh := hbh.trans (hb5.mono hbh.size)
            replace hown7 := ownsRow_below hown7 hb5
            clear hju hZ c3 f3 l3 hb5
            by_cases hjz : (judgeS r (l ++ zs ++ [1])).2 = 0
            · have hn1 := hq1.out hjz (M - (q + 1))
              generalize (judgeS r (l ++ zs ++ [1])).1 = j1 at *
              obtain ⟨jz, hjz2⟩ : ∃ z, z = (judgeS r (l ++ zs ++ [1])).2 := ⟨_, rfl⟩
              rw [← hjz2] at hjz ⊢
              subst hjz
              replace hjz2 := Lib.hid hjz2
              replace hn1 := Lib.hid hn1
              go_wp2_with fail
              go_roundw
              case rel =>
                have hgm := hgm.out
                rw [hsucc.out] at hgm
                have hn1 := hn1.out
                refine ⟨q + 1, k + 1, m + 1, zs ++ [1], by go_num, by omega, by omega, by go_num, by rw [List.length_append, hgl.out]; rfl, isRes_app hgr isRes_one, by rw [← List.append_assoc]; exact hjz2.out.symm, by rw [← List.append_assoc]; omega, by omega, by rw [← List.append_assoc]; exact hown7, hbh⟩
              case measure => simp [intOf]; omega
            · have hn1 := hq0.out hjz (M - (q + 1))
              generalize (judgeS r (l ++ zs ++ [1])).1 = j1 at *
              generalize (judgeS r (l ++ zs ++ [1])).2 = jz at *
              replace hn1 := Lib.hid hn1
              obtain ⟨v0, hcc⟩ := own_cell hown7 (j := k) (by omega)
              have hfr := hown7.frozenAt k
              have hown9 := Lib.hid ((hown7.stored k (.int .i64 0)).1)
              rw [← List.map_set, set_last _ _ _ hlg.out] at hown9
              have hgw := (hown7.lt _ rfl).1
              have hbz := hbh.setCell (p := ⟨_, k, none⟩) hgw (.int .i64 0)
              have hkk : (k : Int) < ((k + 1 : Nat) : Int) := by omega
              have hkk2 : (k : Int) < (k : Int) + 1 := by omega
              have hkp : (0 : Int) ≤ (k : Int) := by omega
              go_wp2_with fail
              go_roundw
              case rel =>
                have hgm := hgm.out
                rw [hsucc.out] at hgm
                have hn1 := hn1.out
                refine ⟨q + 1, k + 1, m, zs ++ [0], by go_num, by omega, by omega, rfl, by rw [List.length_append, hgl.out]; rfl, isRes_app hgr isRes_nil, by rw [← List.append_assoc]; exact hjn.out, by rw [← List.append_assoc]; omega, by omega, by rw [← List.append_assoc]; exact hown9.out, hbz⟩
              case measure => simp [intOf]; omega
          · have hk3 : ¬ (k : Int) < 256 := by omega
            have hnm : ¬ (n : Int) + (M : Int) ≤ 256 := by omega
            have u5 := IntWalk.i64_in ((n : Int) + (M : Int)) (by omega)
            replace k3 := k3.below hb
            replace hs1 := hs1.below hb
            replace hx1 := hx1.below hb
            replace b := b.trans (hb.mono b.size)
            clear hown hgm hgj hb
            obtain ⟨Wb, rfl⟩ : ∃ x, x = wr := ⟨_, rfl⟩
            obtain ⟨c3, f3, l3⟩ := k3.rules
            go_wp2_with fail
            refine (hOw _ hs1).mono ?_
            rintro e V ⟨v, rfl, hv, hbV⟩
            clear c3 f3 l3 hOw
            go_wp2_with fail
            go_loopw [9, 15, 16] (fun u ct i wr => ∃ q k : Nat, i = .int .i64 (q : Int) ∧ k = n + q ∧ q ≤ M ∧ ct = .int .i64 (cnt (ys.take q) : Int) ∧ wr.ownsRow Wb.heap.size 3 1 u k ((l ++ ys.take q).map (.int .i64 ·)) ∧ Below Wb.heap.size Wb wr) (fun u ct i wr => M - (intOf i).toNat)
            case atStart => exact ⟨0, n, rfl, rfl, Nat.zero_le _, rfl, by rw [List.take_zero, List.append_nil]; exact hv, hbV⟩
            case round =>
              clear hv hbV
              obtain ⟨q, k, rfl, hkq, hq, rfl, hown, hb⟩ := hrel
              have hk8 : n + q ≤ k := Nat.le_of_eq hkq.symm
              have hk9 : k ≤ n + q := Nat.le_of_eq hkq
              replace hkq := Lib.hid hkq
              by_cases hlt : q < M
              · have hk0 : (0 : Int) ≤ (q : Int) := by omega
                have hk1 : (q : Int) < (M : Int) := by omega
                obtain ⟨y, hy⟩ := some_of_lt hxl.out hlt
                obtain ⟨ba, oa, hA, -, hbl, e0⟩ := (hx1.below hb).int hy
                have hye : ys[q]? = some (restS y 2) := by rw [hys.out, restL, List.getElem?_map, hy]; rfl
                have hyt : ys.take (q + 1) = ys.take q ++ [restS y 2] := by rw [List.take_add_one, hye]; rfl
                have hyb := restS_bd y (many := 2) (by omega)
                have htk : Hid ((l ++ ys.take (q + 1)).map (Value.int .i64 ·) = (l ++ ys.take q).map (.int .i64 ·) ++ [.int .i64 (restS y 2)]) := by show _ = _; rw [hyt]; simp
                have hct : Hid ((cnt (ys.take (q + 1)) : Int) = cnt (ys.take q) + restS y 2) := by show _ = _; rw [hyt]; exact cnt_snoc _ (by omega)
                have hcl : cnt (ys.take q) ≤ 64 := by have := cnt_le (ys.take q); rw [List.length_take] at this; omega
                generalize hcq : cnt (ys.take q) = cq at *
                have u1 := IntWalk.i64_in ((cq : Int) + restS y 2) (by omega)
                have hR := fun W => Rest_any y 2 W (by omega)
                replace hy := Lib.hid hy
                clear hye hyt
                clear hbl
                cases hA
                go_wp2_with fail
                refine (hR _).mono ?_
                rintro e w' ⟨rfl, rfl⟩
                clear hR
                have hbig1 : Hid (k + 1 ≤ maxLen) := by show k + 1 ≤ maxLen; unfold maxLen; omega
                have hbig2 : Hid ((k + 1) * 8 ≤ 140737488355328) := by show (k + 1) * 8 ≤ 140737488355328; omega
                obtain ⟨i0, hi0, hz0, hz1, hz2⟩ := info_parts Try.infoInt
                have hnews : ∀ (j : Nat) (u : Value), ([.int .i64 (restS y 2)] : List Value)[j]? = some u → (wr.alloc (.cells #[.int .i64 (restS y 2)] 3)).cell? ((⟨wr.heap.size, 0, none⟩ : Addr).add j) = some u :=
                  World.news_of_block (cs := #[.int .i64 (restS y 2)]) (World.alloc_heap_new wr _)
                have hownf := hown.alloc (.cells #[.int .i64 (restS y 2)] 3)
                have hbf := hb.alloc hb.size (.cells #[.int .i64 (restS y 2)] 3)
                go_wp2_with (at_builtin; refine wpList_append_lies _ rfl (.tmp 100) (.tmp 102) 22 rfl Wb.heap.size 3 i0 (.int .i64 0) 1 8 Try.underlying22 hi0 hz0 hz1 hz2 rfl (by decide) u9 k ((l ++ ys.take q).map (.int .i64 ·)) rfl hownf ⟨wr.heap.size, 0, none⟩ 1 1 [.int .i64 (restS y 2)] rfl rfl hnews (by simp [Value.oneCell']) (by decide) hbig1.out hbig2.out (hbf.size) (wr.heap.size + 1) (by simp) ?_; intro g cap w7 hown7 hgrow hlies hlt7)
                have hbg : Below Wb.heap.size _ w7 := ⟨hgrow.os, hgrow.tape, hgrow.output, hgrow.size, fun b hb2 => hgrow.block b (Nat.lt_of_lt_of_le hb2 hbf.size) (fun e => by have := (hownf.lt _ e.symm).1; omega)⟩
                have hbh := hbf.trans hbg
                go_wp2_with fail
                go_roundw
                case rel => exact ⟨q + 1, k + 1, by go_num, by omega, by omega, by rw [hct.out], by rw [htk.out]; exact hown7, hbh⟩
                case measure => simp [intOf]; omega
              · obtain rfl : q = M := by omega
                rw [List.take_of_length_le (by rw [hyl.out]; exact Nat.le_refl _)] at hown
                rw [List.take_of_length_le (by rw [hyl.out]; exact Nat.le_refl _)]
                obtain ⟨P, pc, rfl, hP1⟩ := SlAt.of_own (enc := ivs) hown (by omega) (l ++ ys) (flatMap_ivs _).symm (fun _ => rfl) (by rw [List.length_append, hl.out, hyl.out]; exact hkq.out.symm)
                replace k3 := k3.below hb
                replace b := b.trans (hb.mono b.size)
                have hju := fun A n c B W h => Judge_any r (l ++ ys) A n c B W h
                have hfin : errJ r (l ++ ys) 1 = 0 → (judgeS r (l ++ ys)).2 = 0 → (cnt ys : Int) ≤ (RB : Int) := fun _ h2 => by
                  have := rest_most hru ys l hil (by rw [hys.out]; exact restL_res _) h2
                  rw [hyl.out, ← hRB.out] at this
                  omega
                have hcl : cnt ys ≤ 64 := by have := cnt_le ys; rw [hyl.out] at this; omega
                generalize cnt ys = cq at *
                clear hown hx1 hb
                obtain ⟨c3, f3, l3⟩ := k3.rules
                unfold judgeR at hju
                by_cases her : errJ r (l ++ ys) 1 = 0
                · rw [if_pos her] at hju
                  by_cases hjz : (judgeS r (l ++ ys)).2 = 0
                  · have hle := hfin her hjz
                    rw [hjz] at hju
                    replace her := Lib.hid her
                    clear hfin hjz
                    generalize (judgeS r (l ++ ys)).1 = j1 at *
                    go_wp2_with fail
                    refine (hju _ _ _ _ _ hP1).mono ?_
                    rintro e W5 ⟨rfl, hb5⟩
                    replace b := b.trans (hb5.mono b.size)
                    clear hju hP1 c3 f3 l3 k3 hb5
                    go_wp2_with fail
                    refine (works_any _).mono ?_
                    rintro e W6 ⟨rfl, hb6⟩
                    go_wp2_with fail
                    go_ret
                    exact ⟨rfl, b.trans (hb6.mono b.size)⟩
                  · replace her := Lib.hid her
                    clear hfin
                    generalize (judgeS r (l ++ ys)).1 = j1 at *
                    generalize (judgeS r (l ++ ys)).2 = j2 at *
                    go_wp2_with fail
                    refine (hju _ _ _ _ _ hP1).mono ?_
                    rintro e W5 ⟨rfl, hb5⟩
                    replace b := b.trans (hb5.mono b.size)
                    clear hju hP1 c3 f3 l3 k3 hb5
                    go_wp2_with fail
                    refine (works_any _).mono ?_
                    rintro e W6 ⟨rfl, hb6⟩
                    go_wp2_with fail
                    go_ret
                    exact ⟨rfl, b.trans (hb6.mono b.size)⟩
                · rw [if_neg her] at hju
                  clear hfin
                  generalize errJ r (l ++ ys) 1 = j2 at *
                  go_wp2_with fail
                  refine (hju _ _ _ _ _ hP1).mono ?_
                  rintro e W5 ⟨rfl, hb5⟩
                  replace b := b.trans (hb5.mono b.size)
                  clear hju hP1 c3 f3 l3 k3 hb5
                  go_wp2_with fail
                  refine (works_any _).mono ?_
                  rintro e W6 ⟨rfl, hb6⟩
                  go_wp2_with fail
                  go_ret
                  exact ⟨rfl, b.trans (hb6.mono b.size)⟩
        · have hqm : q = M := by omega
          have hqn : ¬ (q : Int) < (M : Int) := by omega
          have hgm2 : RB = m := by have := hgm.out; rw [hqm, Nat.sub_self, rest_zero] at this; omega
          have u5 := IntWalk.i64_in ((n : Int) + (M : Int)) (by omega)
          replace k3 := k3.below hb
          replace hs1 := hs1.below hb
          replace hx1 := hx1.below hb
          replace b := b.trans (hb.mono b.size)
          have hnm : (n : Int) + (M : Int) ≤ 256 := by omega
          replace hqm := Lib.hid hqm
          clear hown hgm hgj hb hgl
          subst hgm2
          obtain ⟨Wb, rfl⟩ : ∃ x, x = wr := ⟨_, rfl⟩
          obtain ⟨c3, f3, l3⟩ := k3.rules
          go_wp2_with fail
          refine (hOw _ hs1).mono ?_
          rintro e V ⟨v, rfl, hv, hbV⟩
          clear c3 f3 l3 hOw
          go_wp2_with fail
          go_loopw [9, 15, 16] (fun u ct i wr => ∃ q k : Nat, i = .int .i64 (q : Int) ∧ k = n + q ∧ q ≤ M ∧ ct = .int .i64 (cnt (ys.take q) : Int) ∧ wr.ownsRow Wb.heap.size 3 1 u k ((l ++ ys.take q).map (.int .i64 ·)) ∧ Below Wb.heap.size Wb wr) (fun u ct i wr => M - (intOf i).toNat)
          case atStart => exact ⟨0, n, rfl, rfl, Nat.zero_le _, rfl, by rw [List.take_zero, List.append_nil]; exact hv, hbV⟩
          case round =>
            clear hv hbV
            obtain ⟨q, k, rfl, hkq, hq, rfl, hown, hb⟩ := hrel
            have hk8 : n + q ≤ k := Nat.le_of_eq hkq.symm
            have hk9 : k ≤ n + q := Nat.le_of_eq hkq
            replace hkq := Lib.hid hkq
            by_cases hlt : q < M
            · have hk0 : (0 : Int) ≤ (q : Int) := by omega
              have hk1 : (q : Int) < (M : Int) := by omega
              obtain ⟨y, hy⟩ := some_of_lt hxl.out hlt
              obtain ⟨ba, oa, hA, -, hbl, e0⟩ := (hx1.below hb).int hy
              have hye : ys[q]? = some (restS y 2) := by rw [hys.out, restL, List.getElem?_map, hy]; rfl
              have hyt : ys.take (q + 1) = ys.take q ++ [restS y 2] := by rw [List.take_add_one, hye]; rfl
              have hyb := restS_bd y (many := 2) (by omega)
              have htk : Hid ((l ++ ys.take (q + 1)).map (Value.int .i64 ·) = (l ++ ys.take q).map (.int .i64 ·) ++ [.int .i64 (restS y 2)]) := by show _ = _; rw [hyt]; simp
              have hct : Hid ((cnt (ys.take (q + 1)) : Int) = cnt (ys.take q) + restS y 2) := by show _ = _; rw [hyt]; exact cnt_snoc _ (by omega)
              have hcl : cnt (ys.take q) ≤ 64 := by have := cnt_le (ys.take q); rw [List.length_take] at this; omega
              generalize hcq : cnt (ys.take q) = cq at *
              have u1 := IntWalk.i64_in ((cq : Int) + restS y 2) (by omega)
              have hR := fun W => Rest_any y 2 W (by omega)
              replace hy := Lib.hid hy
              clear hye hyt
              clear hbl
              cases hA
              go_wp2_with fail
              refine (hR _).mono ?_
              rintro e w' ⟨rfl, rfl⟩
              clear hR
              have hbig1 : Hid (k + 1 ≤ maxLen) := by show k + 1 ≤ maxLen; unfold maxLen; omega
              have hbig2 : Hid ((k + 1) * 8 ≤ 140737488355328) := by show (k + 1) * 8 ≤ 140737488355328; omega
              obtain ⟨i0, hi0, hz0, hz1, hz2⟩ := info_parts Try.infoInt
              have hnews : ∀ (j : Nat) (u : Value), ([.int .i64 (restS y 2)] : List Value)[j]? = some u → (wr.alloc (.cells #[.int .i64 (restS y 2)] 3)).cell? ((⟨wr.heap.size, 0, none⟩ : Addr).add j) = some u :=
                World.news_of_block (cs := #[.int .i64 (restS y 2)]) (World.alloc_heap_new wr _)
              have hownf := hown.alloc (.cells #[.int .i64 (restS y 2)] 3)
              have hbf := hb.alloc hb.size (.cells #[.int .i64 (restS y 2)] 3)
              go_wp2_with (at_builtin; refine wpList_append_lies _ rfl (.tmp 100) (.tmp 102) 22 rfl Wb.heap.size 3 i0 (.int .i64 0) 1 8 Try.underlying22 hi0 hz0 hz1 hz2 rfl (by decide) u9 k ((l ++ ys.take q).map (.int .i64 ·)) rfl hownf ⟨wr.heap.size, 0, none⟩ 1 1 [.int .i64 (restS y 2)] rfl rfl hnews (by simp [Value.oneCell']) (by decide) hbig1.out hbig2.out (hbf.size) (wr.heap.size + 1) (by simp) ?_; intro g cap w7 hown7 hgrow hlies hlt7)
              have hbg : Below Wb.heap.size _ w7 := ⟨hgrow.os, hgrow.tape, hgrow.output, hgrow.size, fun b hb2 => hgrow.block b (Nat.lt_of_lt_of_le hb2 hbf.size) (fun e => by have := (hownf.lt _ e.symm).1; omega)⟩
              have hbh := hbf.trans hbg
              go_wp2_with fail
              go_roundw
              case rel => exact ⟨q + 1, k + 1, by go_num, by omega, by omega, by rw [hct.out], by rw [htk.out]; exact hown7, hbh⟩
              case measure => simp [intOf]; omega
            · obtain rfl : q = M := by omega
              rw [List.take_of_length_le (by rw [hyl.out]; exact Nat.le_refl _)] at hown
              rw [List.take_of_length_le (by rw [hyl.out]; exact Nat.le_refl _)]
              obtain ⟨P, pc, rfl, hP1⟩ := SlAt.of_own (enc := ivs) hown (by omega) (l ++ ys) (flatMap_ivs _).symm (fun _ => rfl) (by rw [List.length_append, hl.out, hyl.out]; exact hkq.out.symm)
              replace k3 := k3.below hb
              replace b := b.trans (hb.mono b.size)
              have hju := fun A n c B W h => Judge_any r (l ++ ys) A n c B W h
              have hfin : errJ r (l ++ ys) 1 = 0 → (judgeS r (l ++ ys)).2 = 0 → (cnt ys : Int) ≤ (RB : Int) := fun _ h2 => by
                have := rest_most hru ys l hil (by rw [hys.out]; exact restL_res _) h2
                rw [hyl.out, ← hRB.out] at this
                omega
              have hcl : cnt ys ≤ 64 := by have := cnt_le ys; rw [hyl.out] at this; omega
              generalize cnt ys = cq at *
              clear hown hx1 hb
              obtain ⟨c3, f3, l3⟩ := k3.rules
              unfold judgeR at hju
              by_cases her : errJ r (l ++ ys) 1 = 0
              · rw [if_pos her] at hju
                by_cases hjz : (judgeS r (l ++ ys)).2 = 0
                · have hle := hfin her hjz
                  rw [hjz] at hju
                  replace her := Lib.hid her
                  clear hfin hjz
                  generalize (judgeS r (l ++ ys)).1 = j1 at *
                  go_wp2_with fail
                  refine (hju _ _ _ _ _ hP1).mono ?_
                  rintro e W5 ⟨rfl, hb5⟩
                  replace b := b.trans (hb5.mono b.size)
                  clear hju hP1 c3 f3 l3 k3 hb5
                  go_wp2_with fail
                  refine (works_any _).mono ?_
                  rintro e W6 ⟨rfl, hb6⟩
                  go_wp2_with fail
                  go_ret
                  exact ⟨rfl, b.trans (hb6.mono b.size)⟩
                · replace her := Lib.hid her
                  clear hfin
                  generalize (judgeS r (l ++ ys)).1 = j1 at *
                  generalize (judgeS r (l ++ ys)).2 = j2 at *
                  go_wp2_with fail
                  refine (hju _ _ _ _ _ hP1).mono ?_
                  rintro e W5 ⟨rfl, hb5⟩
                  replace b := b.trans (hb5.mono b.size)
                  clear hju hP1 c3 f3 l3 k3 hb5
                  go_wp2_with fail
                  refine (works_any _).mono ?_
                  rintro e W6 ⟨rfl, hb6⟩
                  go_wp2_with fail
                  go_ret
                  exact ⟨rfl, b.trans (hb6.mono b.size)⟩
              · rw [if_neg her] at hju
                clear hfin
                generalize errJ r (l ++ ys) 1 = j2 at *
                go_wp2_with fail
                refine (hju _ _ _ _ _ hP1).mono ?_
                rintro e W5 ⟨rfl, hb5⟩
                replace b := b.trans (hb5.mono b.size)
                clear hju hP1 c3 f3 l3 k3 hb5
                go_wp2_with fail
                refine (works_any _).mono ?_
                rintro e W6 ⟨rfl, hb6⟩
                go_wp2_with fail
                go_ret
                exact ⟨rfl, b.trans (hb6.mono b.size)⟩
  · obtain ⟨er, he, hne⟩ := allow_no hyn hM2
    rw [he] at h1
    cases O with
    | none =>
      go_enter Try.func15, Try.ntmps15
      go_wp2_with fail
      rw [← hw1]
      clear hw1
      refine (h1 _ hs1).mono ?_
      rintro e W ⟨rfl, hb⟩
      replace b := b.trans (hb.mono b.size)
      clear c3 f3 l3 h1 hb
      go_wp2_with fail
      refine (works_any _).mono ?_
      rintro e W6 ⟨rfl, hb6⟩
      go_wp2_with fail
      go_ret
      exact ⟨rfl, b.trans (hb6.mono b.size)⟩
    | some a =>
      go_enter Try.func15, Try.ntmps15
      go_wp2_with fail
      rw [← hw1]
      clear hw1
      refine (h1 _ hs1).mono ?_
      rintro e W ⟨rfl, hb⟩
      replace b := b.trans (hb.mono b.size)
      clear c3 f3 l3 h1 hb
      go_wp2_with fail
      refine (works_any _).mono ?_
      rintro e W6 ⟨rfl, hb6⟩
      go_wp2_with fail
      go_ret
      exact ⟨rfl, b.trans (hb6.mono b.size)⟩
end Go.Proofs.Ytfengddpfeneiaa
