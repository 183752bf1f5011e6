/-
  Shots, walks of the specification: bounds of a way, evened bounds, times.
-/
import Derived.Test.YtfengddpfeneiaaS32
import Derived.Test.YtfengddpfeneiaaQ14
namespace Go.Proofs.Ytfengddpfeneiaa
open Go.RowKit Go.Shelf
set_option linter.unusedSimpArgs false
set_option linter.unusedVariables false

set_option maxHeartbeats 1000000 in
theorem Rends_any (x : Bnd) (lo hi : Int) (w : World) :
    Calls Try.prog 115 #[.agg #[.int .i64 x.lo, .int .i64 x.hi], .int .i64 lo, .int .i64 hi] w fun e w' => e = .returned (.bool (decide (lo ≤ x.lo ∧ x.lo ≤ x.hi ∧ x.hi ≤ hi))) ∧ Below w.heap.size w w' := by
  have b := (Below.refl w.heap.size w).alloc (Nat.le_refl _) (.cells #[.int .i64 x.lo, .int .i64 x.hi] 62)
  obtain ⟨d, hd⟩ : ∃ d, d = decide (lo ≤ x.lo ∧ x.lo ≤ x.hi ∧ x.hi ≤ hi) := ⟨_, rfl⟩
  rw [← hd]
  by_cases q1 : lo ≤ x.lo
  · by_cases q2 : x.lo ≤ x.hi
    · by_cases q3 : x.hi ≤ hi
      · have hv : Hid (d = true) := hd.trans (decide_eq_true ⟨q1, q2, q3⟩)
        clear hd
        have q4 : x.lo ≥ lo := q1
        go_enter Try.func115, Try.ntmps115
        go_wp2_with fail
        go_ret
        exact ⟨ret_bool hv.out.symm, b⟩
      · have hv : Hid (d = false) := hd.trans (decide_eq_false (fun h => q3 h.2.2))
        clear hd
        have q4 : x.lo ≥ lo := q1
        go_enter Try.func115, Try.ntmps115
        go_wp2_with fail
        go_ret
        exact ⟨ret_bool hv.out.symm, b⟩
    · have hv : Hid (d = false) := hd.trans (decide_eq_false (fun h => q2 h.2.1))
      clear hd
      have q4 : x.lo ≥ lo := q1
      go_enter Try.func115, Try.ntmps115
      go_wp2_with fail
      go_ret
      exact ⟨ret_bool hv.out.symm, b⟩
  · have hv : Hid (d = false) := hd.trans (decide_eq_false (fun h => q1 h.1))
    clear hd
    have q4 : ¬ (x.lo ≥ lo) := q1
    go_enter Try.func115, Try.ntmps115
    go_wp2_with fail
    go_ret
    exact ⟨ret_bool hv.out.symm, b⟩
theorem okDists_no2 {bl : List Bnd} {k : Nat} {x : Bnd} (h : bl[k]? = some x) (hx : okDist x = false) : okDists bl = false := by
  unfold okDists
  rw [all_no h hx]; simp
set_option maxRecDepth 100000 in
set_option maxHeartbeats 1000000 in
theorem Rbounds_any (bl : List Bnd) (A : Option Addr) (n c B : Nat) (w : World) (hs : SlAt w B 2 Bnd.cells A n c bl) :
    Calls Try.prog 132 #[.slice A n c] w fun e w' => e = .returned (.bool (okDists bl)) ∧ Below w.heap.size w w' := by
  have hn := hs.le
  have hl := Lib.hid hs.len
  go_enter Try.func132, Try.ntmps132
  go_wp2
  go_loopw [3] (fun i wr => ∃ k : Nat, i = .int .i64 (k : Int) ∧ k ≤ n ∧ (bl.take k).all okDist = true ∧ Below w.heap.size w wr) (fun i wr => n - (intOf i).toNat)
  case atStart => exact ⟨0, rfl, Nat.zero_le _, rfl, Below.refl _ _⟩
  case round =>
    obtain ⟨k, rfl, hk, hall, hb⟩ := hrel
    replace hall := Lib.hid hall
    by_cases hlt : k < n
    · obtain ⟨x, hx⟩ := some_of_lt hl.out hlt
      obtain ⟨bb, off, hA, -, hbl, c0, c1⟩ := (hs.below hb).bnd hx
      have hk0 : (0 : Int) ≤ (k : Int) := by omega
      have hk1 : (k : Int) < (n : Int) := by omega
      have hE := fun W => Rends_any x 0 1048576 W
      rw [show (decide ((0 : Int) ≤ x.lo ∧ x.lo ≤ x.hi ∧ x.hi ≤ 1048576)) = okDist x from rfl] at hE
      subst hA
      cases hq : okDist x with
      | true =>
        have h2 := Lib.hid (allTake_succ hall.out hx hq)
        rw [hq] at hE
        clear hx hq
        go_wp2_with fail
        refine (hE _).mono ?_
        rintro e w' ⟨rfl, hbe⟩
        go_wp2_with fail
        go_roundw
        case rel => exact ⟨k + 1, by go_num, by omega, h2.out, hb.trans (hbe.mono hb.size)⟩
        case measure => simp [intOf]; omega
      | false =>
        have h2 := Lib.hid (okDists_no2 hx hq)
        rw [hq] at hE
        clear hx hq
        go_wp2_with fail
        refine (hE _).mono ?_
        rintro e w' ⟨rfl, hbe⟩
        go_wp2_with fail
        go_ret
        exact ⟨ret_bool h2.out.symm, hb.trans (hbe.mono hb.size)⟩
    · obtain rfl : k = n := by omega
      have hB := fun W => Between_any (k : Int) 1 512 W
      have hv : Hid (okDists bl = decide (1 ≤ (k : Int) ∧ (k : Int) ≤ 512)) := by
        show _ = _
        have := hall.out
        rw [List.take_of_length_le (by rw [hl.out]; exact Nat.le_refl _)] at this
        unfold okDists
        rw [this, hl.out, Bool.and_true]
        exact dec_eq (by omega)
      go_wp2_with fail
      refine (hB _).mono ?_
      rintro e w' ⟨rfl, rfl⟩
      go_wp2_with fail
      go_ret
      exact ⟨ret_bool (by rw [hv.out, Bool.decide_and]), hb⟩
theorem own_apart {w w' : World} {B s n : Nat} {e : TypeId} {u v : Value} {xs : List Value} (h : w.ownsRow B e s v n xs) (hg : w.grownBy w' u.ownBlock) (hd : ∀ q, u.ownBlock = some q → v.ownBlock = some q → False) : w'.ownsRow B e s v n xs :=
  h.kept hg (by
    by_cases h0 : v.ownBlock = none
    · exact .inl h0
    · obtain ⟨q, hq⟩ := Option.ne_none_iff_exists'.1 h0
      exact .inr (fun e => hd q (by rw [← e]; exact hq) hq))
def RetEvR (b : List Bnd) (n : Nat) (w : World) (e : Ending) (w' : World) : Prop :=
  ∃ L cl H ch, e = .returned (.tuple #[.slice L n cl, .slice H n ch, .bool (okEven b)]) ∧ SlAt w' w.heap.size 1 ivs L n cl (lowsL b) ∧ SlAt w' w.heap.size 1 ivs H n ch (highsL b) ∧ Below w.heap.size w w'
set_option maxRecDepth 100000 in
set_option maxHeartbeats 4000000 in
theorem Reven_any (b : List Bnd) (A : Option Addr) (n c B : Nat) (w : World) (hn : n ≤ 1000) (hs : SlAt w B 2 Bnd.cells A n c b) :
    Calls Try.prog 133 #[.slice A n c] w (RetEvR b n w) := by
  have hl := Lib.hid hs.len
  have hmin := min2_int
  have hmax := max2_int
  obtain ⟨i0, hi0, hz0, hz1, hz2⟩ := info_parts Try.infoInt
  go_enter Try.func133, Try.ntmps133
  go_wp2_with fail
  go_loopw [5, 6, 7, 8] (fun v u o i wr => ∃ t : Nat, i = .int .i64 (t : Int) ∧ t ≤ n ∧ o = .bool (evenTo b t) ∧ wr.ownsRow w.heap.size 3 1 v t (((lowsL b).take t).map (.int .i64 ·)) ∧ wr.ownsRow w.heap.size 3 1 u t (((highsL b).take t).map (.int .i64 ·)) ∧ (∀ q, v.ownBlock = some q → u.ownBlock = some q → False) ∧ Below w.heap.size w wr) (fun v u o i wr => n - (intOf i).toNat)
  case atStart => exact ⟨0, rfl, Nat.zero_le _, rfl, ⟨rfl, .inl ⟨rfl, rfl⟩⟩, ⟨rfl, .inl ⟨rfl, rfl⟩⟩, (fun q h => by cases h), Below.refl _ _⟩
  case round =>
    obtain ⟨t, rfl, ht, rfl, rv, ru, hvu, hb⟩ := hrel
    by_cases hlt : t < n
    · obtain ⟨x, hx⟩ := some_of_lt hl.out hlt
      have hsw := hs.below hb
      obtain ⟨ba, oa, hA, -, -, e0, e1⟩ := hsw.bnd hx
      have hxd : b.getD t ⟨0, 0⟩ = x := by rw [List.getD_eq_getElem?_getD, hx]; rfl
      have htb : t < b.length := by rw [hl.out]; exact hlt
      have hk0 : (0 : Int) ≤ (t : Int) := by omega
      have hk1 : (t : Int) < (n : Int) := by omega
      have htL : Hid (((lowsL b).take (t + 1)).map (Value.int .i64 ·) = ((lowsL b).take t).map (.int .i64 ·) ++ [.int .i64 (lowT b t)]) := by show _ = _; rw [List.take_add_one, lowsL_at b htb]; simp
      have htH : Hid (((highsL b).take (t + 1)).map (Value.int .i64 ·) = ((highsL b).take t).map (.int .i64 ·) ++ [.int .i64 (highT b t)]) := by show _ = _; rw [List.take_add_one, highsL_at b htb]; simp
      have hsh : Hid (hiTo b t t = x.hi) := by show _ = _; rw [hiTo_start, hxd]
      have hsl : Hid (loTo b t 0 = x.lo) := by show _ = _; rw [loTo, hxd]
      have heh : Hid (hiTo b t n = highT b t) := by show _ = _; rw [← hl.out]; exact hiTo_end htb
      have hel : Hid (loTo b t t = lowT b t) := loTo_end b t
      have hev := Lib.hid (evenTo_succ b t)
      replace hx := Lib.hid hx
      replace hvu := Lib.hid hvu
      clear hxd
      subst hA
      go_wp2_with fail
      go_quiet (fail)
      replace rv : (wr.drewN nq).ownsRow _ _ _ _ _ _ := rv
      replace ru : (wr.drewN nq).ownsRow _ _ _ _ _ _ := ru
      replace hb := below_drewN hb nq
      replace hsw := hsw.drewN nq
      clear e0 e1
      generalize wr.drewN nq = V at *
      clear wr
      go_wp2_with fail
      go_loopw [9, 11] (fun h i wq => ∃ k : Nat, i = .int .i64 (k : Int) ∧ k ≤ t ∧ h = .int .i64 (loTo b t k) ∧ wq = V) (fun h i wq => n - (intOf i).toNat)
      case atStart => exact ⟨0, rfl, Nat.zero_le _, by rw [hsl.out], rfl⟩
      case round =>
        obtain ⟨k, rfl, hkt, rfl, hwq⟩ := hrel
        rw [hwq]
        clear hwq wr
        by_cases hkl : k < t
        · obtain ⟨y, hy⟩ := some_of_lt hl.out (show k < n by omega)
          obtain ⟨ba2, oa2, hA2, -, hbl2, e2, e3⟩ := hsw.bnd hy
          cases hA2
          have hq0 : (0 : Int) ≤ (k : Int) := by omega
          have hq1 : (k : Int) < (n : Int) := by omega
          have hq2 : (k : Int) < (t : Int) := by omega
          have hsc : Hid (loTo b t (k + 1) = max (loTo b t k) y.lo) := by show _ = _; rw [loTo, List.getD_eq_getElem?_getD, hy]; rfl
          replace hy := Lib.hid hy
          go_wp2_with fail
          go_roundw
          case rel => exact ⟨k + 1, by go_num, by omega, by rw [hsc.out], by first | rfl | trivial⟩
          case measure => simp [intOf]; omega
        · obtain rfl : k = t := by omega
          rw [hel.out]
          go_wp2_with fail
          go_loopw [10, 12] (fun h i wq => ∃ q : Nat, i = .int .i64 (q : Int) ∧ k ≤ q ∧ q ≤ n ∧ h = .int .i64 (hiTo b k q) ∧ wq = V) (fun h i wq => n - (intOf i).toNat)
          case atStart => exact ⟨k, rfl, Nat.le_refl _, ht, by rw [hsh.out], rfl⟩
          case round =>
            obtain ⟨q, rfl, hkq, hqn, rfl, hwq⟩ := hrel
            rw [hwq]
            clear hwq wr
            by_cases hql : q < n
            · obtain ⟨y, hy⟩ := some_of_lt hl.out hql
              obtain ⟨ba2, oa2, hA2, -, hbl2, e2, e3⟩ := hsw.bnd hy
              cases hA2
              have hq0 : (0 : Int) ≤ (q : Int) := by omega
              have hq1 : (q : Int) < (n : Int) := by omega
              have hsc := Lib.hid (hiTo_succ hkq hy)
              replace hy := Lib.hid hy
              go_wp2_with fail
              go_roundw
              case rel => exact ⟨q + 1, by go_num, by omega, by omega, by rw [hsc.out], by first | rfl | trivial⟩
              case measure => simp [intOf]; omega
            · obtain rfl : q = n := by omega
              rw [heh.out]
              generalize highT b k = h1 at *
              generalize lowT b k = l1 at *
              generalize evenTo b k = o at *
              have hbig1 : Hid (k + 1 ≤ maxLen) := by show k + 1 ≤ maxLen; unfold maxLen; omega
              have hbig2 : Hid ((k + 1) * 8 ≤ 140737488355328) := by show (k + 1) * 8 ≤ 140737488355328; omega
              have hnews : ∀ (j : Nat) (u : Value), ([.int .i64 l1] : List Value)[j]? = some u → (V.alloc (.cells #[.int .i64 l1] 3)).cell? ((⟨V.heap.size, 0, none⟩ : Addr).add j) = some u :=
                World.news_of_block (cs := #[.int .i64 l1]) (World.alloc_heap_new V _)
              have rvf := rv.alloc (.cells #[.int .i64 l1] 3)
              have ruf := ru.alloc (.cells #[.int .i64 l1] 3)
              have hbf := hb.alloc hb.size (.cells #[.int .i64 l1] 3)
              have hvlt := fun q e => rvf.lt q e
              have hult := fun q e => ru.lt q e
              cases o with
              | true =>
                go_wp2_with (at_builtin; first | (refine wpList_append_lies _ rfl (.tmp 55) (.tmp 57) 22 rfl w.heap.size 3 i0 (.int .i64 0) 1 8 Try.underlying22 hi0 hz0 hz1 hz2 rfl (by decide) u5 k (((lowsL b).take k).map (.int .i64 ·)) rfl rvf ⟨V.heap.size, 0, none⟩ 1 1 [.int .i64 l1] rfl rfl hnews (by simp [Value.oneCell']) (by decide) hbig1.out hbig2.out hbf.size (V.heap.size + 1) (by simp) ?_; intro g cap w7 rv7 hgrow hlies hlt7; have ru7 := own_apart ruf hgrow hvu.out; have hbg : Below w.heap.size _ w7 := ⟨hgrow.os, hgrow.tape, hgrow.output, hgrow.size, fun b hb2 => hgrow.block b (Nat.lt_of_lt_of_le hb2 hbf.size) (fun e => by have := (hvlt _ e.symm).1; omega)⟩; have hbh := hbf.trans hbg; have ru7f := ru7.alloc (.cells #[.int .i64 h1] 3); have rv7f := rv7.alloc (.cells #[.int .i64 h1] 3); have hbh2 := hbh.alloc hbh.size (.cells #[.int .i64 h1] 3)) | (refine wpList_append_lies _ rfl (.tmp 59) (.tmp 61) 22 rfl w.heap.size 3 i0 (.int .i64 0) 1 8 Try.underlying22 hi0 hz0 hz1 hz2 rfl (by decide) u6 k (((highsL b).take k).map (.int .i64 ·)) rfl ru7f ⟨w7.heap.size, 0, none⟩ 1 1 [.int .i64 h1] rfl rfl (World.news_of_block (cs := #[.int .i64 h1]) (World.alloc_heap_new w7 _)) (by simp [Value.oneCell']) (by decide) hbig1.out hbig2.out hbh2.size (w7.heap.size + 1) (by simp) ?_; intro g2 cap2 w8 ru8 hgrow2 hlies2 hlt8))
                have hd1 : ∀ q, u6.ownBlock = some q → (Value.slice (some ⟨g, 0, none⟩) (k + 1) cap).ownBlock = some q → False := fun q h1 h2 => by
                  simp only [Value.ownBlock, Option.some.injEq] at h2
                  subst h2
                  rcases hlies with h | h
                  · exact hvu.out _ h h1
                  · have := hult _ h1; omega
                have rv8 := own_apart rv7f hgrow2 hd1
                have hg7 := (rv7.lt g rfl).2
                have hd2 : ∀ q, (Value.slice (some ⟨g, 0, none⟩) (k + 1) cap).ownBlock = some q → (Value.slice (some ⟨g2, 0, none⟩) (k + 1) cap2).ownBlock = some q → False := fun q h1 h2 => by
                  simp only [Value.ownBlock, Option.some.injEq] at h1 h2
                  subst h1
                  subst h2
                  rcases hlies2 with h | h
                  · exact hd1 _ h rfl
                  · omega
                have hbg2 : Below w.heap.size _ w8 := ⟨hgrow2.os, hgrow2.tape, hgrow2.output, hgrow2.size, fun b hb2 => hgrow2.block b (Nat.lt_of_lt_of_le hb2 hbh2.size) (fun e => by have := (ru7f.lt _ e.symm).1; omega)⟩
                have hbz := hbh2.trans hbg2
                go_roundw
                case rel => exact ⟨k + 1, by go_num, by omega, by rw [hev.out]; first | rfl | simp, by rw [htL.out]; exact rv8, by rw [htH.out]; exact ru8, hd2, hbz⟩
                case measure => simp [intOf]; omega
              | false =>
                go_wp2_with (at_builtin; first | (refine wpList_append_lies _ rfl (.tmp 55) (.tmp 57) 22 rfl w.heap.size 3 i0 (.int .i64 0) 1 8 Try.underlying22 hi0 hz0 hz1 hz2 rfl (by decide) u5 k (((lowsL b).take k).map (.int .i64 ·)) rfl rvf ⟨V.heap.size, 0, none⟩ 1 1 [.int .i64 l1] rfl rfl hnews (by simp [Value.oneCell']) (by decide) hbig1.out hbig2.out hbf.size (V.heap.size + 1) (by simp) ?_; intro g cap w7 rv7 hgrow hlies hlt7; have ru7 := own_apart ruf hgrow hvu.out; have hbg : Below w.heap.size _ w7 := ⟨hgrow.os, hgrow.tape, hgrow.output, hgrow.size, fun b hb2 => hgrow.block b (Nat.lt_of_lt_of_le hb2 hbf.size) (fun e => by have := (hvlt _ e.symm).1; omega)⟩; have hbh := hbf.trans hbg; have ru7f := ru7.alloc (.cells #[.int .i64 h1] 3); have rv7f := rv7.alloc (.cells #[.int .i64 h1] 3); have hbh2 := hbh.alloc hbh.size (.cells #[.int .i64 h1] 3)) | (refine wpList_append_lies _ rfl (.tmp 59) (.tmp 61) 22 rfl w.heap.size 3 i0 (.int .i64 0) 1 8 Try.underlying22 hi0 hz0 hz1 hz2 rfl (by decide) u6 k (((highsL b).take k).map (.int .i64 ·)) rfl ru7f ⟨w7.heap.size, 0, none⟩ 1 1 [.int .i64 h1] rfl rfl (World.news_of_block (cs := #[.int .i64 h1]) (World.alloc_heap_new w7 _)) (by simp [Value.oneCell']) (by decide) hbig1.out hbig2.out hbh2.size (w7.heap.size + 1) (by simp) ?_; intro g2 cap2 w8 ru8 hgrow2 hlies2 hlt8))
                have hd1 : ∀ q, u6.ownBlock = some q → (Value.slice (some ⟨g, 0, none⟩) (k + 1) cap).ownBlock = some q → False := fun q h1 h2 => by
                  simp only [Value.ownBlock, Option.some.injEq] at h2
                  subst h2
                  rcases hlies with h | h
                  · exact hvu.out _ h h1
                  · have := hult _ h1; omega
                have rv8 := own_apart rv7f hgrow2 hd1
                have hg7 := (rv7.lt g rfl).2
                have hd2 : ∀ q, (Value.slice (some ⟨g, 0, none⟩) (k + 1) cap).ownBlock = some q → (Value.slice (some ⟨g2, 0, none⟩) (k + 1) cap2).ownBlock = some q → False := fun q h1 h2 => by
                  simp only [Value.ownBlock, Option.some.injEq] at h1 h2
                  subst h1
                  subst h2
                  rcases hlies2 with h | h
                  · exact hd1 _ h rfl
                  · omega
                have hbg2 : Below w.heap.size _ w8 := ⟨hgrow2.os, hgrow2.tape, hgrow2.output, hgrow2.size, fun b hb2 => hgrow2.block b (Nat.lt_of_lt_of_le hb2 hbh2.size) (fun e => by have := (ru7f.lt _ e.symm).1; omega)⟩
                have hbz := hbh2.trans hbg2
                go_roundw
                case rel => exact ⟨k + 1, by go_num, by omega, by rw [hev.out]; first | rfl | simp, by rw [htL.out]; exact rv8, by rw [htH.out]; exact ru8, hd2, hbz⟩
                case measure => simp [intOf]; omega
    · obtain rfl : t = n := by omega
      rw [List.take_of_length_le (by rw [lowsL_len, hl.out]; exact Nat.le_refl _)] at rv
      rw [List.take_of_length_le (by rw [highsL_len, hl.out]; exact Nat.le_refl _)] at ru
      obtain ⟨P, pc, rfl, hP1⟩ := SlAt.of_own (enc := ivs) rv (by omega) (lowsL b) (flatMap_ivs _).symm (fun _ => rfl) (by rw [lowsL_len]; exact hl.out)
      obtain ⟨Q, qc, rfl, hQ1⟩ := SlAt.of_own (enc := ivs) ru (by omega) (highsL b) (flatMap_ivs _).symm (fun _ => rfl) (by rw [highsL_len]; exact hl.out)
      have he : evenTo b t = okEven b := by rw [← evenTo_end, hl.out]
      rw [he]
      clear rv ru hvu
      go_wp2_with fail
      go_ret3
      exact ⟨P, pc, Q, qc, rfl, hP1, hQ1, hb⟩
set_option maxRecDepth 100000 in
set_option maxHeartbeats 1000000 in
theorem Rasked_any (f : Fir) (bl : List Bnd) (A : Option Addr) (n c B : Nat) (w : World) (hs : SlAt w B 2 Bnd.cells A n c bl) :
    Calls Try.prog 96 #[.agg #[.int .i64 f.start, .int .i64 f.every, .int .i64 f.srcs, .int .i64 f.shots, .int .i64 f.charge], .slice A n c] w fun e w' => e = .returned (.int .i64 (errT f bl)) ∧ Below w.heap.size w w' := by
  have h1 := fun W => RCheckFiring_any f W
  have h2 := fun W h => Rbounds_any bl A n c B W h
  obtain ⟨w1, hw1⟩ : ∃ w1, w1 = w.alloc (.cells #[.int .i64 f.start, .int .i64 f.every, .int .i64 f.srcs, .int .i64 f.shots, .int .i64 f.charge] 38) := ⟨_, rfl⟩
  have k3 : Blk w1 w.heap.size 38 #[.int .i64 f.start, .int .i64 f.every, .int .i64 f.srcs, .int .i64 f.shots, .int .i64 f.charge] := by rw [hw1]; exact Blk.new _ _ _
  have b : Below w.heap.size w w1 := by rw [hw1]; exact (Below.refl _ _).alloc (Nat.le_refl _) _
  have hs1 : SlAt w1 B 2 Bnd.cells A n c bl := by rw [hw1]; exact hs.alloc _
  have hl := Lib.hid hs.len
  clear hs
  unfold chkFir at h1
  by_cases hf : okFir f = true
  · rw [if_pos hf] at h1
    by_cases hd : okDists bl = true
    · rw [hd] at h2
      have hn : n ≤ 1000 := by have := (okDists_is hd).1; rw [hl.out] at this; omega
      have h3 := fun W h => Reven_any bl A n c B W hn h
      unfold RetEvR at h3
      cases he : okEven bl with
      | true =>
        have hv : Hid (errT f bl = 0) := errT_mk hf hd he
        simp only [he] at h3
        clear he
        go_enter Try.func96, Try.ntmps96
        go_wp2_with fail
        rw [← hw1]
        clear hw1
        obtain ⟨c3, f3, l3⟩ := k3.rules
        go_wp2_with fail
        refine (h1 _).mono ?_
        rintro e W ⟨rfl, hb⟩
        clear c3 f3 l3 h1
        replace k3 := k3.below hb
        replace b := b.trans (hb.mono b.size)
        replace hs1 := hs1.below hb
        clear hb
        go_wp2_with fail
        refine (h2 _ hs1).mono ?_
        rintro e W2 ⟨rfl, hb⟩
        replace hs1 := hs1.below hb
        replace b := b.trans (hb.mono b.size)
        clear hb h2
        go_wp2_with fail
        refine (h3 _ hs1).mono ?_
        rintro e W3 ⟨L, cl, H, ch, rfl, -, -, hb⟩
        clear h3
        go_wp2_with fail
        go_ret
        exact ⟨ret_int hv.out.symm, b.trans (hb.mono b.size)⟩
      | false =>
        have hv : Hid (errT f bl = 4) := by show _ = _; unfold errT; rw [if_pos hf, if_pos hd, if_neg (by rw [he]; decide)]
        simp only [he] at h3
        clear he
        go_enter Try.func96, Try.ntmps96
        go_wp2_with fail
        rw [← hw1]
        clear hw1
        obtain ⟨c3, f3, l3⟩ := k3.rules
        go_wp2_with fail
        refine (h1 _).mono ?_
        rintro e W ⟨rfl, hb⟩
        clear c3 f3 l3 h1
        replace k3 := k3.below hb
        replace b := b.trans (hb.mono b.size)
        replace hs1 := hs1.below hb
        clear hb
        go_wp2_with fail
        refine (h2 _ hs1).mono ?_
        rintro e W2 ⟨rfl, hb⟩
        replace hs1 := hs1.below hb
        replace b := b.trans (hb.mono b.size)
        clear hb h2
        go_wp2_with fail
        refine (h3 _ hs1).mono ?_
        rintro e W3 ⟨L, cl, H, ch, rfl, -, -, hb⟩
        clear h3
        go_wp2_with fail
        go_ret
        exact ⟨ret_int hv.out.symm, b.trans (hb.mono b.size)⟩
    · have hd2 : okDists bl = false := by simpa using hd
      have hv : Hid (errT f bl = 53) := by show _ = _; unfold errT; rw [if_pos hf, if_neg hd]
      rw [hd2] at h2
      go_enter Try.func96, Try.ntmps96
      go_wp2_with fail
      rw [← hw1]
      clear hw1
      obtain ⟨c3, f3, l3⟩ := k3.rules
      go_wp2_with fail
      refine (h1 _).mono ?_
      rintro e W ⟨rfl, hb⟩
      clear c3 f3 l3 h1
      replace k3 := k3.below hb
      replace b := b.trans (hb.mono b.size)
      replace hs1 := hs1.below hb
      clear hb
      go_wp2_with fail
      refine (h2 _ hs1).mono ?_
      rintro e W2 ⟨rfl, hb⟩
      clear h2
      go_wp2_with fail
      go_ret
      exact ⟨ret_int hv.out.symm, b.trans (hb.mono b.size)⟩
  · rw [if_neg hf] at h1
    have hv : Hid (errT f bl = 52) := by show _ = _; unfold errT; rw [if_neg hf]
    go_enter Try.func96, Try.ntmps96
    go_wp2_with fail
    rw [← hw1]
    clear hw1
    obtain ⟨c3, f3, l3⟩ := k3.rules
    go_wp2_with fail
    refine (h1 _).mono ?_
    rintro e W ⟨rfl, hb⟩
    clear c3 f3 l3 h1
    replace k3 := k3.below hb
    replace b := b.trans (hb.mono b.size)
    replace hs1 := hs1.below hb
    clear hb
    go_wp2_with fail
    go_ret
    exact ⟨ret_int hv.out.symm, b⟩
set_option maxRecDepth 100000 in
set_option maxHeartbeats 2000000 in
theorem Rtimes_any (f : Fir) (bl : List Bnd) (hf : okFir f = true) (A : Option Addr) (n c B : Nat) (w : World) (hn : n ≤ 1000) (hs : SlAt w B 2 Bnd.cells A n c bl) :
    Calls Try.prog 97 #[.agg #[.int .i64 f.start, .int .i64 f.every, .int .i64 f.srcs, .int .i64 f.shots, .int .i64 f.charge], .slice A n c] w fun e w' => ∃ O co, e = .returned (.slice O f.shots.toNat co) ∧ SlAt w' w.heap.size 2 Bnd.cells O f.shots.toNat co (timeL f bl) ∧ Below w.heap.size w w' := by
  have h3 := fun W h => Reven_any bl A n c B W hn h
  unfold RetEvR at h3
  obtain ⟨w1, hw1⟩ : ∃ w1, w1 = w.alloc (.cells #[.int .i64 f.start, .int .i64 f.every, .int .i64 f.srcs, .int .i64 f.shots, .int .i64 f.charge] 38) := ⟨_, rfl⟩
  have k3 : Blk w1 w.heap.size 38 #[.int .i64 f.start, .int .i64 f.every, .int .i64 f.srcs, .int .i64 f.shots, .int .i64 f.charge] := by rw [hw1]; exact Blk.new _ _ _
  have b : Below w.heap.size w w1 := by rw [hw1]; exact (Below.refl _ _).alloc (Nat.le_refl _) _
  have hs1 : SlAt w1 B 2 Bnd.cells A n c bl := by rw [hw1]; exact hs.alloc _
  clear hs
  have hfo := okFir_is hf
  have hre0 := Lib.hid (fun l far O no co B W (hsx : SlAt W B 1 ivs O no co l) => Rreaches_any l far O no co B W hsx)
  have hdb := Lib.hid (fun k (hk : k ≤ 1000) => dueS_bd hfo (n := k) hk)
  obtain ⟨p1, p2, p3, p4, p5, p6, p7, p8, p9, p10⟩ := hfo
  go_enter Try.func97, Try.ntmps97
  go_wp2_with fail
  rw [← hw1]
  clear hw1
  refine (h3 _ hs1).mono ?_
  rintro e W ⟨L, cl, H, ch, rfl, hsL, hsH, hb⟩
  clear h3 hs1
  replace k3 := k3.below hb
  have hwb : Hid (w.heap.size ≤ W.heap.size) := by show _ ≤ _; have := b.size; have := hb.size; omega
  replace b := b.trans (hb.mono b.size)
  clear hb
  replace hsL := hsL.mono (Nat.zero_le _)
  replace hsH := hsH.mono (Nat.zero_le _)
  generalize okEven bl = ok at *
  go_wp2_with fail
  go_loopw [8, 9] (fun v i wr => ∃ k : Nat, i = .int .i64 (k : Int) ∧ k ≤ f.shots.toNat ∧ wr.ownsRow W.heap.size 62 2 v k (((List.range k).map (timeS f bl)).flatMap Bnd.cells) ∧ Below W.heap.size W wr) (fun v i wr => f.shots.toNat - (intOf i).toNat)
  case atStart => exact ⟨0, rfl, Nat.zero_le _, ⟨rfl, .inl ⟨rfl, rfl⟩⟩, Below.refl _ _⟩
  case round =>
    obtain ⟨k, rfl, hk, hown, hb⟩ := hrel
    have k30 := k3
    replace k3 := k3.below hb
    obtain ⟨c3, f3, l3⟩ := k3.rules
    by_cases hlt : k < f.shots.toNat
    · have hk1 : (k : Int) < f.shots := by omega
      have hk0 : (0 : Int) ≤ (k : Int) := by omega
      have hdbk := hdb.out k (by omega)
      have hme : 0 ≤ (k : Int) * f.every := Int.mul_nonneg hk0 (by omega)
      have hue : dueS f k = f.start + (k : Int) * f.every := rfl
      rw [hue] at hdbk
      have v1 := IntWalk.i64_in ((k : Int) * f.every) (by omega)
      have v2 := IntWalk.i64_in (f.start + (k : Int) * f.every) (by omega)
      have hnx : Hid (timeS f bl k = ⟨reachS (highsL bl) (f.start + (k : Int) * f.every) 0, reachS (lowsL bl) (f.start + (k : Int) * f.every) 0⟩) := rfl
      have hreH := fun W hsx => hre0.out (highsL bl) (f.start + (k : Int) * f.every) H n ch 0 W hsx
      have hreL := fun W hsx => hre0.out (lowsL bl) (f.start + (k : Int) * f.every) L n cl 0 W hsx
      generalize reachS (highsL bl) (f.start + (k : Int) * f.every) 0 = xa at *
      generalize reachS (lowsL bl) (f.start + (k : Int) * f.every) 0 = xb at *
      clear hdbk hme hue
      have hbig1 : Hid (k + 1 ≤ maxLen) := by show k + 1 ≤ maxLen; unfold maxLen; omega
      have hbig2 : Hid ((k + 1) * 16 ≤ 140737488355328) := by show (k + 1) * 16 ≤ 140737488355328; omega
      obtain ⟨i0, hi0, hz0, hz1, hz2⟩ := info_parts Try.infoBnd
      have hL2 := hsL.below hb
      have hH2 := hsH.below hb
      go_wp2_with fail
      refine (hreH _ hH2).mono ?_
      rintro e Wa ⟨rfl, hb2⟩
      replace hL2 := hL2.below hb2
      replace hown := ownsRow_below hown hb2
      replace hb := hb.trans (hb2.mono hb.size)
      clear hb2 hreH c3 f3 l3
      go_wp2_with fail
      refine (hreL _ hL2).mono ?_
      rintro e we ⟨rfl, hb2⟩
      replace hown := ownsRow_below hown hb2
      replace hb := hb.trans (hb2.mono hb.size)
      clear hb2 hreL
      have hnews : ∀ (j : Nat) (u : Value), ([.int .i64 xa, .int .i64 xb] : List Value)[j]? = some u → (we.alloc (.cells #[.int .i64 xa, .int .i64 xb] 62)).cell? ((⟨we.heap.size, 0, none⟩ : Addr).add j) = some u :=
        World.news_of_block (cs := #[.int .i64 xa, .int .i64 xb]) (World.alloc_heap_new we _)
      have hownf := hown.alloc (.cells #[.int .i64 xa, .int .i64 xb] 62)
      have hbf := hb.alloc hb.size (.cells #[.int .i64 xa, .int .i64 xb] 62)
      go_wp2_with (at_builtin; refine wpList_append_lies _ rfl (.tmp 30) (.tmp 38) 47 rfl W.heap.size 62 i0 (.agg #[.int .i64 0, .int .i64 0]) 2 16 Try.underlying47 hi0 hz0 hz1 hz2 rfl (by decide) u8 k (((List.range k).map (timeS f bl)).flatMap Bnd.cells) rfl hownf ⟨we.heap.size, 0, none⟩ 1 1 [.int .i64 xa, .int .i64 xb] rfl rfl hnews (by simp [Value.oneCell']) (by decide) hbig1.out hbig2.out hbf.size (we.heap.size + 1) (by simp) ?_; intro g cap w7 hown7 hgrow hlies hlt7)
      have hbg : Below W.heap.size _ w7 := ⟨hgrow.os, hgrow.tape, hgrow.output, hgrow.size, fun b hb2 => hgrow.block b (Nat.lt_of_lt_of_le hb2 hbf.size) (fun e => by have := (hownf.lt _ e.symm).1; omega)⟩
      have hbh := hbf.trans hbg
      go_roundw
      case rel =>
        refine ⟨k + 1, by go_num, by omega, ?_, hbh⟩
        rw [mapRange_succ, List.flatMap_append, hnx.out]
        exact hown7
      case measure => simp [intOf]; omega
    · obtain rfl : k = f.shots.toNat := by omega
      have hx : ¬ ((f.shots.toNat : Nat) : Int) < f.shots := by omega
      obtain ⟨O, co, rfl, h1⟩ := SlAt.of_own (enc := Bnd.cells) hown (by omega) (timeL f bl) rfl (fun _ => rfl) (by simp [timeL])
      clear hown
      go_wp2_with fail
      go_ret
      exact ⟨O, co, rfl, h1.mono hwb.out, b.trans (hb.mono b.size)⟩
set_option maxRecDepth 100000 in
set_option maxHeartbeats 1000000 in
theorem RTimes_any (f : Fir) (bl : List Bnd) (A : Option Addr) (n c B : Nat) (w : World) (hs : SlAt w B 2 Bnd.cells A n c bl) :
    Calls Try.prog 36 #[.agg #[.int .i64 f.start, .int .i64 f.every, .int .i64 f.srcs, .int .i64 f.shots, .int .i64 f.charge], .slice A n c] w (RetSl 2 Bnd.cells (timeR f bl) w) := by
  have h1 := fun W h => Rasked_any f bl A n c B W h
  have hl := Lib.hid hs.len
  obtain ⟨w1, hw1⟩ : ∃ w1, w1 = w.alloc (.cells #[.int .i64 f.start, .int .i64 f.every, .int .i64 f.srcs, .int .i64 f.shots, .int .i64 f.charge] 38) := ⟨_, rfl⟩
  have k3 : Blk w1 w.heap.size 38 #[.int .i64 f.start, .int .i64 f.every, .int .i64 f.srcs, .int .i64 f.shots, .int .i64 f.charge] := by rw [hw1]; exact Blk.new _ _ _
  have b : Below w.heap.size w w1 := by rw [hw1]; exact (Below.refl _ _).alloc (Nat.le_refl _) _
  have hs1 : SlAt w1 B 2 Bnd.cells A n c bl := by rw [hw1]; exact hs.alloc _
  clear hs
  by_cases he : errT f bl = 0
  · have hv : Hid (timeR f bl = (timeL f bl, 0)) := by show _ = _; unfold timeR; rw [if_pos he]
    obtain ⟨hf, hd, hev⟩ := errT_ok he
    have hn : n ≤ 1000 := by have := (okDists_is hd).1; rw [hl.out] at this; omega
    have h2 := fun W h => Rtimes_any f bl hf A n c B W hn h
    simp only [he] at h1
    clear hf hd hev he
    go_enter Try.func36, Try.ntmps36
    go_wp2_with fail
    rw [← hw1]
    clear hw1
    obtain ⟨c3, f3, l3⟩ := k3.rules
    go_wp2_with fail
    refine (h1 _ hs1).mono ?_
    rintro e W ⟨rfl, hb⟩
    clear c3 f3 l3 h1
    replace k3 := k3.below hb
    replace b := b.trans (hb.mono b.size)
    replace hs1 := hs1.below hb
    clear hb
    obtain ⟨c3, f3, l3⟩ := k3.rules
    go_wp2_with fail
    refine (h2 _ hs1).mono ?_
    rintro e W2 ⟨P, pc, rfl, hP, hb⟩
    go_wp2_with fail
    go_ret2
    rw [hv.out]
    exact ⟨P, _, pc, rfl, hP.mono b.size, b.trans (hb.mono b.size)⟩
  · have hv : Hid (timeR f bl = ([], errT f bl)) := by show _ = _; unfold timeR; rw [if_neg he]
    generalize errT f bl = er at *
    have hz : (er != 0) = true := by rw [bne_iff_ne]; exact he
    replace he := Lib.hid he
    go_enter Try.func36, Try.ntmps36
    go_wp2_with fail
    rw [← hw1]
    clear hw1
    obtain ⟨c3, f3, l3⟩ := k3.rules
    go_wp2_with fail
    refine (h1 _ hs1).mono ?_
    rintro e W ⟨rfl, hb⟩
    clear c3 f3 l3 h1
    go_wp2_with fail
    go_ret2
    rw [hv.out]
    exact RetSl.none_ (b.trans (hb.mono b.size))
end Go.Proofs.Ytfengddpfeneiaa
