/-
  Shots, walks of the specification: Bound.
-/
import Derived.Test.YtfengddpfeneiaaS39
namespace Go.Proofs.Ytfengddpfeneiaa
open Go.RowKit Go.Shelf
set_option linter.unusedSimpArgs false
set_option linter.unusedVariables false

theorem badS_step {l : List Int} (hl : isRes l) {f j : Nat} (hf : f ≤ j) {y : Int} (hy : l[j]? = some y) : badS l (f : Int) ((j + 1 : Nat) : Int) = badS l (f : Int) (j : Int) + y := by
  have hj := (List.getElem?_eq_some_iff.1 hy).1
  rw [badS_p l (f := f) (t := j + 1) (by omega) (by omega) (by omega), badS_p l (f := f) (t := j) (by omega) (by omega) hf, pN_succ hj, List.getD_eq_getElem?_getD, hy, Option.getD_some]
  rcases hl y (List.mem_of_getElem? hy) with rfl | rfl <;> simp <;> omega
theorem badS_start (l : List Int) (f : Nat) : badS l (f : Int) (f : Int) = 0 := by
  rw [badS_p l (f := f) (t := f) (by omega) (by omega) (Nat.le_refl _)]; omega
set_option maxRecDepth 100000 in
set_option maxHeartbeats 8000000 in
theorem RBound_any (r : Rul) (l : List Int) (p : List Clm) (A P : Option Addr) (n c np cp B : Nat) (w : World) (hs : SlAt w B 1 ivs A n c l) (hp : SlAt w B 2 Clm.cells P np cp p) :
    Calls Try.prog 50 #[.agg #[.int .i64 r.row, .int .i64 r.win, .int .i64 r.many, .int .i64 r.total], .slice A n c, .slice P np cp] w fun e w' => e = .returned (.tuple #[.int .i64 (boundR r l p).1, .int .i64 (boundR r l p).2]) ∧ Below w.heap.size w w' := by
  have h1 := fun W h => Rgiven_any r l 1 A n c B W h
  obtain ⟨w1, hw1⟩ : ∃ w1, w1 = w.alloc (.cells #[.int .i64 r.row, .int .i64 r.win, .int .i64 r.many, .int .i64 r.total] 57) := ⟨_, rfl⟩
  have k3 : Blk w1 w.heap.size 57 #[.int .i64 r.row, .int .i64 r.win, .int .i64 r.many, .int .i64 r.total] := by rw [hw1]; exact Blk.new _ _ _
  have b : Below w.heap.size w w1 := by rw [hw1]; exact (Below.refl _ _).alloc (Nat.le_refl _) _
  have hs1 : SlAt w1 B 1 ivs A n c l := by rw [hw1]; exact hs.alloc _
  have hl := Lib.hid hs.len
  have hlp := Lib.hid hp.len
  have hs0 := Lib.hid hs
  have hp0 := Lib.hid hp
  have hpl := hp.le
  clear hs hp
  by_cases her : errJ r l 1 = 0
  · obtain ⟨hr, hres⟩ := errJ_ok her
    have hrs := isRes_of hres
    have hn256 : n ≤ 256 := by have := hrs.2; rw [hl.out] at this; exact this
    have hl256 : Hid (l.length ≤ 256) := by show _ ≤ _; rw [hl.out]; exact hn256
    rw [her] at h1
    by_cases hm : np ≤ 1024
    · have hbn := fun h => boundR_none (p := p) her (by rw [hlp.out]; exact hm) h
      have hbs := fun N h => boundR_some (p := p) (N := N) her (by rw [hlp.out]; exact hm) h
      replace hbn := Lib.hid hbn
      replace hbs := Lib.hid hbs
      replace hres := Lib.hid hres
      replace hrs := Lib.hid hrs.1
      replace her := Lib.hid her
      have hmax := max2_int
      have hm1 : ¬ (np : Int) > 1024 := by omega
      obtain ⟨i0, hi0, hz0, hz1, hz2⟩ := info_parts Try.infoInt
      have hc1 := Lib.hid (show i0.bytes * n ≤ 281474976710656 by rw [hz2]; omega)
      have hc2 := Lib.hid (show n ≤ maxLen by unfold maxLen; omega)
      go_enter Try.func50, Try.ntmps50
      go_wp2_with fail
      rw [← hw1]
      clear hw1
      obtain ⟨c3, f3, l3⟩ := k3.rules
      go_wp2_with fail
      refine (h1 _ hs1).mono ?_
      rintro e W ⟨rfl, hb⟩
      clear c3 f3 l3 h1
      replace k3 := k3.below hb
      replace b := b.trans (hb.mono b.size)
      clear hb hs1
      go_wp2_with (at_make; refine wpList_make_full _ rfl _ _ 22 rfl W.heap.size 3 i0 (.int .i64 0) 1 Try.underlying22 hi0 hz0 hz1 _ _ _ _ n rfl rfl rfl rfl hc1.out hc2.out (Nat.le_refl _) ?_; intro w2 hown hgrow)
      have hgW : w.heap.size < W.heap.size := k3.lt
      replace k3 := k3.grown hgrow (by simp)
      replace b := b.grown hgrow b.size (fun k e => by cases e)
      have hown0 : w2.ownsRow W.heap.size 3 1 (.slice (some ⟨W.heap.size, 0, none⟩) n n) n ((covL r l (p.take 0)).map (Value.int .i64)) := by
        rw [List.take_zero, covL_nil, hl.out, List.map_replicate]
        rw [madeCells_int] at hown
        exact hown
      clear hown hgrow
      generalize W.heap.size = g9 at *
      go_loopw [9, 11] (fun v i wr => ∃ (k : Nat) (N : Int), i = .int .i64 (k : Int) ∧ v = .int .i64 N ∧ k ≤ np ∧ claimTo r l (p.take k) = some N ∧ wr.ownsRow g9 3 1 (.slice (some ⟨g9, 0, none⟩) n n) n ((covL r l (p.take k)).map (Value.int .i64)) ∧ Blk wr w.heap.size 57 #[.int .i64 r.row, .int .i64 r.win, .int .i64 r.many, .int .i64 r.total] ∧ Below w.heap.size w wr) (fun v i wr => np - (intOf i).toNat)
      case atStart => exact ⟨0, 0, rfl, rfl, Nat.zero_le _, rfl, hown0, k3, b⟩
      case round =>
        clear hown0 k3 b
        obtain ⟨k, N, rfl, rfl, hk, hN, hown, k3, b⟩ := hrel
        have hNb := claimTo_bd hr hl256.out _ _ hN
        have hlen9 : (p.take k).length = k := by rw [List.length_take, hlp.out]; omega
        rw [hlen9] at hNb
        replace hlen9 := Lib.hid hlen9
        have hkb : (k : Int) ≤ 1024 := by omega
        obtain ⟨hN1, hN2⟩ := hNb
        replace hN := Lib.hid hN
        by_cases hlt : k < np
        · have hk0 : (0 : Int) ≤ (k : Int) := by omega
          have hk1 : (k : Int) < (np : Int) := by omega
          obtain ⟨x, hx⟩ := some_of_lt hlp.out hlt
          have hp1 := hp0.out.below b
          have hs1 := hs0.out.below b
          obtain ⟨bb, oo, hA, -, hbl, e0, e1⟩ := hp1.clm hx
          subst hA
          clear hp1
          have hsp := fun W h => Rclaimed_any r hr l x A n c B W hn256 h
          unfold RetClm at hsp
          have hk3l := k3.lt
          replace hx := Lib.hid hx
          go_wp2_with fail
          have hSb : Hid (∀ W', Below wr.heap.size wr W' → (fun w' : World => (∀ i, w'.cell? ⟨w.heap.size, i, none⟩ = #[Value.int .i64 r.row, .int .i64 r.win, .int .i64 r.many, .int .i64 r.total][i]?) ∧ w'.cell? ⟨bb, oo + k * 2, none⟩ = some (.int .i64 x.rule) ∧ w'.cell? ⟨bb, oo + k * 2 + 1, none⟩ = some (.int .i64 x.fr)) W') := by
            show ∀ _, _
            intro W' hbb
            exact ⟨(k3.below hbb).cell, (hbb.cell (p := ⟨bb, oo + k * 2, none⟩) hbl).trans e0, (hbb.cell (p := ⟨bb, oo + k * 2 + 1, none⟩) hbl).trans e1⟩
          refine wp_held_np (fun w' : World => (∀ i, w'.cell? ⟨w.heap.size, i, none⟩ = #[Value.int .i64 r.row, .int .i64 r.win, .int .i64 r.many, .int .i64 r.total][i]?) ∧ w'.cell? ⟨bb, oo + k * 2, none⟩ = some (.int .i64 x.rule) ∧ w'.cell? ⟨bb, oo + k * 2 + 1, none⟩ = some (.int .i64 x.fr)) (by kernel_rfl) ?_
          have hb9 : Below wr.heap.size wr wr.drew := (Below.refl _ _).drew
          have hSx := hSb.out _ hb9
          generalize wr.drew = wd at *
          refine held_take (i := 0) (v := ?_) 35 rfl rfl (by kernel_rfl) (by kernel_rfl) (by kernel_rfl) (fun _ _ _ h => h) (Or.inl ⟨by rfl, ?_⟩) hSx ?_
          rotate_left 1
          · intro w' hSw
            try dsimp only at hSw
            obtain ⟨q1, q2, q3⟩ := hSw
            go_simp
            all_goals with_reducible rfl
          try simp only [Act.put, List.setIfInBounds_toArray, List.set_cons_zero, List.set_cons_succ]
          refine held_take (i := 1) (v := ?_) 36 rfl rfl (by kernel_rfl) (by kernel_rfl) (by kernel_rfl) (fun _ _ _ h => h) (Or.inl ⟨by rfl, ?_⟩) hSx ?_
          rotate_left 1
          · intro w' hSw
            try dsimp only at hSw
            obtain ⟨q1, q2, q3⟩ := hSw
            go_simp
            all_goals with_reducible rfl
          try simp only [Act.put, List.setIfInBounds_toArray, List.set_cons_zero, List.set_cons_succ]
          refine held_take (i := 2) (v := ?_) 37 rfl rfl (by kernel_rfl) (by kernel_rfl) (by kernel_rfl) (fun _ _ _ h => h) (Or.inl ⟨by rfl, ?_⟩) hSx ?_
          rotate_left 1
          · intro w' hSw
            try dsimp only at hSw
            obtain ⟨q1, q2, q3⟩ := hSw
            go_simp
            all_goals with_reducible rfl
          try simp only [Act.put, List.setIfInBounds_toArray, List.set_cons_zero, List.set_cons_succ]
          refine held_take (i := 3) (v := ?_) 38 rfl rfl (by kernel_rfl) (by kernel_rfl) (by kernel_rfl) (fun _ _ _ h => h) (Or.inl ⟨by rfl, ?_⟩) hSx ?_
          rotate_left 1
          · intro w' hSw
            try dsimp only at hSw
            obtain ⟨q1, q2, q3⟩ := hSw
            go_simp
            all_goals with_reducible rfl
          try simp only [Act.put, List.setIfInBounds_toArray, List.set_cons_zero, List.set_cons_succ]
          refine held_take (i := 4) (v := ?_) 39 rfl rfl (by kernel_rfl) (by kernel_rfl) (by kernel_rfl) (fun _ _ _ h => h) (Or.inl ⟨by rfl, ?_⟩) hSx ?_
          rotate_left 1
          · intro w' hSw
            try dsimp only at hSw
            obtain ⟨q1, q2, q3⟩ := hSw
            go_simp
            all_goals with_reducible rfl
          try simp only [Act.put, List.setIfInBounds_toArray, List.set_cons_zero, List.set_cons_succ]
          refine held_take (i := 5) (v := ?_) 40 rfl rfl (by kernel_rfl) (by kernel_rfl) (by kernel_rfl) (fun _ _ _ h => h) (Or.inl ⟨by rfl, ?_⟩) hSx ?_
          rotate_left 1
          · intro w' hSw
            try dsimp only at hSw
            obtain ⟨q1, q2, q3⟩ := hSw
            go_simp
            all_goals with_reducible rfl
          try simp only [Act.put, List.setIfInBounds_toArray, List.set_cons_zero, List.set_cons_succ]
          refine wpAnyH_fin (f := fun a (q : Nat × Int × Int × Int) => ((((((a.put (some 41) (.tuple #[.agg #[.int .i64 q.2.1, .int .i64 q.2.2.1, .int .i64 q.2.2.2], .bool (spanS r l x).isSome])).put (some 34) (.tuple #[.agg #[.int .i64 q.2.1, .int .i64 q.2.2.1, .int .i64 q.2.2.2], .bool (spanS r l x).isSome])).put (some 42) (.agg #[.int .i64 q.2.1, .int .i64 q.2.2.1, .int .i64 q.2.2.2])).put (some 43) (.bool (spanS r l x).isSome)).put (some 12) (.pointer (some ⟨q.1, 0, none⟩))).put (some 13) (.bool (spanS r l x).isSome))) (B := fun q W' => Blk W' q.1 153 #[.int .i64 q.2.1, .int .i64 q.2.2.1, .int .i64 q.2.2.2] ∧ (∀ s, spanS r l x = some s → q.2.1 = s.fr ∧ q.2.2.1 = s.to ∧ q.2.2.2 = s.most) ∧ wr.heap.size ≤ q.1 ∧ Below wr.heap.size wr W') ?_ (fun hrest => ?_)
          · rintro ⟨g9', a0, a1, a2⟩ W3 ⟨k9, hSs, hg9, hb10⟩
            try simp only [Act.put, List.setIfInBounds_toArray, List.set_cons_zero, List.set_cons_succ]
            refine noPanic_normal ?_
            dsimp only at k9 hSs hg9
            clear hSx hSb hb9 hsp e0 e1
            have hgl := (hown.lt g9 rfl).2
            have hownA := ownsRow_below hown hb10
            have k3a := k3.below hb10
            have bz := b.trans (hb10.mono b.size)
            have hs2 := hs1.below hb10
            have hne : g9' ≠ g9 := by omega
            have hgS : w.heap.size < g9' := by omega
            clear hown k3 b hb10 hs1 hgl hg9 hbl hk3l
            cases hsx : spanS r l x with
            | none =>
              have hno := hbn.out (claimTo_none hx.out hsx)
              clear hSs
              simp only [Option.isSome_none]
              replace hsx := Lib.hid hsx
              go_wp2_with fail
              go_ret2
              exact ⟨by rw [hno]; rfl, bz⟩
            | some s =>
              obtain ⟨rfl, rfl, rfl⟩ := hSs s hsx
              clear hSs
              simp only [Option.isSome_some]
              have hsb := span_bd hr hsx
              rw [hl.out] at hsb
              obtain ⟨sb1, sb2, sb3, sb4, sb5, sb6⟩ := hsb
              have hcm := Lib.hid (covM_end (r := r) (l := l) (k := k) hx.out hsx)
              have hN2 := claimTo_snoc r l x (p.take k)
              rw [hN.out, hsx] at hN2
              have hN3 : Hid (claimTo r l (p.take (k + 1)) = some (N + (badS l s.fr s.to - s.most))) := by
                show _ = _
                rw [List.take_add_one, hx.out]; exact hN2
              clear hN2
              replace hsx := Lib.hid hsx
              obtain ⟨f, hf⟩ : ∃ f : Nat, s.fr = f := ⟨s.fr.toNat, by omega⟩
              obtain ⟨t, ht⟩ : ∃ t : Nat, s.to = t := ⟨s.to.toNat, by omega⟩
              have hst := covM_start r l (p.take k) (f : Int)
              rw [hf, ht] at hN3 hcm k9
              rw [hf] at sb1 sb2 sb4
              rw [ht] at sb2 sb3
              rw [hf, ht]
              obtain ⟨mo, hmo⟩ : ∃ mo, s.most = mo := ⟨_, rfl⟩
              rw [hmo] at hN3 sb5 sb6 k9
              rw [hmo]
              replace hf := Lib.hid hf
              replace ht := Lib.hid ht
              replace hmo := Lib.hid hmo
              have u1 := IntWalk.i64_in (N - mo) (by omega)
              have hbs0 := Lib.hid (badS_start l f)
              obtain ⟨cS, fS, lS⟩ := k9.rules
              go_wp2_with fail
              clear cS fS lS
              rw [← hst] at hownA
              go_loopw [9, 14] (fun v i wr => ∃ j : Nat, i = .int .i64 (j : Int) ∧ f ≤ j ∧ j ≤ t ∧ v = .int .i64 (N - mo + badS l (f : Int) (j : Int)) ∧ wr.ownsRow g9 3 1 (.slice (some ⟨g9, 0, none⟩) n n) n ((covM r l (p.take k) (f : Int) (j : Int)).map (Value.int .i64)) ∧ Blk wr g9' 153 #[.int .i64 (f : Int), .int .i64 (t : Int), .int .i64 mo] ∧ Blk wr w.heap.size 57 #[.int .i64 r.row, .int .i64 r.win, .int .i64 r.many, .int .i64 r.total] ∧ Below w.heap.size w wr) (fun v i wr => t - (intOf i).toNat)
              case atStart => exact ⟨f, rfl, Nat.le_refl _, by omega, by rw [hbs0.out, Int.add_zero], hownA, k9, k3a, bz⟩
              case round =>
                clear hownA k9 k3a bz hs2
                obtain ⟨j, rfl, hj1, hj2, rfl, hown, kS, k3, b⟩ := hrel
                obtain ⟨cS, fS, lS⟩ := kS.rules
                by_cases hjt : j < t
                · have hj0 : (0 : Int) ≤ (j : Int) := by omega
                  have hj3 : (j : Int) < (t : Int) := by omega
                  have hj4 : (j : Int) < (n : Int) := by omega
                  have hjl : j < l.length := by rw [hl.out]; omega
                  have hs2 := hs0.out.below b
                  obtain ⟨y, hy⟩ := some_of_lt hl.out (show j < n by omega)
                  obtain ⟨by_, oy, hAy, -, -, ey⟩ := hs2.int hy
                  subst hAy
                  have hce := hown.cellAt j (by omega)
                  rw [List.getElem?_map, covM_at r l (p.take k) hjl] at hce
                  simp only [Option.map_some] at hce
                  have hcb := coverS_bd r l j (p.take k)
                  rw [hlen9.out] at hcb
                  have hset := Lib.hid (covM_set r l (p.take k) hjl (fr := (f : Int)) (by omega))
                  have hbst := Lib.hid (badS_step hrs.out hj1 hy)
                  have hy01 := hrs.out y (List.mem_of_getElem? hy)
                  have hbbd := badS_bd l (f : Int) (j : Int)
                  rw [hl.out] at hbbd
                  generalize coverS r l j (p.take k) = cv at *
                  generalize badS l (f : Int) (j : Int) = bd at *
                  obtain ⟨hcb1, hcb2⟩ := hcb
                  obtain ⟨hbb1, hbb2⟩ := hbbd
                  have u0 := IntWalk.i64_in (N - mo + bd + y) (by omega)
                  have u1 := IntWalk.i64_in (cv + 1) (by omega)
                  have u2 := IntWalk.i64_in ((j : Int) + 1) (by omega)
                  have hfr := hown.frozenAt j
                  have hown3 := Lib.hid ((hown.stored j (.int .i64 (cv + 1))).1)
                  rw [← List.map_set, hset.out] at hown3
                  have bz := b.setCell (p := ⟨g9, j, none⟩) (by dsimp only; omega) (.int .i64 (cv + 1))
                  have kSz := kS.far (p := ⟨g9, j, none⟩) (by dsimp only; omega) (.int .i64 (cv + 1))
                  have k3z := k3.far (p := ⟨g9, j, none⟩) (by dsimp only; omega) (.int .i64 (cv + 1))
                  replace hy := Lib.hid hy
                  clear hy01 hs2
                  go_wp2_with fail
                  clear cS fS lS
                  go_roundw
                  case rel => exact ⟨j + 1, by go_num, by omega, by omega, by rw [hbst.out, Int.add_assoc], by push_cast; exact hown3.out, kSz, k3z, bz⟩
                  case measure => simp [intOf]; omega
                · obtain rfl : j = t := by omega
                  rw [hcm.out] at hown
                  have hnew : Hid (N - mo + badS l (f : Int) (j : Int) = N + (badS l (f : Int) (j : Int) - mo)) := by show _ = _; omega
                  generalize badS l (f : Int) (j : Int) = bd at *
                  go_wp2_with fail
                  go_roundw
                  case rel => exact ⟨k + 1, N + (bd - mo), by go_num, by rw [hnew.out], by omega, hN3.out, hown, k3, b⟩
                  case measure => simp [intOf]; omega
          · try simp only [Act.put, List.setIfInBounds_toArray, List.set_cons_zero, List.set_cons_succ] at hrest
            refine held_two (i := 6) (j := 10) (by kernel_rfl) rfl rfl rfl rfl (fun K hK => ?_) (fun K hK => ?_)
            · skip
              go_simp
              refine (hsp _ (hs1.below hb9)).mono ?_
              rintro e X1 ⟨a0, a1, a2, rfl, hSs, hbel⟩
              replace hb9 := hb9.trans (hbel.mono hb9.size)
              try replace k9 := k9.below hbel
              clear hSx hbel
              have hSx := hSb.out _ hb9
              refine hK _ _ hSx ?_
              clear hK K
              try simp only [Act.put, List.setIfInBounds_toArray, List.set_cons_zero, List.set_cons_succ]
              refine held_take (i := 7) (v := ?_) 34 rfl rfl (by kernel_rfl) (by kernel_rfl) (by kernel_rfl) (fun _ _ _ h => h) (Or.inl ⟨by rfl, ?_⟩) hSx ?_
              rotate_left 1
              · intro w' hSw
                try dsimp only at hSw
                obtain ⟨q1, q2, q3⟩ := hSw
                go_simp
                all_goals with_reducible rfl
              try simp only [Act.put, List.setIfInBounds_toArray, List.set_cons_zero, List.set_cons_succ]
              refine held_take (i := 8) (v := ?_) 42 rfl rfl (by kernel_rfl) (by kernel_rfl) (by kernel_rfl) (fun _ _ _ h => h) (Or.inl ⟨by rfl, ?_⟩) hSx ?_
              rotate_left 1
              · intro w' hSw
                try dsimp only at hSw
                obtain ⟨q1, q2, q3⟩ := hSw
                go_simp
                all_goals with_reducible rfl
              try simp only [Act.put, List.setIfInBounds_toArray, List.set_cons_zero, List.set_cons_succ]
              refine held_take (i := 9) (v := ?_) 43 rfl rfl (by kernel_rfl) (by kernel_rfl) (by kernel_rfl) (fun _ _ _ h => h) (Or.inl ⟨by rfl, ?_⟩) hSx ?_
              rotate_left 1
              · intro w' hSw
                try dsimp only at hSw
                obtain ⟨q1, q2, q3⟩ := hSw
                go_simp
                all_goals with_reducible rfl
              try simp only [Act.put, List.setIfInBounds_toArray, List.set_cons_zero, List.set_cons_succ]
              refine held_one (i := 10) (by kernel_rfl) rfl rfl (fun K hK => ?_)
              go_simp
              have hgg := hb9.size
              have k9 := Blk.new X1 153 #[.int .i64 0, .int .i64 0, .int .i64 0]
              replace hb9 := hb9.alloc hb9.size (.cells #[.int .i64 0, .int .i64 0, .int .i64 0] 153)
              clear hSx
              have hSx := hSb.out _ hb9
              refine hK _ _ hSx ?_
              clear hK K
              try simp only [Act.put, List.setIfInBounds_toArray, List.set_cons_zero, List.set_cons_succ]
              generalize X1.heap.size = g9 at *
              generalize X1.alloc (.cells #[.int .i64 0, .int .i64 0, .int .i64 0] 153) = X2 at *
              refine held_one (i := 11) (by kernel_rfl) rfl rfl (fun K hK => ?_)
              have kz := ((k9.set_ 0 (.int .i64 a0)).set_ 1 (.int .i64 a1)).set_ 2 (.int .i64 a2)
              simp only [List.setIfInBounds_toArray, List.set_cons_zero, List.set_cons_succ] at kz
              have bz := ((hb9.setCell (p := ⟨g9, 0, none⟩) (by dsimp only; omega) (.int .i64 a0)).setCell (p := ⟨g9, 1, none⟩) (by dsimp only; omega) (.int .i64 a1)).setCell (p := ⟨g9, 2, none⟩) (by dsimp only; omega) (.int .i64 a2)
              obtain ⟨X3, hwz⟩ : ∃ y, y = ((X2.setCell ⟨g9, 0, none⟩ (.int .i64 a0)).setCell ⟨g9, 1, none⟩ (.int .i64 a1)).setCell ⟨g9, 2, none⟩ (.int .i64 a2) := ⟨_, rfl⟩
              rw [← hwz] at kz bz
              obtain ⟨c9, f9, l9⟩ := k9.rules
              go_simp
              rw [← hwz]
              clear hwz c9 f9 l9 hSx
              have hSx := hSb.out _ bz
              refine hK _ _ hSx ?_
              clear hK K
              try simp only [Act.put, List.setIfInBounds_toArray, List.set_cons_zero, List.set_cons_succ]
              refine held_take (i := 12) (v := ?_) 13 rfl rfl (by kernel_rfl) (by kernel_rfl) (by kernel_rfl) (fun _ _ _ h => h) (Or.inl ⟨by rfl, ?_⟩) hSx ?_
              rotate_left 1
              · intro w' hSw
                try dsimp only at hSw
                obtain ⟨q1, q2, q3⟩ := hSw
                go_simp
                all_goals with_reducible rfl
              try simp only [Act.put, List.setIfInBounds_toArray, List.set_cons_zero, List.set_cons_succ]
              refine wpAnyH_done (by kernel_rfl) (hrest (g9, a0, a1, a2) _ ⟨kz, hSs, (by dsimp only; omega), bz⟩) _
            · skip
              go_simp
              have hgg := hb9.size
              have k9 := Blk.new wd 153 #[.int .i64 0, .int .i64 0, .int .i64 0]
              replace hb9 := hb9.alloc hb9.size (.cells #[.int .i64 0, .int .i64 0, .int .i64 0] 153)
              clear hSx
              have hSx := hSb.out _ hb9
              refine hK _ _ hSx ?_
              clear hK K
              try simp only [Act.put, List.setIfInBounds_toArray, List.set_cons_zero, List.set_cons_succ]
              generalize wd.heap.size = g9 at *
              generalize wd.alloc (.cells #[.int .i64 0, .int .i64 0, .int .i64 0] 153) = X4 at *
              refine held_one (i := 6) (by kernel_rfl) rfl rfl (fun K hK => ?_)
              go_simp
              refine (hsp _ (hs1.below hb9)).mono ?_
              rintro e X5 ⟨a0, a1, a2, rfl, hSs, hbel⟩
              replace hb9 := hb9.trans (hbel.mono hb9.size)
              try replace k9 := k9.below hbel
              clear hSx hbel
              have hSx := hSb.out _ hb9
              refine hK _ _ hSx ?_
              clear hK K
              try simp only [Act.put, List.setIfInBounds_toArray, List.set_cons_zero, List.set_cons_succ]
              refine held_take (i := 7) (v := ?_) 34 rfl rfl (by kernel_rfl) (by kernel_rfl) (by kernel_rfl) (fun _ _ _ h => h) (Or.inl ⟨by rfl, ?_⟩) hSx ?_
              rotate_left 1
              · intro w' hSw
                try dsimp only at hSw
                obtain ⟨q1, q2, q3⟩ := hSw
                go_simp
                all_goals with_reducible rfl
              try simp only [Act.put, List.setIfInBounds_toArray, List.set_cons_zero, List.set_cons_succ]
              refine held_take (i := 8) (v := ?_) 42 rfl rfl (by kernel_rfl) (by kernel_rfl) (by kernel_rfl) (fun _ _ _ h => h) (Or.inl ⟨by rfl, ?_⟩) hSx ?_
              rotate_left 1
              · intro w' hSw
                try dsimp only at hSw
                obtain ⟨q1, q2, q3⟩ := hSw
                go_simp
                all_goals with_reducible rfl
              try simp only [Act.put, List.setIfInBounds_toArray, List.set_cons_zero, List.set_cons_succ]
              refine held_take (i := 9) (v := ?_) 43 rfl rfl (by kernel_rfl) (by kernel_rfl) (by kernel_rfl) (fun _ _ _ h => h) (Or.inl ⟨by rfl, ?_⟩) hSx ?_
              rotate_left 1
              · intro w' hSw
                try dsimp only at hSw
                obtain ⟨q1, q2, q3⟩ := hSw
                go_simp
                all_goals with_reducible rfl
              try simp only [Act.put, List.setIfInBounds_toArray, List.set_cons_zero, List.set_cons_succ]
              refine held_one (i := 11) (by kernel_rfl) rfl rfl (fun K hK => ?_)
              have kz := ((k9.set_ 0 (.int .i64 a0)).set_ 1 (.int .i64 a1)).set_ 2 (.int .i64 a2)
              simp only [List.setIfInBounds_toArray, List.set_cons_zero, List.set_cons_succ] at kz
              have bz := ((hb9.setCell (p := ⟨g9, 0, none⟩) (by dsimp only; omega) (.int .i64 a0)).setCell (p := ⟨g9, 1, none⟩) (by dsimp only; omega) (.int .i64 a1)).setCell (p := ⟨g9, 2, none⟩) (by dsimp only; omega) (.int .i64 a2)
              obtain ⟨X6, hwz⟩ : ∃ y, y = ((X5.setCell ⟨g9, 0, none⟩ (.int .i64 a0)).setCell ⟨g9, 1, none⟩ (.int .i64 a1)).setCell ⟨g9, 2, none⟩ (.int .i64 a2) := ⟨_, rfl⟩
              rw [← hwz] at kz bz
              obtain ⟨c9, f9, l9⟩ := k9.rules
              go_simp
              rw [← hwz]
              clear hwz c9 f9 l9 hSx
              have hSx := hSb.out _ bz
              refine hK _ _ hSx ?_
              clear hK K
              try simp only [Act.put, List.setIfInBounds_toArray, List.set_cons_zero, List.set_cons_succ]
              refine held_take (i := 12) (v := ?_) 13 rfl rfl (by kernel_rfl) (by kernel_rfl) (by kernel_rfl) (fun _ _ _ h => h) (Or.inl ⟨by rfl, ?_⟩) hSx ?_
              rotate_left 1
              · intro w' hSw
                try dsimp only at hSw
                obtain ⟨q1, q2, q3⟩ := hSw
                go_simp
                all_goals with_reducible rfl
              try simp only [Act.put, List.setIfInBounds_toArray, List.set_cons_zero, List.set_cons_succ]
              refine wpAnyH_done (by kernel_rfl) (hrest (g9, a0, a1, a2) _ ⟨kz, hSs, (by dsimp only; omega), bz⟩) _
        · obtain rfl : k = np := by omega
          have hpk : p.take k = p := List.take_of_length_le (by rw [hlp.out]; exact Nat.le_refl _)
          rw [hpk] at hN hown
          have hend := hbs.out N hN.out
          rw [hl.out] at hend
          replace hend := Lib.hid hend
          have hOV0 : Hid (overTo r l p 0 = 0) := by show _ = _; rfl
          go_wp2_with fail
          go_loopw [9, 15] (fun v i wr => ∃ q : Nat, i = .int .i64 (q : Int) ∧ q ≤ n ∧ v = .int .i64 (N - overTo r l p q) ∧ wr.ownsRow g9 3 1 (.slice (some ⟨g9, 0, none⟩) n n) n ((covL r l p).map (Value.int .i64)) ∧ Below w.heap.size w wr) (fun v i wr => n - (intOf i).toNat)
          case atStart => exact ⟨0, rfl, Nat.zero_le _, by rw [hOV0.out, Int.sub_zero], hown, b⟩
          case round =>
            clear hown b k3
            obtain ⟨q, rfl, hq, rfl, hown, b⟩ := hrel
            by_cases hqn : q < n
            · have hq0 : (0 : Int) ≤ (q : Int) := by omega
              have hq1 : (q : Int) < (n : Int) := by omega
              have hs1 := hs0.out.below b
              obtain ⟨y, hy⟩ := some_of_lt hl.out hqn
              obtain ⟨bb, oo, hA, -, hbl, ey⟩ := hs1.int hy
              subst hA
              have hql : q < l.length := by rw [hl.out]; exact hqn
              have hce := hown.cellAt q (by omega)
              rw [List.getElem?_map, covL_at r l p hql] at hce
              simp only [Option.map_some] at hce
              have hcb := coverS_bd r l q p
              rw [hlp.out] at hcb
              have hov := overTo_bd r l p q
              rw [hlp.out] at hov
              have hstep : Hid (overTo r l p (q + 1) = overTo r l p q + (if y = 1 then max 0 (coverS r l q p - 1) else 0)) := by
                show _ = _
                rw [overTo, List.getD_eq_getElem?_getD, hy]; rfl
              generalize coverS r l q p = cv at *
              generalize overTo r l p q = ov at *
              obtain ⟨hcb1, hcb2⟩ := hcb
              have hkq : (k : Int) * (q : Int) ≤ 1024 * 256 := Int.mul_le_mul (by omega) (by omega) (by omega) (by omega)
              have hov1 : 0 ≤ ov ∧ ov ≤ 262144 := by omega
              clear hov
              obtain ⟨hov1, hov2⟩ := hov1
              obtain ⟨mm, hmm⟩ : ∃ mm, max 0 (cv - 1) = mm := ⟨_, rfl⟩
              have hmb : 0 ≤ mm ∧ mm ≤ 1024 := by omega
              obtain ⟨hmb1, hmb2⟩ := hmb
              rw [hmm] at hstep
              have hmx := fun ats ty => (hmax ats ty 0 (cv - 1)).trans (by rw [hmm])
              have u1 := IntWalk.i64_in (cv - 1) (by omega)
              have hy01 := hrs.out y (List.mem_of_getElem? hy)
              have hnew : Hid (N - overTo r l p (q + 1) = N - ov - y * mm) := by
                show _ = _
                rw [hstep.out]
                rcases hy01 with rfl | rfl
                · simp
                · simp; omega
              have hym : 0 ≤ y * mm ∧ y * mm ≤ 1024 := by rcases hy01 with rfl | rfl <;> simp <;> omega
              obtain ⟨hym1, hym2⟩ := hym
              replace hy := Lib.hid hy
              replace hmm := Lib.hid hmm
              clear hs1 hkq hy01 hstep
              have u2 := IntWalk.i64_in (y * mm) (by omega)
              have u3 := IntWalk.i64_in (N - ov - y * mm) (by omega)
              have u4 : Hid (wrap64 (N - ov - wrap64 (y * mm)) = N - ov - y * mm) := by
                show _ = _
                clear u2 u3 hnew
                generalize y * mm = z at *
                have a1 : wrap64 z = z := by unfold wrap64; omega
                rw [a1]
                unfold wrap64; omega
              go_wp2_with fail
              go_quiet (fail)
              go_wp2_with fail
              go_roundw
              case rel => exact ⟨q + 1, by go_num, by omega, by rw [hnew.out, hmm.out, u4.out], hown, below_drewN b _⟩
              case measure => simp [intOf]; omega
            · obtain rfl : q = n := by omega
              go_wp2_with fail
              go_ret2
              exact ⟨by rw [hend.out]; rfl, b⟩
    · have hm1 : (np : Int) > 1024 := by omega
      have hbr : Hid (boundR r l p = (0, 56)) := by show _ = _; unfold boundR; rw [if_pos her, if_neg (by rw [hlp.out]; exact hm)]
      replace hres := Lib.hid hres
      replace her := Lib.hid her
      go_enter Try.func50, Try.ntmps50
      go_wp2_with fail
      rw [← hw1]
      clear hw1
      obtain ⟨c3, f3, l3⟩ := k3.rules
      go_wp2_with fail
      refine (h1 _ hs1).mono ?_
      rintro e W ⟨rfl, hb⟩
      clear c3 f3 l3 h1
      go_wp2_with fail
      go_ret2
      exact ⟨by rw [hbr.out]; rfl, b.trans (hb.mono b.size)⟩
  · have hbr : Hid (boundR r l p = (0, errJ r l 1)) := by show _ = _; unfold boundR; rw [if_neg her]
    generalize errJ r l 1 = q at *
    have hz2 : (q != 0) = true := by rw [bne_iff_ne]; exact her
    replace her := Lib.hid her
    go_enter Try.func50, Try.ntmps50
    go_wp2_with fail
    rw [← hw1]
    clear hw1
    obtain ⟨c3, f3, l3⟩ := k3.rules
    go_wp2_with fail
    refine (h1 _ hs1).mono ?_
    rintro e W ⟨rfl, hb⟩
    clear c3 f3 l3
    go_wp2_with fail
    go_ret2
    exact ⟨by rw [hbr.out]; rfl, b.trans (hb.mono b.size)⟩
end Go.Proofs.Ytfengddpfeneiaa
