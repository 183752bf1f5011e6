/-
  Shots, walks: edges: all that must hold of the numbers of repeated shots.
-/
import Derived.Test.YtfengddpfeneiaaGreatS13
import Derived.Test.YtfengddpfeneiaaGreatS14
import Derived.Test.YtfengddpfeneiaaGreatQ8
namespace Go.Proofs.YtfengddpfeneiaaGreat
open Go.RowKit Go.Shelf
set_option linter.unusedSimpArgs false
set_option linter.unusedVariables false

theorem Tryz.infoEdg : (Tryz.prog.info? 226).map (fun i => (i.zero, i.size, i.bytes)) = some (some (.agg #[.int .i64 0, .int .i64 0, .int .i64 0, .int .i64 0, .int .i64 0]), 5, 40) := by kernel_rfl
set_option maxRecDepth 100000 in
set_option maxHeartbeats 4000000 in
theorem edges_any (r : Rul) (hr : okRul r = true) (l : List Int) (A : Option Addr) (n c B : Nat) (w : World) (hn256 : n ≤ 256) (hs : SlAt w B 1 ivs A n c l) :
    Calls Tryz.prog 140 #[.agg #[.int .i64 r.row, .int .i64 r.win, .int .i64 r.many, .int .i64 r.total], .slice A n c] w fun e w' => ∃ O co, e = .returned (.slice O (edgesS r l).length co) ∧ SlAt w' w.heap.size 5 Edg.cells O (edgesS r l).length co (edgesS r l) ∧ Below w.heap.size w w' := by
  have hl := Lib.hid hs.len
  have hs0 := Lib.hid hs
  obtain ⟨w1, hw1⟩ : ∃ w1, w1 = w.alloc (.cells #[.int .i64 r.row, .int .i64 r.win, .int .i64 r.many, .int .i64 r.total] 104) := ⟨_, rfl⟩
  have k3 : Blk w1 w.heap.size 104 #[.int .i64 r.row, .int .i64 r.win, .int .i64 r.many, .int .i64 r.total] := by rw [hw1]; exact Blk.new _ _ _
  have b : Below w.heap.size w w1 := by rw [hw1]; exact (Below.refl _ _).alloc (Nat.le_refl _) _
  have hs1 : SlAt w1 B 1 ivs A n c l := by rw [hw1]; exact hs.alloc _
  clear hs
  obtain ⟨i0, hi0, hz0, hz1, hz2⟩ := info_parts Tryz.infoEdg
  have hcn := cnt_le l
  rw [hl.out] at hcn
  obtain ⟨cl, hcl⟩ : ∃ cl, cnt l = cl := ⟨_, rfl⟩
  rw [hcl] at hcn
  have hbad0 := fun W (h : SlAt W B 1 ivs A n c l) => bad_all l A n c B 0 (n : Int) W (Int.le_refl _) (by omega) (Int.le_refl _) (.inr rfl) h
  rw [show badS l 0 (n : Int) = (cl : Int) from by rw [← hl.out, badS_all, hcl]] at hbad0
  have hst0 : Hid (edgesTo r l 0 = stepsE cl) := by show _ = _; rw [← hcl]; rfl
  replace hcl := Lib.hid hcl
  have hown0 : w1.ownsRow w.heap.size 226 5 (.slice none 0 0) (stepsE 0).length ((stepsE 0).flatMap Edg.cells) := ⟨rfl, .inl ⟨rfl, rfl⟩⟩
  go_enter Tryz.func140, Tryz.ntmps140
  go_wp2_with fail
  rw [← hw1]
  clear hw1
  refine (hbad0 _ hs1).mono ?_
  rintro e w' ⟨rfl, rfl⟩
  clear hbad0 hs1
  go_wp2_with fail
  go_loopw [5, 17] (fun v i wr => ∃ k : Nat, i = .int .i64 (k : Int) ∧ k ≤ cl ∧ wr.ownsRow w.heap.size 226 5 v (stepsE k).length ((stepsE k).flatMap Edg.cells) ∧ (∀ p, v.ownBlock = some p → w.heap.size < p) ∧ Blk wr w.heap.size 104 #[.int .i64 r.row, .int .i64 r.win, .int .i64 r.many, .int .i64 r.total] ∧ Below w.heap.size w wr) (fun v i wr => cl - (intOf i).toNat)
  case atStart => exact ⟨0, rfl, Nat.zero_le _, hown0, (fun p h => by cases h), k3, b⟩
  case round =>
    clear hown0 k3 b
    obtain ⟨k, rfl, hk, hown, hvb, k3, b⟩ := hrel
    by_cases hlt : k < cl
    · have hk0 : (0 : Int) ≤ (k : Int) := by omega
      have hk1 : (k : Int) < (cl : Int) := by omega
      have u1 := IntWalk.i64_in ((k : Int) + 1) (by omega)
      have hsl := stepsE_len k
      have hnx := Lib.hid (stepsE_succ k)
      generalize stepsE k = sk at *
      have hbig1 : Hid (sk.length + 2 ≤ maxLen) := by show _ ≤ maxLen; unfold maxLen; omega
      have hbig2 : Hid ((sk.length + 2) * 40 ≤ 140737488355328) := by show (sk.length + 2) * 40 ≤ 140737488355328; omega
      obtain ⟨sn, hsn⟩ : ∃ sn, sk.length = sn := ⟨_, rfl⟩
      rw [hsn] at hown hsl hbig1 hbig2
      replace hsn := Lib.hid hsn
      have hl3 := k3.lt
      replace hsl := Lib.hid hsl
      have hnews : ∀ (j : Nat) (u : Value), ([.int .i64 (k : Int), .int .i64 ((k : Int) + 1), .int .i64 0, .int .i64 0, .int .i64 0, .int .i64 ((k : Int) + 1), .int .i64 (k : Int), .int .i64 (-1), .int .i64 0, .int .i64 0] : List Value)[j]? = some u → (wr.alloc (.cells #[.int .i64 (k : Int), .int .i64 ((k : Int) + 1), .int .i64 0, .int .i64 0, .int .i64 0, .int .i64 ((k : Int) + 1), .int .i64 (k : Int), .int .i64 (-1), .int .i64 0, .int .i64 0] 226)).cell? ((⟨wr.heap.size, 0, none⟩ : Addr).add j) = some u :=
        World.news_of_block (cs := #[.int .i64 (k : Int), .int .i64 ((k : Int) + 1), .int .i64 0, .int .i64 0, .int .i64 0, .int .i64 ((k : Int) + 1), .int .i64 (k : Int), .int .i64 (-1), .int .i64 0, .int .i64 0]) (World.alloc_heap_new wr _)
      have hownf := hown.alloc (.cells #[.int .i64 (k : Int), .int .i64 ((k : Int) + 1), .int .i64 0, .int .i64 0, .int .i64 0, .int .i64 ((k : Int) + 1), .int .i64 (k : Int), .int .i64 (-1), .int .i64 0, .int .i64 0] 226)
      have hbf := b.alloc b.size (.cells #[.int .i64 (k : Int), .int .i64 ((k : Int) + 1), .int .i64 0, .int .i64 0, .int .i64 0, .int .i64 ((k : Int) + 1), .int .i64 (k : Int), .int .i64 (-1), .int .i64 0, .int .i64 0] 226)
      have k3a := k3.alloc (.cells #[.int .i64 (k : Int), .int .i64 ((k : Int) + 1), .int .i64 0, .int .i64 0, .int .i64 0, .int .i64 ((k : Int) + 1), .int .i64 (k : Int), .int .i64 (-1), .int .i64 0, .int .i64 0] 226)
      go_wp2_with (at_builtin; refine wpList_append_lies _ rfl (.tmp 20) (.tmp 29) 189 rfl w.heap.size 226 i0 (.agg #[.int .i64 0, .int .i64 0, .int .i64 0, .int .i64 0, .int .i64 0]) 5 40 Tryz.underlying189 hi0 hz0 hz1 hz2 rfl (by decide) u5 sn (sk.flatMap Edg.cells) rfl hownf ⟨wr.heap.size, 0, none⟩ 2 2 [.int .i64 (k : Int), .int .i64 ((k : Int) + 1), .int .i64 0, .int .i64 0, .int .i64 0, .int .i64 ((k : Int) + 1), .int .i64 (k : Int), .int .i64 (-1), .int .i64 0, .int .i64 0] rfl rfl hnews (by simp [Value.oneCell']) (by decide) hbig1.out hbig2.out (hbf.size) (wr.heap.size + 1) (by simp) ?_; intro g cap w7 hown7 hgrow hlies hlt7)
      have hbg : Below w.heap.size _ w7 := ⟨hgrow.os, hgrow.tape, hgrow.output, hgrow.size, fun b hb2 => hgrow.block b (Nat.lt_of_lt_of_le hb2 hbf.size) (fun e => by have := (hownf.lt _ e.symm).1; omega)⟩
      have hbh := hbf.trans hbg
      have k3h := k3a.grown hgrow (fun e => by have := hvb _ e.symm; omega)
      go_roundw
      case rel =>
        refine ⟨k + 1, by go_num, by omega, ?_, ?_, k3h, hbh⟩
        · rw [hnx.out, List.flatMap_append, List.length_append, hsn.out, show (stepE k).length = 2 from rfl, show (stepE k).flatMap Edg.cells = [.int .i64 (k : Int), .int .i64 ((k : Int) + 1), .int .i64 0, .int .i64 0, .int .i64 0, .int .i64 ((k : Int) + 1), .int .i64 (k : Int), .int .i64 (-1), .int .i64 0, .int .i64 0] from by simp [stepE, Edg.cells]]
          exact hown7
        · intro p hp
          simp only [Value.ownBlock, Option.some.injEq] at hp
          subst hp
          rcases hlies with h | h
          · exact hvb _ h
          · have := k3a.lt; omega
      case measure => simp [intOf]; omega
    · obtain rfl : k = cl := by omega
      rw [← hst0.out] at hown
      go_wp2_with fail
      go_loopw [5, 7] (fun v i wr => ∃ q : Nat, i = .int .i64 ((q : Int) + 1) ∧ q ≤ 3 ∧ wr.ownsRow w.heap.size 226 5 v (edgesTo r l q).length ((edgesTo r l q).flatMap Edg.cells) ∧ (∀ p, v.ownBlock = some p → w.heap.size < p) ∧ Blk wr w.heap.size 104 #[.int .i64 r.row, .int .i64 r.win, .int .i64 r.many, .int .i64 r.total] ∧ Below w.heap.size w wr) (fun v i wr => 4 - (intOf i).toNat)
      case atStart => exact ⟨0, rfl, by omega, hown, hvb, k3, b⟩
      case round =>
        clear hown k3 b hvb
        obtain ⟨q, rfl, hq, hown, hvb, k3, b⟩ := hrel
        by_cases hq3 : q < 3
        · have hq1 : (q : Int) + 1 ≤ 3 := by omega
          have uq := IntWalk.i64_in ((q : Int) + 1 + 1) (by omega)
          have un := IntWalk.i64_in ((n : Int) + 1) (by omega)
          have hnq : Hid (edgesTo r l (q + 1) = edgesTo r l q ++ ruleE r l ((q : Int) + 1) (n + 1)) := by show _ = _; rw [edgesTo, hl.out]
          have hlq := edgesTo_len r l q
          rw [hl.out] at hlq
          have hlq2 : (edgesTo r l q).length ≤ 2000 := by
            have : q * (n + 1) ≤ 3 * 257 := Nat.mul_le_mul (by omega) (by omega)
            omega
          clear hlq
          have hown2 : wr.ownsRow w.heap.size 226 5 u5 (edgesTo r l q ++ ruleE r l ((q : Int) + 1) 0).length ((edgesTo r l q ++ ruleE r l ((q : Int) + 1) 0).flatMap Edg.cells) := by
            rw [show ruleE r l ((q : Int) + 1) 0 = [] from rfl, List.append_nil]; exact hown
          clear hown
          generalize edgesTo r l q = E0 at *
          go_wp2_with fail
          go_loopw [5, 39] (fun v i wr => ∃ k : Nat, i = .int .i64 (k : Int) ∧ k ≤ n + 1 ∧ wr.ownsRow w.heap.size 226 5 v (E0 ++ ruleE r l ((q : Int) + 1) k).length ((E0 ++ ruleE r l ((q : Int) + 1) k).flatMap Edg.cells) ∧ (∀ p, v.ownBlock = some p → w.heap.size < p) ∧ Blk wr w.heap.size 104 #[.int .i64 r.row, .int .i64 r.win, .int .i64 r.many, .int .i64 r.total] ∧ Below w.heap.size w wr) (fun v i wr => n + 1 - (intOf i).toNat)
          case atStart => exact ⟨0, rfl, by omega, hown2, hvb, k3, b⟩
          case round =>
            clear hown2 k3 b hvb
            obtain ⟨k, rfl, hk, hown, hvb, k3, b⟩ := hrel
            by_cases hkn : k < n + 1
            · have hk0 : (0 : Int) ≤ (k : Int) := by omega
              have hk1 : (k : Int) < (n : Int) + 1 := by omega
              have hsp := fun W h => spans_any r hr l ⟨(q : Int) + 1, (k : Int)⟩ A n c B W hn256 h
              have hs1 := hs0.out.below b
              obtain ⟨c3, f3, l3⟩ := k3.rules
              go_wp2_with fail
              refine (hsp _ hs1).mono ?_
              rintro e W ⟨S, rfl, hS5, hSs, hb⟩
              clear c3 f3 l3 hsp
              have hvw : ∀ p, u5.ownBlock = some p → p < W.heap.size := fun p e => by have := (hown.lt p e).2; have := hb.size; omega
              replace k3 := k3.below hb
              replace hown := ownsRow_below hown hb
              replace hs1 := hs1.below hb
              replace b := b.trans (hb.mono b.size)
              clear hb
              cases hsx : spanS r l ⟨(q : Int) + 1, (k : Int)⟩ with
              | none =>
                have hno := Lib.hid (ruleE_stop' hsx (n := n + 1) (by omega))
                clear hSs hs1
                obtain ⟨a0, a1, a2, a3, a4, rfl⟩ := hS5
                simp only [Option.isSome_none]
                replace hsx := Lib.hid hsx
                have hlk := k3.lt
                have hownz := hown.alloc (.cells #[.int .i64 a0, .int .i64 a1, .int .i64 a2, .int .i64 a3, .int .i64 a4] 193)
                have k3z := k3.alloc (.cells #[.int .i64 a0, .int .i64 a1, .int .i64 a2, .int .i64 a3, .int .i64 a4] 193)
                have bz := b.alloc b.size (.cells #[.int .i64 a0, .int .i64 a1, .int .i64 a2, .int .i64 a3, .int .i64 a4] 193)
                go_wp2_with fail
                go_roundw
                case rel => exact ⟨q + 1, by go_num, by omega, by rw [hnq.out, hno.out]; exact hownz, hvb, k3z, bz⟩
                case measure => simp [intOf]; omega
              | some s =>
                have hSv := hSs s hsx
                subst hSv
                clear hSs hS5
                simp only [Option.isSome_some]
                have hsb := span_bd hr hsx
                rw [hl.out] at hsb
                obtain ⟨sb1, sb2, sb3, sb4, sb5, sb6⟩ := hsb
                obtain ⟨f, hf⟩ : ∃ f : Nat, s.fr = f := ⟨s.fr.toNat, by omega⟩
                obtain ⟨t, ht⟩ : ∃ t : Nat, s.to = t := ⟨s.to.toNat, by omega⟩
                obtain ⟨mo, hmo⟩ : ∃ mo, s.most = mo := ⟨_, rfl⟩
                have hce : clmE r l ((q : Int) + 1) k = if mo < (pN l t : Int) - pN l f then [⟨pN l f, pN l t, (pN l t : Int) - pN l f - mo, ⟨(q : Int) + 1, k⟩⟩] else [] := by
                  unfold clmE
                  rw [hsx]
                  dsimp only
                  rw [hf, ht, hmo, Int.toNat_natCast, Int.toNat_natCast]
                rw [hf] at sb1 sb2 sb4
                rw [ht] at sb2 sb3
                rw [hmo] at sb5 sb6
                rw [hf, ht, hmo]
                have hmono := pN_mono l (i := f) (j := t) (by omega)
                have hbd1 := fun W (h : SlAt W B 1 ivs A n c l) => bad_all l A n c B 0 (f : Int) W (Int.le_refl _) (by omega) (by omega) (.inr rfl) h
                have hbd2 := fun W (h : SlAt W B 1 ivs A n c l) => bad_all l A n c B (f : Int) (t : Int) W (by omega) (by omega) (by omega) sb4 h
                rw [badS_p l (f := 0) (t := f) rfl (by omega) (by omega), pN_zero, show (((pN l f : Nat) : Int) - ((0 : Nat) : Int)) = (pN l f : Int) from by omega] at hbd1
                rw [badS_p l (f := f) (t := t) (by omega) (by omega) (by omega)] at hbd2
                have hpt := pN_le_cnt l t
                rw [hcl.out] at hpt
                have hru := ruleE_succ r l ((q : Int) + 1) k
                rw [hce] at hru
                replace hru := Lib.hid hru
                clear hce
                obtain ⟨pa, hpa⟩ : ∃ pa, pN l f = pa := ⟨_, rfl⟩
                obtain ⟨d, hd⟩ : ∃ d, pN l t = pa + d := ⟨pN l t - pa, by omega⟩
                rw [hpa, hd] at hbd2 hru
                rw [hpa] at hbd1
                rw [hd] at hpt
                rw [show ((pa + d : Nat) : Int) - (pa : Int) = (d : Int) from by omega] at hbd2 hru
                clear hpa hd hmono hf ht hmo
                replace hsx := Lib.hid hsx
                have kS := Blk.new W 193 #[.int .i64 ((q : Int) + 1), .int .i64 (k : Int), .int .i64 (f : Int), .int .i64 (t : Int), .int .i64 mo]
                have hgS : w.heap.size < W.heap.size := k3.lt
                replace k3 := k3.alloc (.cells #[.int .i64 ((q : Int) + 1), .int .i64 (k : Int), .int .i64 (f : Int), .int .i64 (t : Int), .int .i64 mo] 193)
                replace hs1 := hs1.alloc (.cells #[.int .i64 ((q : Int) + 1), .int .i64 (k : Int), .int .i64 (f : Int), .int .i64 (t : Int), .int .i64 mo] 193)
                replace hown := hown.alloc (.cells #[.int .i64 ((q : Int) + 1), .int .i64 (k : Int), .int .i64 (f : Int), .int .i64 (t : Int), .int .i64 mo] 193)
                replace b := b.alloc b.size (.cells #[.int .i64 ((q : Int) + 1), .int .i64 (k : Int), .int .i64 (f : Int), .int .i64 (t : Int), .int .i64 mo] 193)
                go_upto_region 14 with fail
                generalize W.alloc (.cells #[.int .i64 ((q : Int) + 1), .int .i64 (k : Int), .int .i64 (f : Int), .int .i64 (t : Int), .int .i64 mo] 193) = Wb at *
                generalize W.heap.size = gS at *
                obtain ⟨cS, fS, lS⟩ := kS.rules
                go_wp2_with fail
                refine (hbd1 _ hs1).mono ?_
                rintro e w' ⟨rfl, rfl⟩
                go_wp2_with fail
                refine (hbd2 _ hs1).mono ?_
                rintro e w' ⟨rfl, rfl⟩
                clear hbd1 hbd2
                have ud := IntWalk.i64_in ((d : Int) - mo) (by omega)
                by_cases hdm : mo < (d : Int)
                · rw [if_pos hdm] at hru
                  have hel : (E0 ++ ruleE r l ((q : Int) + 1) k).length ≤ 3000 := by
                    have := ruleE_len r l ((q : Int) + 1) k
                    rw [List.length_append]; omega
                  have hru2 : Hid (E0 ++ ruleE r l ((q : Int) + 1) (k + 1) = (E0 ++ ruleE r l ((q : Int) + 1) k) ++ [⟨pa, pa + d, (d : Int) - mo, ⟨(q : Int) + 1, k⟩⟩]) := by show _ = _; rw [hru.out, List.append_assoc]
                  clear hru
                  generalize E0 ++ ruleE r l ((q : Int) + 1) k = sk at *
                  obtain ⟨sn, hsn⟩ : ∃ sn, sk.length = sn := ⟨_, rfl⟩
                  rw [hsn] at hown hel
                  replace hsn := Lib.hid hsn
                  have hbig1 : Hid (sn + 1 ≤ maxLen) := by show _ ≤ maxLen; unfold maxLen; omega
                  have hbig2 : Hid ((sn + 1) * 40 ≤ 140737488355328) := by show (sn + 1) * 40 ≤ 140737488355328; omega
                  have hnews : ∀ (j : Nat) (u : Value), ([.int .i64 (pa : Int), .int .i64 ((pa : Int) + (d : Int)), .int .i64 ((pa : Int) + (d : Int) - (pa : Int) - mo), .int .i64 ((q : Int) + 1), .int .i64 (k : Int)] : List Value)[j]? = some u → (Wb.alloc (.cells #[.int .i64 (pa : Int), .int .i64 ((pa : Int) + (d : Int)), .int .i64 ((pa : Int) + (d : Int) - (pa : Int) - mo), .int .i64 ((q : Int) + 1), .int .i64 (k : Int)] 226)).cell? ((⟨Wb.heap.size, 0, none⟩ : Addr).add j) = some u :=
                    World.news_of_block (cs := #[.int .i64 (pa : Int), .int .i64 ((pa : Int) + (d : Int)), .int .i64 ((pa : Int) + (d : Int) - (pa : Int) - mo), .int .i64 ((q : Int) + 1), .int .i64 (k : Int)]) (World.alloc_heap_new Wb _)
                  have hownf := hown.alloc (.cells #[.int .i64 (pa : Int), .int .i64 ((pa : Int) + (d : Int)), .int .i64 ((pa : Int) + (d : Int) - (pa : Int) - mo), .int .i64 ((q : Int) + 1), .int .i64 (k : Int)] 226)
                  have hbf := b.alloc b.size (.cells #[.int .i64 (pa : Int), .int .i64 ((pa : Int) + (d : Int)), .int .i64 ((pa : Int) + (d : Int) - (pa : Int) - mo), .int .i64 ((q : Int) + 1), .int .i64 (k : Int)] 226)
                  have k3a := k3.alloc (.cells #[.int .i64 (pa : Int), .int .i64 ((pa : Int) + (d : Int)), .int .i64 ((pa : Int) + (d : Int) - (pa : Int) - mo), .int .i64 ((q : Int) + 1), .int .i64 (k : Int)] 226)
                  go_wp2_with (at_builtin; go_loud (refine wpList_append_lies _ rfl (.tmp 71) (.tmp 83) 189 rfl w.heap.size 226 i0 (.agg #[.int .i64 0, .int .i64 0, .int .i64 0, .int .i64 0, .int .i64 0]) 5 40 Tryz.underlying189 hi0 hz0 hz1 hz2 rfl (by decide) u5 sn (sk.flatMap Edg.cells) rfl hownf ⟨Wb.heap.size, 0, none⟩ 1 1 [.int .i64 (pa : Int), .int .i64 ((pa : Int) + (d : Int)), .int .i64 ((pa : Int) + (d : Int) - (pa : Int) - mo), .int .i64 ((q : Int) + 1), .int .i64 (k : Int)] rfl rfl hnews (by simp [Value.oneCell']) (by decide) hbig1.out hbig2.out (hbf.size) (Wb.heap.size + 1) (by simp) ?_); intro g cap w7 hown7 hgrow hlies hlt7)
                  have hbg : Below w.heap.size _ w7 := ⟨hgrow.os, hgrow.tape, hgrow.output, hgrow.size, fun b hb2 => hgrow.block b (Nat.lt_of_lt_of_le hb2 hbf.size) (fun e => by have := (hownf.lt _ e.symm).1; omega)⟩
                  have hbh := hbf.trans hbg
                  have k3h := k3a.grown hgrow (fun e => by have := hvb _ e.symm; omega)
                  have hlk3 := k3.lt
                  go_roundw
                  case rel =>
                    refine ⟨k + 1, by go_num, by omega, ?_, ?_, k3h, hbh⟩
                    · rw [hru2.out, List.flatMap_append, List.length_append, hsn.out, show ([⟨pa, pa + d, (d : Int) - mo, ⟨(q : Int) + 1, k⟩⟩] : List Edg).flatMap Edg.cells = [.int .i64 (pa : Int), .int .i64 ((pa : Int) + (d : Int)), .int .i64 ((pa : Int) + (d : Int) - (pa : Int) - mo), .int .i64 ((q : Int) + 1), .int .i64 (k : Int)] from by simp [Edg.cells]; omega]
                      exact hown7
                    · intro p hp
                      simp only [Value.ownBlock, Option.some.injEq] at hp
                      subst hp
                      rcases hlies with h | h
                      · exact hvb _ h
                      · omega
                  case measure => simp [intOf]; omega
                · rw [if_neg hdm, List.append_nil] at hru
                  go_wp2_with fail
                  go_roundw
                  case rel => exact ⟨k + 1, by go_num, by omega, by rw [hru.out]; exact hown, hvb, k3, b⟩
                  case measure => simp [intOf]; omega
            · obtain rfl : k = n + 1 := by omega
              have hnlt : ¬ (((n + 1 : Nat) : Int) < (n : Int) + 1) := by omega
              have hlk := k3.lt
              go_wp2_with fail
              go_roundw
              case rel => exact ⟨q + 1, by go_num, by omega, by rw [hnq.out]; exact hown, hvb, k3, b⟩
              case measure => simp [intOf]; omega
        · obtain rfl : q = 3 := by omega
          have h4 : ¬ (((3 : Nat) : Int) + 1 ≤ 3) := by omega
          have hle := edgesTo_len r l 3
          rw [hl.out] at hle
          rw [show edgesTo r l 3 = edgesS r l from rfl] at hown hle
          obtain ⟨O, co, e1, h1⟩ := SlAt.of_own (enc := Edg.cells) hown (by omega) (edgesS r l) rfl (fun _ => rfl) rfl
          replace hle := Lib.hid hle
          go_wp2_with fail
          go_ret
          exact ⟨O, co, rfl, h1, b⟩
end Go.Proofs.YtfengddpfeneiaaGreat
