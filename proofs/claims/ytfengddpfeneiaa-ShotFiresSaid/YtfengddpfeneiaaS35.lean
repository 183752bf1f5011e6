/-
  Shots, walks of the specification: Fire, Pace.
-/
import Derived.Test.YtfengddpfeneiaaS32
namespace Go.Proofs.Ytfengddpfeneiaa
open Go.RowKit Go.Shelf
set_option linter.unusedSimpArgs false
set_option linter.unusedVariables false

set_option maxRecDepth 100000 in
set_option maxHeartbeats 1000000 in
theorem RFire_any (f : Fir) (l : List Int) (A : Option Addr) (n c B : Nat) (w : World) (hs : SlAt w B 1 ivs A n c l) :
    Calls Try.prog 29 #[.agg #[.int .i64 f.start, .int .i64 f.every, .int .i64 f.srcs, .int .i64 f.shots, .int .i64 f.charge], .slice A n c] w (RetSl 3 Sht.cells (fireR f l) w) := by
  have h1 := fun W => RCheckFiring_any f W
  have h2 := fun W h => Rway_any l A n c B W h
  obtain ⟨w1, hw1⟩ : ∃ w1, w1 = w.alloc (.cells #[.int .i64 f.start, .int .i64 f.every, .int .i64 f.srcs, .int .i64 f.shots, .int .i64 f.charge] 38) := ⟨_, rfl⟩
  have k3 : Blk w1 w.heap.size 38 #[.int .i64 f.start, .int .i64 f.every, .int .i64 f.srcs, .int .i64 f.shots, .int .i64 f.charge] := by rw [hw1]; exact Blk.new _ _ _
  have b : Below w.heap.size w w1 := by rw [hw1]; exact (Below.refl _ _).alloc (Nat.le_refl _) _
  have hs1 : SlAt w1 B 1 ivs A n c l := by rw [hw1]; exact hs.alloc _
  clear hs
  unfold chkFir at h1
  by_cases hf : okFir f = true
  · rw [if_pos hf] at h1
    have h3 := fun W h => Rfire_any f (okFir_is hf) l A n c B W h
    cases hy : okWay l with
    | true =>
      have hv : Hid (fireR f l = (shotL f l, 0)) := by show _ = _; unfold fireR; rw [if_pos hf, if_pos hy]
      rw [hy] at h2
      clear hf hy
      go_enter Try.func29, Try.ntmps29
      go_wp2_with fail
      rw [← hw1]
      clear hw1
      obtain ⟨c3, f3, l3⟩ := k3.rules
      go_wp2_with fail
      refine (h1 _).mono ?_
      rintro e W ⟨rfl, hb⟩
      clear c3 f3 l3 h1
      replace k3 := k3.below hb
      replace b := b.trans (hb.mono b.size)
      replace hs1 := hs1.below hb
      clear hb
      go_wp2_with fail
      refine (h2 _ hs1).mono ?_
      rintro e W2 ⟨rfl, hb⟩
      replace k3 := k3.below hb
      replace b := b.trans (hb.mono b.size)
      replace hs1 := hs1.below hb
      clear hb h2
      obtain ⟨c3, f3, l3⟩ := k3.rules
      go_wp2_with fail
      refine (h3 _ hs1).mono ?_
      rintro e W4 ⟨P, pc, rfl, hP, hb⟩
      go_wp2_with fail
      go_ret2
      rw [hv.out]
      exact ⟨P, _, pc, rfl, hP.mono b.size, b.trans (hb.mono b.size)⟩
    | false =>
      have hv : Hid (fireR f l = ([], 53)) := by show _ = _; unfold fireR; rw [if_pos hf, if_neg (by rw [hy]; decide)]
      rw [hy] at h2
      clear hf hy h3
      go_enter Try.func29, Try.ntmps29
      go_wp2_with fail
      rw [← hw1]
      clear hw1
      obtain ⟨c3, f3, l3⟩ := k3.rules
      go_wp2_with fail
      refine (h1 _).mono ?_
      rintro e W ⟨rfl, hb⟩
      clear c3 f3 l3 h1
      replace k3 := k3.below hb
      replace b := b.trans (hb.mono b.size)
      replace hs1 := hs1.below hb
      clear hb
      go_wp2_with fail
      refine (h2 _ hs1).mono ?_
      rintro e W2 ⟨rfl, hb⟩
      go_wp2_with fail
      go_ret2
      rw [hv.out]
      exact RetSl.none_ (b.trans (hb.mono b.size))
  · rw [if_neg hf] at h1
    have hv : Hid (fireR f l = ([], 52)) := by show _ = _; unfold fireR; rw [if_neg hf]
    clear hf
    go_enter Try.func29, Try.ntmps29
    go_wp2_with fail
    rw [← hw1]
    clear hw1
    obtain ⟨c3, f3, l3⟩ := k3.rules
    go_wp2_with fail
    refine (h1 _).mono ?_
    rintro e W ⟨rfl, hb⟩
    clear c3 f3 l3 h1
    replace k3 := k3.below hb
    replace b := b.trans (hb.mono b.size)
    replace hs1 := hs1.below hb
    clear hb
    go_wp2_with fail
    go_ret2
    rw [hv.out]
    exact RetSl.none_ b
set_option maxRecDepth 100000 in
set_option maxHeartbeats 4000000 in
theorem RPace_any (f : Fir) (w : World) :
    Calls Try.prog 31 #[.agg #[.int .i64 f.start, .int .i64 f.every, .int .i64 f.srcs, .int .i64 f.shots, .int .i64 f.charge]] w fun e w' => e = .returned (.tuple #[.int .i64 (paceR f).1, .int .i64 (paceR f).2]) ∧ Below w.heap.size w w' := by
  have h1 := fun W => RCheckFiring_any f W
  obtain ⟨w1, hw1⟩ : ∃ w1, w1 = w.alloc (.cells #[.int .i64 f.start, .int .i64 f.every, .int .i64 f.srcs, .int .i64 f.shots, .int .i64 f.charge] 38) := ⟨_, rfl⟩
  have k3 : Blk w1 w.heap.size 38 #[.int .i64 f.start, .int .i64 f.every, .int .i64 f.srcs, .int .i64 f.shots, .int .i64 f.charge] := by rw [hw1]; exact Blk.new _ _ _
  have b : Below w.heap.size w w1 := by rw [hw1]; exact (Below.refl _ _).alloc (Nat.le_refl _) _
  unfold chkFir at h1
  unfold paceR
  by_cases hf : okFir f = true
  · rw [if_pos hf] at *
    have hfi := Lib.hid (fun l A n c B W h => Rfire_any f (okFir_is hf) l A n c B W h)
    obtain ⟨i0, hi0, hz0, hz1, hz2⟩ := info_parts Try.infoInt
    go_enter Try.func31, Try.ntmps31
    go_wp2_with fail
    rw [← hw1]
    clear hw1
    obtain ⟨c3, f3, l3⟩ := k3.rules
    go_wp2_with fail
    refine (h1 _).mono ?_
    rintro e W ⟨rfl, hb⟩
    clear c3 f3 l3 h1
    replace k3 := k3.below hb
    replace b := b.trans (hb.mono b.size)
    clear hb
    go_wp2_with fail
    go_loopw [5] (fun i wr => ∃ v : Nat, i = .int .i64 (v : Int) ∧ v ≤ 1000 ∧ paceTo f 1000 = paceTo f v ∧ Below W.heap.size W wr) (fun i wr => (intOf i).toNat)
    case atStart => exact ⟨1000, rfl, Nat.le_refl _, rfl, Below.refl _ _⟩
    case round =>
      obtain ⟨v, rfl, hv, hpt, hb⟩ := hrel
      replace hpt := Lib.hid hpt
      cases v with
      | zero =>
        have hz : ¬ (((0 : Nat) : Int) ≥ 1) := by omega
        go_wp2_with fail
        go_ret2
        exact ⟨by rw [hpt.out]; rfl, b.trans (hb.mono b.size)⟩
      | succ v =>
        rw [paceTo_succ f v] at hpt
        have hx1 : ((v + 1 : Nat) : Int) = (v : Int) + 1 := by omega
        rw [hx1]
        have hge : (v : Int) + 1 ≥ 1 := by omega
        generalize wr = V at *
        clear wr
        go_wp2_with fail
        go_loopw [6, 7] (fun u i wr => ∃ k : Nat, i = .int .i64 (k : Int) ∧ k ≤ 512 ∧ wr.ownsRow V.heap.size 3 1 u k (((paceW ((v : Int) + 1)).take k).map (.int .i64 ·)) ∧ Below V.heap.size V wr) (fun u i wr => 512 - (intOf i).toNat)
        case atStart => exact ⟨0, rfl, Nat.zero_le _, ⟨rfl, .inl ⟨rfl, rfl⟩⟩, Below.refl _ _⟩
        case round =>
          obtain ⟨k, rfl, hk, hown, hb2⟩ := hrel
          by_cases hlt : k < 512
          · have hk0 : (0 : Int) ≤ (k : Int) := by omega
            have hk1 : (k : Int) < 512 := by omega
            have hget : (paceW ((v : Int) + 1))[k]? = some (((v : Int) + 1) * (k : Int)) := mapRange_at _ hlt
            have hmb := mul_bd ((v : Int) + 1) (k : Int) 1000 512 (by omega) (by omega) (by omega) (by omega) (by omega)
            have u1 := IntWalk.i64_in (((v : Int) + 1) * (k : Int)) (by omega)
            have htk : Hid (((paceW ((v : Int) + 1)).take (k + 1)).map (Value.int .i64 ·) = ((paceW ((v : Int) + 1)).take k).map (.int .i64 ·) ++ [.int .i64 (((v : Int) + 1) * (k : Int))]) := by show _ = _; rw [List.take_add_one, hget]; simp
            clear hmb hget
            have hbig1 : Hid (k + 1 ≤ maxLen) := by show k + 1 ≤ maxLen; unfold maxLen; omega
            have hbig2 : Hid ((k + 1) * 8 ≤ 140737488355328) := by show (k + 1) * 8 ≤ 140737488355328; omega
            have hnews : ∀ (j : Nat) (u : Value), ([.int .i64 (((v : Int) + 1) * (k : Int))] : List Value)[j]? = some u → (wr.alloc (.cells #[.int .i64 (((v : Int) + 1) * (k : Int))] 3)).cell? ((⟨wr.heap.size, 0, none⟩ : Addr).add j) = some u :=
              World.news_of_block (cs := #[.int .i64 (((v : Int) + 1) * (k : Int))]) (World.alloc_heap_new wr _)
            have hownf := hown.alloc (.cells #[.int .i64 (((v : Int) + 1) * (k : Int))] 3)
            have hbf := hb2.alloc hb2.size (.cells #[.int .i64 (((v : Int) + 1) * (k : Int))] 3)
            go_wp2_with (at_builtin; refine wpList_append_lies _ rfl (.tmp 24) (.tmp 28) 22 rfl V.heap.size 3 i0 (.int .i64 0) 1 8 Try.underlying22 hi0 hz0 hz1 hz2 rfl (by decide) u6 k (((paceW ((v : Int) + 1)).take k).map (.int .i64 ·)) rfl hownf ⟨wr.heap.size, 0, none⟩ 1 1 [.int .i64 (((v : Int) + 1) * (k : Int))] rfl rfl hnews (by simp [Value.oneCell']) (by decide) hbig1.out hbig2.out hbf.size (wr.heap.size + 1) (by simp) ?_; intro g cap w7 hown7 hgrow hlies hlt7)
            have hbg : Below V.heap.size _ w7 := ⟨hgrow.os, hgrow.tape, hgrow.output, hgrow.size, fun b hb2 => hgrow.block b (Nat.lt_of_lt_of_le hb2 hbf.size) (fun e => by have := (hownf.lt _ e.symm).1; omega)⟩
            have hbh := hbf.trans hbg
            go_roundw
            case rel => exact ⟨k + 1, by go_num, by omega, by rw [htk.out]; exact hown7, hbh⟩
            case measure => simp [intOf]; omega
          · obtain rfl : k = 512 := by omega
            rw [List.take_of_length_le (by rw [paceW_len]; exact Nat.le_refl _)] at hown
            obtain ⟨O, co, rfl, hO⟩ := SlAt.of_own (enc := ivs) hown (by omega) (paceW ((v : Int) + 1)) (flatMap_ivs _).symm (fun _ => rfl) (paceW_len _)
            have hb3 := hb.trans (hb2.mono hb.size)
            have k3r := k3.below hb3
            have hfv := fun W h => hfi.out (paceW ((v : Int) + 1)) O 512 co V.heap.size W h
            obtain ⟨c3, f3, l3⟩ := k3r.rules
            clear hown
            go_wp2_with fail
            refine (hfv _ hO).mono ?_
            rintro e Wf ⟨P, pc, rfl, hP, hbf⟩
            clear hfv hO c3 f3 l3 k3r
            have hb4 := hb3.trans (hbf.mono hb3.size)
            clear hb3 hbf hb2
            have hwk : (shotL f (paceW ((v : Int) + 1))).any (fun x => x.weak) = anyWeak f ((v : Int) + 1) := rfl
            have hn := Lib.hid hP.len
            have hnl := hP.le
            generalize shotL f (paceW ((v : Int) + 1)) = L at *
            generalize f.shots.toNat = n at *
            go_wp2_with fail
            go_loopw [8, 10] (fun o i wr => ∃ k : Nat, i = .int .i64 (k : Int) ∧ k ≤ n ∧ o = .bool ((L.take k).any (·.weak)) ∧ wr = Wf) (fun o i wr => n - (intOf i).toNat)
            case atStart => exact ⟨0, rfl, Nat.zero_le _, rfl, rfl⟩
            case round =>
              obtain ⟨k, rfl, hk, rfl, hwr⟩ := hrel
              rw [hwr]
              clear hwr wr
              by_cases hlt : k < n
              · obtain ⟨x, hx⟩ := some_of_lt hn.out hlt
                obtain ⟨bq, off, hA, -, hbl, e0, e1, e2⟩ := hP.sht hx
                have hk0 : (0 : Int) ≤ (k : Int) := by omega
                have hk1 : (k : Int) < (n : Int) := by omega
                have hnx : Hid ((L.take (k + 1)).any (·.weak) = ((L.take k).any (·.weak) || x.weak)) := by show _ = _; rw [List.take_add_one, hx]; simp
                generalize (L.take k).any (·.weak) = o at *
                generalize x.weak = y at *
                subst hA
                clear hwk
                cases o with
                | true =>
                  go_wp2_with fail
                  go_roundw
                  case rel => exact ⟨k + 1, by go_num, by omega, by rw [hnx.out]; rfl, by first | rfl | trivial⟩
                  case measure => simp [intOf]; omega
                | false =>
                  go_wp2_with fail
                  go_roundw
                  case rel => exact ⟨k + 1, by go_num, by omega, by rw [hnx.out]; rfl, by first | rfl | trivial⟩
                  case measure => simp [intOf]; omega
              · obtain rfl : k = n := by omega
                rw [List.take_of_length_le (by rw [hn.out]; exact Nat.le_refl _), hwk]
                clear hwk
                have hdec := IntWalk.i64_in ((v : Int) + 1 - 1) (by omega)
                cases hw : anyWeak f ((v : Int) + 1) with
                | true =>
                  rw [hw] at hpt
                  simp only [if_true] at hpt
                  clear hw
                  go_wp2_with fail
                  go_roundw
                  case rel => exact ⟨v, by go_num, by omega, hpt.out, hb4⟩
                  case measure => simp [intOf]
                | false =>
                  rw [hw] at hpt
                  simp only [Bool.false_eq_true, if_false] at hpt
                  clear hw
                  go_wp2_with fail
                  go_ret2
                  exact ⟨by rw [hpt.out]; rfl, b.trans (hb4.mono b.size)⟩
  · rw [if_neg hf] at *
    go_enter Try.func31, Try.ntmps31
    go_wp2_with fail
    rw [← hw1]
    clear hw1
    obtain ⟨c3, f3, l3⟩ := k3.rules
    go_wp2_with fail
    refine (h1 _).mono ?_
    rintro e W ⟨rfl, hb⟩
    go_wp2_with fail
    go_ret2
    exact ⟨rfl, b.trans (hb.mono b.size)⟩
end Go.Proofs.Ytfengddpfeneiaa
