/-
  The law ShotPaces.
-/
import Derived.Test.YtfengddpfeneiaaS28
namespace Go.Proofs.Ytfengddpfeneiaa
open Go.RowKit Go.Shelf
set_option linter.unusedSimpArgs false
set_option linter.unusedVariables false

theorem paceW_at {v : Int} {i : Nat} {x : Int} (h : (paceW v)[i]? = some x) : i < 512 ∧ x = v * (i : Int) := by
  have hi := (List.getElem?_eq_some_iff.1 h).1
  rw [paceW_len] at hi
  have h2 : (paceW v)[i]? = some (v * (i : Int)) := mapRange_at _ hi
  rw [h2] at h
  exact ⟨hi, (Option.some.inj h).symm⟩
theorem paceW_ok {v : Int} (h1 : 1 ≤ v) (h2 : v ≤ 1000) : okWay (paceW v) = true := by
  have hs : sorted (paceW v) = true := sorted_of fun i x y hx hy => by
    obtain ⟨_, rfl⟩ := paceW_at hx
    obtain ⟨_, rfl⟩ := paceW_at hy
    exact Int.mul_le_mul_of_nonneg_left (show (i : Int) ≤ ((i + 1 : Nat) : Int) by omega) (by omega)
  rw [okWay_ends (x := 0) (y := v * 511) (by rw [paceW_len]; decide) (by rw [paceW_len]; decide) hs (by simp [paceW]) (by rw [paceW_len]; exact mapRange_at (fun t : Nat => v * (t : Int)) (show 511 < 512 by decide))]
  exact decide_eq_true ⟨by omega, by omega⟩
theorem pace_said (f : Fir) : ∀ n : Nat, (paceTo f n = (0, 4) ∧ ∀ m : Nat, 1 ≤ m → m ≤ n → anyWeak f m = true) ∨ ∃ v : Nat, 1 ≤ v ∧ v ≤ n ∧ paceTo f n = ((v : Int), 0) ∧ anyWeak f v = false ∧ ∀ m : Nat, v < m → m ≤ n → anyWeak f m = true
  | 0 => .inl ⟨rfl, fun m h1 h2 => by omega⟩
  | n + 1 => by
    rw [paceTo_succ]
    cases hw : anyWeak f ((n : Int) + 1) with
    | true =>
      rw [if_pos rfl]
      have hm : ∀ m : Nat, n < m → m ≤ n + 1 → anyWeak f m = true := fun m h1 h2 => by
        obtain rfl : m = n + 1 := by omega
        exact hw
      rcases pace_said f n with ⟨e, h⟩ | ⟨v, h1, h2, e, h3, h4⟩
      · exact .inl ⟨e, fun m a b => if c : m ≤ n then h m a c else hm m (by omega) b⟩
      · exact .inr ⟨v, h1, by omega, e, h3, fun m a b => if c : m ≤ n then h4 m a c else hm m (by omega) b⟩
    | false =>
      rw [if_neg (by decide)]
      exact .inr ⟨n + 1, by omega, Nat.le_refl _, by push_cast; rfl, hw, fun m a b => by omega⟩
set_option maxRecDepth 100000 in
set_option maxHeartbeats 2000000 in
theorem paces1_any (f : Fir) (hf : okFir f = true) (v : Int) (h1 : 1 ≤ v) (h2 : v ≤ 1000) (g : Nat) (w : World) (k : Blk w g 38 #[.int .i64 f.start, .int .i64 f.every, .int .i64 f.srcs, .int .i64 f.shots, .int .i64 f.charge]) :
    Calls Try.prog 60 #[.int .i64 v, .pointer (some ⟨g, 0, none⟩)] w fun e w' => e = .returned (.bool (anyWeak f v)) ∧ Below w.heap.size w w' := by
  have hfi := fun A n c B W h => Fire_any f (paceW v) A n c B W h
  rw [fireR, if_pos hf, if_pos (paceW_ok h1 h2)] at hfi
  unfold anyWeak
  generalize shotL f (paceW v) = L at *
  go_enter Try.func60, Try.ntmps60
  go_wp2_with fail
  go_loopw [4, 5] (fun u i wr => ∃ k : Nat, i = .int .i64 (k : Int) ∧ k ≤ 512 ∧ wr.ownsRow w.heap.size 3 1 u k (((paceW v).take k).map (.int .i64 ·)) ∧ Below w.heap.size w wr) (fun u i wr => 512 - (intOf i).toNat)
  case atStart => exact ⟨0, rfl, Nat.zero_le _, ⟨rfl, .inl ⟨rfl, rfl⟩⟩, Below.refl _ _⟩
  case round =>
    obtain ⟨k, rfl, hk, hown, hb⟩ := hrel
    by_cases hlt : k < 512
    · have hk0 : (0 : Int) ≤ (k : Int) := by omega
      have hk1 : (k : Int) < 512 := by omega
      have hget : (paceW v)[k]? = some (v * (k : Int)) := mapRange_at (fun t : Nat => v * (t : Int)) hlt
      have hmb := mul_bd v (k : Int) 1000 512 (by omega) (by omega) (by omega) (by omega) (by omega)
      have u1 := IntWalk.i64_in (v * (k : Int)) (by omega)
      have htk : Hid (((paceW v).take (k + 1)).map (Value.int .i64 ·) = ((paceW v).take k).map (.int .i64 ·) ++ [.int .i64 (v * (k : Int))]) := by show _ = _; rw [List.take_add_one, hget]; simp
      clear hmb hget
      have hbig1 : Hid (k + 1 ≤ maxLen) := by show k + 1 ≤ maxLen; unfold maxLen; omega
      have hbig2 : Hid ((k + 1) * 8 ≤ 140737488355328) := by show (k + 1) * 8 ≤ 140737488355328; omega
      obtain ⟨i0, hi0, hz0, hz1, hz2⟩ := info_parts Try.infoInt
      have hnews : ∀ (j : Nat) (u : Value), ([.int .i64 (v * (k : Int))] : List Value)[j]? = some u → (wr.alloc (.cells #[.int .i64 (v * (k : Int))] 3)).cell? ((⟨wr.heap.size, 0, none⟩ : Addr).add j) = some u :=
        World.news_of_block (cs := #[.int .i64 (v * (k : Int))]) (World.alloc_heap_new wr _)
      have hownf := hown.alloc (.cells #[.int .i64 (v * (k : Int))] 3)
      have hbf := hb.alloc hb.size (.cells #[.int .i64 (v * (k : Int))] 3)
      go_wp2_with (at_builtin; refine wpList_append_lies _ rfl (.tmp 14) (.tmp 18) 22 rfl w.heap.size 3 i0 (.int .i64 0) 1 8 Try.underlying22 hi0 hz0 hz1 hz2 rfl (by decide) u4 k (((paceW v).take k).map (.int .i64 ·)) rfl hownf ⟨wr.heap.size, 0, none⟩ 1 1 [.int .i64 (v * (k : Int))] rfl rfl hnews (by simp [Value.oneCell']) (by decide) hbig1.out hbig2.out (hbf.size) (wr.heap.size + 1) (by simp) ?_; intro g cap w7 hown7 hgrow hlies hlt7)
      have hbg : Below w.heap.size _ w7 := ⟨hgrow.os, hgrow.tape, hgrow.output, hgrow.size, fun b hb2 => hgrow.block b (Nat.lt_of_lt_of_le hb2 hbf.size) (fun e => by have := (hownf.lt _ e.symm).1; omega)⟩
      have hbh := hbf.trans hbg
      go_roundw
      case rel => exact ⟨k + 1, by go_num, by omega, by rw [htk.out]; exact hown7, hbh⟩
      case measure => simp [intOf]; omega
    · obtain rfl : k = 512 := by omega
      rw [List.take_of_length_le (by rw [paceW_len]; exact Nat.le_refl _)] at hown
      obtain ⟨O, co, rfl, hO⟩ := SlAt.of_own (enc := ivs) hown (by omega) (paceW v) (flatMap_ivs _).symm (fun _ => rfl) (paceW_len v)
      have kw := k.below hb
      obtain ⟨c3, f3, l3⟩ := kw.rules
      go_wp2_with fail
      refine (hfi _ _ _ _ _ hO).mono ?_
      rintro e W ⟨P, n, pc, rfl, hP, hbf⟩
      replace hb := hb.trans (hbf.mono hb.size)
      clear c3 f3 l3 hfi hO hbf kw k hown
      have hn := Lib.hid hP.len
      have hnl := hP.le
      go_wp2_with fail
      go_loopw [8, 9] (fun o i wr => ∃ k : Nat, i = .int .i64 (k : Int) ∧ k ≤ n ∧ o = .bool ((L.take k).any (·.weak)) ∧ wr = W) (fun o i wr => n - (intOf i).toNat)
      case atStart => exact ⟨0, rfl, Nat.zero_le _, rfl, rfl⟩
      case round =>
        obtain ⟨k, rfl, hk, rfl, hwr⟩ := hrel
        rw [hwr]
        clear hwr wr
        by_cases hlt : k < n
        · obtain ⟨x, hx⟩ := some_of_lt hn.out hlt
          obtain ⟨b, off, hA, -, hbl, e0, e1, e2⟩ := hP.sht hx
          have hk0 : (0 : Int) ≤ (k : Int) := by omega
          have hk1 : (k : Int) < (n : Int) := by omega
          have hnx : Hid ((L.take (k + 1)).any (·.weak) = ((L.take k).any (·.weak) || x.weak)) := by show _ = _; rw [List.take_add_one, hx]; simp
          generalize (L.take k).any (·.weak) = o at *
          generalize x.weak = y at *
          subst hA
          cases o with
          | true =>
            go_wp2_with fail
            go_roundw
            case rel => exact ⟨k + 1, by go_num, by omega, by rw [hnx.out]; rfl, by first | rfl | trivial⟩
            case measure => simp [intOf]; omega
          | false =>
            go_wp2_with fail
            go_roundw
            case rel => exact ⟨k + 1, by go_num, by omega, by rw [hnx.out]; rfl, by first | rfl | trivial⟩
            case measure => simp [intOf]; omega
        · obtain rfl : k = n := by omega
          rw [List.take_of_length_le (by rw [hn.out]; exact Nat.le_refl _)]
          go_wp2_with fail
          go_ret
          exact ⟨rfl, hb⟩
set_option maxRecDepth 100000 in
set_option maxHeartbeats 2000000 in
theorem ShotPaces_any (f : Fir) (w : World) :
    Calls Try.prog 13 #[.agg #[.int .i64 f.start, .int .i64 f.every, .int .i64 f.srcs, .int .i64 f.shots, .int .i64 f.charge]] w fun e w' => e = .returned (.bool true) ∧ Below w.heap.size w w' := by
  have h1 := fun W => Pace_any f W
  obtain ⟨w1, hw1⟩ : ∃ w1, w1 = w.alloc (.cells #[.int .i64 f.start, .int .i64 f.every, .int .i64 f.srcs, .int .i64 f.shots, .int .i64 f.charge] 38) := ⟨_, rfl⟩
  have k3 : Blk w1 w.heap.size 38 #[.int .i64 f.start, .int .i64 f.every, .int .i64 f.srcs, .int .i64 f.shots, .int .i64 f.charge] := by rw [hw1]; exact Blk.new _ _ _
  have b : Below w.heap.size w w1 := by rw [hw1]; exact (Below.refl _ _).alloc (Nat.le_refl _) _
  unfold paceR at h1
  by_cases hf : okFir f = true
  · rw [if_pos hf] at h1
    have hp := fun v h1 h2 g W k => paces1_any f hf v h1 h2 g W k
    rcases pace_said f 1000 with ⟨he, ha⟩ | ⟨v, hv1, hv2, he, hn, ha⟩
    · rw [he] at h1
      have hp1 := hp 1 (by decide) (by decide)
      have hp2 := hp 1000 (by decide) (by decide)
      rw [show anyWeak f 1 = true from ha 1 (by decide) (by decide)] at hp1
      rw [show anyWeak f 1000 = true from ha 1000 (by decide) (by decide)] at hp2
      clear hp ha he
      go_enter Try.func13, Try.ntmps13
      go_wp2_with fail
      rw [← hw1]
      clear hw1
      obtain ⟨c3, f3, l3⟩ := k3.rules
      go_wp2_with fail
      refine (h1 _).mono ?_
      rintro e W ⟨rfl, hb⟩
      clear c3 f3 l3 h1
      replace k3 := k3.below hb
      replace b := b.trans (hb.mono b.size)
      clear hb
      go_wp2_with fail
      refine (hp1 _ _ k3).mono ?_
      rintro e W2 ⟨rfl, hb⟩
      replace k3 := k3.below hb
      replace b := b.trans (hb.mono b.size)
      clear hb
      go_wp2_with fail
      refine (hp2 _ _ k3).mono ?_
      rintro e W3 ⟨rfl, hb⟩
      replace b := b.trans (hb.mono b.size)
      clear hb hp1 hp2 k3
      go_wp2_with fail
      refine (works_any _).mono ?_
      rintro e W4 ⟨rfl, hb⟩
      go_wp2_with fail
      go_ret
      exact ⟨rfl, b.trans (hb.mono b.size)⟩
    · rw [he] at h1
      have hp1 := hp v (by omega) (by omega)
      rw [hn] at hp1
      have hB := fun W => flip_w (Between_any (v : Int) 1 1000 W)
      simp only [show decide (1 ≤ (v : Int) ∧ (v : Int) ≤ 1000) = true from decide_eq_true ⟨by omega, by omega⟩] at hB
      have u1 := IntWalk.i64_in ((v : Int) + 1) (by omega)
      by_cases hv : v = 1000
      · subst hv
        clear hp ha he hn
        go_enter Try.func13, Try.ntmps13
        go_wp2_with fail
        rw [← hw1]
        clear hw1
        obtain ⟨c3, f3, l3⟩ := k3.rules
        go_wp2_with fail
        refine (h1 _).mono ?_
        rintro e W ⟨rfl, hb⟩
        clear c3 f3 l3 h1
        replace k3 := k3.below hb
        replace b := b.trans (hb.mono b.size)
        clear hb
        go_wp2_with fail
        refine (hB _).mono ?_
        rintro e W2 ⟨rfl, rfl⟩
        go_wp2_with fail
        refine (hp1 _ _ k3).mono ?_
        rintro e W3 ⟨rfl, hb⟩
        replace b := b.trans (hb.mono b.size)
        clear hb hp1 k3
        go_wp2_with fail
        refine (works_any _).mono ?_
        rintro e W4 ⟨rfl, hb⟩
        go_wp2_with fail
        go_ret
        exact ⟨rfl, b.trans (hb.mono b.size)⟩
      · have hp2 := hp ((v : Int) + 1) (by omega) (by omega)
        rw [show anyWeak f ((v : Int) + 1) = true from ha (v + 1) (by omega) (by omega)] at hp2
        have hv' : ¬ (v : Int) = 1000 := by omega
        clear hp ha he hn
        go_enter Try.func13, Try.ntmps13
        go_wp2_with fail
        rw [← hw1]
        clear hw1
        obtain ⟨c3, f3, l3⟩ := k3.rules
        go_wp2_with fail
        refine (h1 _).mono ?_
        rintro e W ⟨rfl, hb⟩
        clear c3 f3 l3 h1
        replace k3 := k3.below hb
        replace b := b.trans (hb.mono b.size)
        clear hb
        go_wp2_with fail
        refine (hB _).mono ?_
        rintro e W2 ⟨rfl, rfl⟩
        go_wp2_with fail
        refine (hp1 _ _ k3).mono ?_
        rintro e W3 ⟨rfl, hb⟩
        replace k3 := k3.below hb
        replace b := b.trans (hb.mono b.size)
        clear hb hp1
        go_wp2_with fail
        refine (hp2 _ _ k3).mono ?_
        rintro e W5 ⟨rfl, hb⟩
        replace b := b.trans (hb.mono b.size)
        clear hb hp2 k3
        go_wp2_with fail
        refine (works_any _).mono ?_
        rintro e W4 ⟨rfl, hb⟩
        go_wp2_with fail
        go_ret
        exact ⟨rfl, b.trans (hb.mono b.size)⟩
  · rw [if_neg hf] at h1
    go_enter Try.func13, Try.ntmps13
    go_wp2_with fail
    rw [← hw1]
    clear hw1
    obtain ⟨c3, f3, l3⟩ := k3.rules
    go_wp2_with fail
    refine (h1 _).mono ?_
    rintro e W ⟨rfl, hb⟩
    replace b := b.trans (hb.mono b.size)
    clear c3 f3 l3 h1 hb
    go_wp2_with fail
    refine (works_any _).mono ?_
    rintro e W4 ⟨rfl, hb⟩
    go_wp2_with fail
    go_ret
    exact ⟨rfl, b.trans (hb.mono b.size)⟩
end Go.Proofs.Ytfengddpfeneiaa
