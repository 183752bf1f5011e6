/-
  How many shots a ship fires that goes with given speeds: the plain law, and the walk of the law's own function.
-/
import Derived.Test.YtcmbmmpihiekhaaGreatTQ
import Derived.Test.YtcmbmmpihiekhaaGreatTT
import Derived.Test.YtcmbmmpihiekhaaGreatTM
set_option maxRecDepth 100000
set_option maxHeartbeats 16000000
set_option linter.unusedSimpArgs false
set_option linter.unusedVariables false
namespace Go.Proofs.YtcmbmmpihiekhaaGreat
open Go.RowKit Go.Shelf

theorem sumL_sum (l : List Int) : sumL l = l.sum := by
  induction l with
  | nil => rfl
  | cons x l ih => rw [sumL, List.sum_cons, ih]
theorem cum_snoc : ∀ (s : Int) (l : List Int) (x : Int), cumL s (l ++ [x]) = cumL s l ++ [s + sumL l + x]
  | s, [], x => by simp [cumL, sumL]
  | s, v :: l, x => by rw [List.cons_append, cumL, cumL, cum_snoc, List.cons_append, sumL, Int.add_assoc s v (sumL l)]
theorem cum_grow {l : List Int} {k : Nat} {x : Int} (h : l[k]? = some x) : cumL 0 (l.take (k + 1)) = cumL 0 (l.take k) ++ [sumL (l.take k) + x] := by
  rw [List.take_add_one, h, Option.toList_some, cum_snoc, Int.zero_add]
def cntF (l : List Sht) : Nat := l.countP fun x => decide (0 ≤ x.tick)
theorem cntF_take {l : List Sht} {k : Nat} {x : Sht} (h : l[k]? = some x) : cntF (l.take (k + 1)) = cntF (l.take k) + (if 0 ≤ x.tick then 1 else 0) := by
  unfold cntF
  rw [List.take_add_one, h, Option.toList_some, List.countP_append, List.countP_singleton]
  simp
theorem cntF_le (l : List Sht) (k : Nat) : cntF (l.take k) ≤ k := by
  unfold cntF
  exact Nat.le_trans (List.countP_le_length) (by simp; omega)
def okN (f : Fir) (l : List Int) : Bool := (fireR f (cumL 0 l)).2 == 0
def numN (f : Fir) (l : List Int) : Nat := cntF (fireR f (cumL 0 l)).1
theorem okN_eq {f : Fir} {l : List Int} (h : ∀ v ∈ l, 0 ≤ v ∧ v ≤ 100) (h1 : 1 ≤ l.length) (h2 : l.length ≤ 6) : okN f l = okFir f := by
  have hb : ∀ (m : List Int), (∀ v ∈ m, 0 ≤ v ∧ v ≤ 100) → m.sum ≤ m.length * 100 := by
    intro m
    induction m with
    | nil => simp
    | cons v m ih =>
      intro hm
      have := ih fun u hu => hm u (List.mem_cons_of_mem _ hu)
      have := hm v (by simp)
      rw [List.sum_cons, List.length_cons]; omega
  have hs : l.sum ≤ 1048576 := by have := hb l h; omega
  unfold okN fireR
  rw [if_pos (cum_way (fun v hv => (h v hv).1) h1 (by omega) hs)]
  cases okFir f <;> rfl
theorem numN_le {f : Fir} {a b : List Int} (ha : ∀ v ∈ a, 0 ≤ v ∧ v ≤ 100) (hb : ∀ v ∈ b, 0 ≤ v ∧ v ≤ 100) (h1 : 1 ≤ a.length) (h2 : a.length ≤ 6) (hl : a.length = b.length) (h : sumL a ≤ sumL b) (hf : okN f a = true) : numN f a ≤ numN f b := by
  have e1 := okN_eq (f := f) ha h1 h2
  have e2 := okN_eq (f := f) hb (by omega) (by omega)
  have hfa : ∀ l : List Int, okN f l = true → okFir f = true → numN f l = firedN f (cumL 0 l) := by
    intro l h hk
    unfold numN firedN cntF
    unfold okN at h
    unfold fireR at *
    rw [if_pos hk] at *
    split at h
    · rename_i hw; rw [if_pos hw]
    · simp at h
  have hk : okFir f = true := by rw [← e1]; exact hf
  rw [hfa a hf hk, hfa b (by rw [e2]; exact hk) hk]
  exact firedN_mono (fun v hv => (ha v hv).1) (fun v hv => (hb v hv).1) hl (by rw [← sumL_sum, ← sumL_sum]; exact h)
theorem shots_any (f : Fir) (l : List Int) (A : Option Addr) (n c : Nat) (w : World) (hn : n ≤ 1000000) (hl2 : ∀ x ∈ l, 0 ≤ x ∧ x ≤ 100) (hs : SlAt w 0 1 ivs A n c l) :
    Calls Tryz.prog 10 #[.agg #[.int .i64 f.start, .int .i64 f.every, .int .i64 f.srcs, .int .i64 f.shots, .int .i64 f.charge], .slice A n c] w fun e w' => e = .returned (.tuple #[.int .i64 (numN f l : Int), .bool (okN f l)]) ∧ Below w.heap.size w w' := by
  have hl := Lib.hid hs.len
  replace hl2 := Lib.hid hl2
  obtain ⟨w1, hw1⟩ : ∃ w1, w1 = w.alloc (.cells #[.int .i64 f.start, .int .i64 f.every, .int .i64 f.srcs, .int .i64 f.shots, .int .i64 f.charge] 23) := ⟨_, rfl⟩
  have k3 : Blk w1 w.heap.size 23 #[.int .i64 f.start, .int .i64 f.every, .int .i64 f.srcs, .int .i64 f.shots, .int .i64 f.charge] := by rw [hw1]; exact Blk.new _ _ _
  have b : Below w.heap.size w w1 := by rw [hw1]; exact (Below.refl _ _).alloc (Nat.le_refl _) _
  replace hs : SlAt w1 0 1 ivs A n c l := by rw [hw1]; exact hs.alloc _
  have hbz := Lib.hid b.size
  go_enter Tryz.func10, Tryz.ntmps10
  go_wp2_with fail
  rw [← hw1]
  clear hw1
  go_loopw [6, 7, 8] (fun v s i wr => ∃ k : Nat, i = .int .i64 k ∧ k ≤ n ∧ s = .int .i64 (sumL (l.take k)) ∧ 0 ≤ sumL (l.take k) ∧ sumL (l.take k) ≤ k * 100 ∧ wr.ownsRow w1.heap.size 3 1 v k ((cumL 0 (l.take k)).map (.int .i64 ·)) ∧ Below w1.heap.size w1 wr) (fun v s i wr => n - (intOf i).toNat)
  case atStart => exact ⟨0, rfl, Nat.zero_le _, rfl, by simp [sumL], by simp [sumL], ⟨rfl, .inl ⟨rfl, rfl⟩⟩, Below.refl _ _⟩
  case round =>
    obtain ⟨k, rfl, hk, rfl, h0, h1, hown, hb⟩ := hrel
    by_cases hlt : k < n
    · obtain ⟨x, hx⟩ := some_of_lt hl.out hlt
      obtain ⟨b1, b2⟩ := hl2.out x (List.mem_of_getElem? hx)
      have hst := Lib.hid (sumL_take hx)
      have hcu := Lib.hid (cum_grow hx)
      obtain ⟨bb, off, rfl, -, hbl, e0⟩ := (hs.below hb).int hx
      replace hx := Lib.hid hx
      generalize sumL (l.take k) = S at *
      generalize cumL 0 (l.take k) = C at *
      have hk0 : (0 : Int) ≤ (k : Int) := by omega
      have hk1 : (k : Int) < (n : Int) := by omega
      have hbig1 : Hid (k + 1 ≤ maxLen) := by show k + 1 ≤ maxLen; unfold maxLen; omega
      have hbig2 : Hid ((k + 1) * 8 ≤ 140737488355328) := by show (k + 1) * 8 ≤ 140737488355328; omega
      obtain ⟨i0, hi0, hz0, hz1, hz2⟩ := info_parts Tryz.infoInt
      have hnews : ∀ (j : Nat) (u : Value), ([.int .i64 (S + x)] : List Value)[j]? = some u → (wr.alloc (.cells #[.int .i64 (S + x)] 3)).cell? ((⟨wr.heap.size, 0, none⟩ : Addr).add j) = some u :=
        World.news_of_block (cs := #[.int .i64 (S + x)]) (World.alloc_heap_new wr _)
      have hownf := hown.alloc (.cells #[.int .i64 (S + x)] 3)
      have hbf := hb.alloc hb.size (.cells #[.int .i64 (S + x)] 3)
      go_wp2_with (at_builtin; refine wpList_append_lies _ rfl (.tmp 25) (.tmp 27) 33 rfl w1.heap.size 3 i0 (.int .i64 0) 1 8 Tryz.underlying33 hi0 hz0 hz1 hz2 rfl (by decide) u6 k (C.map (.int .i64 ·)) rfl hownf ⟨wr.heap.size, 0, none⟩ 1 1 [.int .i64 (S + x)] rfl rfl hnews (by simp [Value.oneCell']) (by decide) hbig1.out hbig2.out (hbf.size) (wr.heap.size + 1) (by simp) ?_; intro g cap w7 hown7 hgrow hlies hlt7)
      have hbg : Below w1.heap.size _ w7 := ⟨hgrow.os, hgrow.tape, hgrow.output, hgrow.size, fun b hb2 => hgrow.block b (Nat.lt_of_lt_of_le hb2 hbf.size) (fun e => by have := (hownf.lt _ e.symm).1; omega)⟩
      have hbh := hbf.trans hbg
      go_roundw
      case rel =>
        refine ⟨k + 1, by go_num, by omega, by rw [hst.out], by rw [hst.out]; omega, by rw [hst.out]; omega, ?_, hbh⟩
        rw [hcu.out]
        simpa using hown7
      case measure => simp [intOf]; omega
    · obtain rfl : k = n := by omega
      have ht : l.take k = l := List.take_of_length_le (by rw [hl.out]; exact Nat.le_refl _)
      rw [ht] at hown
      clear h0 h1 ht
      obtain ⟨P, pc, e2, h2⟩ := SlAt.of_own (enc := ivs) hown (by omega) (cumL 0 l) (flatMap_ivs _).symm (fun _ => rfl) (by rw [cumL_len]; exact hl.out)
      subst e2
      replace k3 := k3.below hb
      replace b := b.trans (hb.mono hbz.out)
      have hF := fun W h => Fire_any f (cumL 0 l) P k pc 0 W h
      have hv1 : Hid (numN f l = cntF (fireR f (cumL 0 l)).1) := Lib.hid rfl
      have hv2 : Hid (okN f l = ((fireR f (cumL 0 l)).2 == 0)) := Lib.hid rfl
      replace h2 := h2.mono (Nat.zero_le _)
      clear hown hb hs hk hlt
      generalize wr = W at *
      generalize fireR f (cumL 0 l) = r at *
      obtain ⟨rs, er⟩ := r
      obtain ⟨c3, f3, l3⟩ := k3.rules
      go_wp2_with fail
      refine (hF _ h2).mono ?_
      rintro e W2 ⟨O, no, co, rfl, hr, hbel⟩
      clear c3 f3 l3 hF k3 h2
      dsimp only at hr
      replace b := b.trans (hbel.mono b.size)
      clear hbel
      have hrl := Lib.hid hr.len
      have hno := hr.le
      go_wp2_with fail
      go_loop [11, 12] (fun v i => ∃ k : Nat, i = .int .i64 k ∧ k ≤ no ∧ v = .int .i64 (cntF (rs.take k) : Int)) (fun v i => no - (intOf i).toNat)
      case atStart => exact ⟨0, rfl, Nat.zero_le _, by simp [cntF]⟩
      case round =>
        obtain ⟨k, rfl, hk, rfl⟩ := hrel
        have hck := cntF_le rs k
        by_cases hlt : k < no
        · obtain ⟨x, hx⟩ := some_of_lt hrl.out hlt
          have hst := Lib.hid (cntF_take hx)
          obtain ⟨bb, off, rfl, -, hbl, e0, -, -⟩ := hr.sht hx
          replace hx := Lib.hid hx
          generalize cntF (rs.take k) = S at *
          have hk0 : (0 : Int) ≤ (k : Int) := by omega
          have hk1 : (k : Int) < (no : Int) := by omega
          by_cases hx0 : 0 ≤ x.tick
          · go_wp2
            go_round
            case rel => exact ⟨k + 1, by go_num, by omega, by rw [hst.out, if_pos hx0]; go_num⟩
            case measure => simp [intOf]; omega
          · go_wp2
            go_round
            case rel => exact ⟨k + 1, by go_num, by omega, by rw [hst.out, if_neg hx0]; go_num⟩
            case measure => simp [intOf]; omega
        · obtain rfl : k = no := by omega
          have ht : rs.take k = rs := List.take_of_length_le (by rw [hrl.out]; exact Nat.le_refl _)
          rw [ht] at *
          by_cases he : er = 0
          · subst he
            go_wp2
            go_ret2
            exact ⟨by rw [hv1.out, hv2.out]; rfl, b⟩
          · have he2 : (er == 0) = false := by rw [beq_eq_false_iff_ne]; exact he
            go_wp2
            go_ret2
            exact ⟨by rw [hv1.out, hv2.out]; simp [he2, he], b⟩
end Go.Proofs.YtcmbmmpihiekhaaGreat
