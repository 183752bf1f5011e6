/-
  The package fix, walks: read; lists of regions; the closures of fixed.
-/
import Derived.Test.YtcmbmmpihiekhaaGreatC23
import Derived.Test.YtcmbmmpihiekhaaGreatC10
set_option maxRecDepth 100000
set_option maxHeartbeats 16000000
set_option linter.unusedSimpArgs false
set_option linter.unusedVariables false
namespace Go.Proofs.YtcmbmmpihiekhaaGreat
open Go.RowKit Go.Shelf
attribute [local go_sem] Oper.semAt_some

theorem blk_neF {w : World} {g g' : Nat} {t t' : TypeId} {cs cs' : Array Value} (h : Blk w g t cs) (h' : Blk w g' t' cs') (ht : t ≠ t') : g ≠ g' := fun e => by
  subst e
  unfold Blk at h h'
  rw [h] at h'
  injection h' with e1
  injection e1 with e2 e3
  exact ht e3
/-- A row that begins so. -/
def RowB (w : World) (g : Nat) (t : TypeId) (l : List Value) : Prop := ∃ tl, Blk w g t (l ++ tl).toArray
theorem own_row {w : World} {base g n cap s : Nat} {t : TypeId} {xs : List Value} (hn : 0 < n) (h : w.ownsRow base t s (.slice (some ⟨g, 0, none⟩) n cap) n xs) : RowB w g t xs ∧ base ≤ g := by
  obtain ⟨-, h⟩ := h
  rcases h with ⟨h, -⟩ | ⟨g', cap', cur, hv, hb, hh, h1, h2, h3, h4⟩
  · cases h
  · simp only [Value.slice.injEq, Option.some.injEq, Addr.mk.injEq, and_true, true_and] at hv
    obtain ⟨rfl, rfl⟩ := hv
    refine ⟨⟨cur.toList.drop (n * s), ?_⟩, hb⟩
    unfold Blk
    rw [hh, ← h4, List.take_append_drop]
theorem RowB.below {w w' : World} {g : Nat} {t : TypeId} {l : List Value} (h : RowB w g t l) (hb : Below w.heap.size w w') : RowB w' g t l := let ⟨tl, h⟩ := h; ⟨tl, h.below hb⟩
theorem RowB.lt {w : World} {g : Nat} {t : TypeId} {l : List Value} (h : RowB w g t l) : g < w.heap.size := let ⟨_, h⟩ := h; h.lt
theorem RowB.news {w : World} {g : Nat} {t : TypeId} {l : List Value} (h : RowB w g t l) : ∀ (j : Nat) (u : Value), l[j]? = some u → w.cell? ((⟨g, 0, none⟩ : Addr).add j) = some u := by
  intro j u hu
  obtain ⟨tl, h⟩ := h
  have e : (⟨g, 0, none⟩ : Addr).add j = ⟨g, j, none⟩ := by unfold Addr.add; split <;> simp_all
  have hj : j < l.length := (List.getElem?_eq_some_iff.1 hu).1
  rw [e, h.cell, List.getElem?_toArray, List.getElem?_append_left hj]
  exact hu
theorem Tryz.infoRg : (Tryz.prog.info? 68).map (fun i => (i.zero, i.size, i.bytes)) = some (some (.agg #[.int .i64 0, .int .i64 0, .int .i64 0, .int .i64 0, .int .i64 0, .int .i64 0, .int .i64 0, .int .i64 0]), 8, 64) := by kernel_rfl
theorem CloneR_any (xs : List Value) (b c : Nat) (w : World) (hb : RowB w b 68 xs) (hl : xs.length = 16) (h1 : ∀ u ∈ xs, u.oneCell' = true) :
    Calls Tryz.prog 76 #[.slice (some ⟨b, 0, none⟩) 2 c] w fun e w' => ∃ g pc, e = .returned (.slice (some ⟨g, 0, none⟩) 2 pc) ∧ RowB w' g 68 xs ∧ w.heap.size ≤ g ∧ Below w.heap.size w w' := by
  have hown := own_noneC w 68 8
  have hbf := (Below.refl w.heap.size w).alloc (Nat.le_refl _) (.cells #[] 68)
  have hnews := Lib.hid (hb.below hbf).news
  have hone := Lib.hid h1
  have hlen : Hid (xs.length = 2 * 8) := Lib.hid hl
  have hbig1 : Hid (0 + 2 ≤ maxLen) := by show 0 + 2 ≤ maxLen; unfold maxLen; omega
  obtain ⟨i0, hi0, hz0, hz1, hz2⟩ := info_parts Tryz.infoRg
  clear hb hl h1
  have hnil := fun W => Lib.run_eql_slice_nil (P := Tryz.prog) W 58 68 (some ⟨b, 0, none⟩) 2 c 0 0 Tryz.underlying58
  simp only [Option.isNone_some] at hnil
  go_enter Tryz.func76, Tryz.ntmps76
  go_wp2_with (at_builtin; refine wpList_append_lies _ rfl (.tmp 5) (.tmp 6) 58 rfl w.heap.size 68 i0 (.agg #[.int .i64 0, .int .i64 0, .int .i64 0, .int .i64 0, .int .i64 0, .int .i64 0, .int .i64 0, .int .i64 0]) 8 64 Tryz.underlying58 hi0 hz0 hz1 hz2 rfl (by decide) (.slice (some ⟨w.heap.size, 0, none⟩) 0 0) 0 [] rfl hown ⟨b, 0, none⟩ 2 c xs rfl hlen.out hnews.out hone.out (by decide) hbig1.out (by decide) hbf.size (w.heap.size + 1) (by simp) ?_; intro g cap w7 hown7 hgrow hlies hlt7)
  go_ret
  have hbg : Below w.heap.size _ w7 := ⟨hgrow.os, hgrow.tape, hgrow.output, hgrow.size, fun b hb2 => hgrow.block b (Nat.lt_of_lt_of_le hb2 hbf.size) (fun e => by have := (hown.lt _ e.symm).1; omega)⟩
  rw [Nat.zero_add, List.nil_append] at hown7
  have hr := own_row (by decide) hown7
  exact ⟨g, cap, rfl, hr.1, hr.2, hbf.trans hbg⟩
theorem EqualRA_any (g1 g2 c1 c2 : Nat) (w : World) (h1 : RowB w g1 68 [Value.int .i64 0, Value.int .i64 0, Value.int .i64 0, Value.int .i64 0, Value.int .i64 0, Value.int .i64 0, Value.int .i64 0, Value.int .i64 0, Value.int .i64 0, Value.int .i64 9, Value.int .i64 0, Value.int .i64 9, Value.int .i64 0, Value.int .i64 18, Value.int .i64 (-9), Value.int .i64 9]) (h2 : RowB w g2 68 [Value.int .i64 0, Value.int .i64 0, Value.int .i64 0, Value.int .i64 0, Value.int .i64 0, Value.int .i64 0, Value.int .i64 0, Value.int .i64 0, Value.int .i64 0, Value.int .i64 1, Value.int .i64 0, Value.int .i64 1, Value.int .i64 0, Value.int .i64 2, Value.int .i64 (-1), Value.int .i64 1]) : Calls Tryz.prog 128 #[.slice (some ⟨g1, 0, none⟩) 2 c1, .slice (some ⟨g2, 0, none⟩) 2 c2] w fun e w' => e = .returned (.bool false) ∧ Below w.heap.size w w' := by
  obtain ⟨t1, h1⟩ := h1
  obtain ⟨t2, h2⟩ := h2
  simp only [List.cons_append, List.nil_append] at h1 h2
  have b := Below.refl w.heap.size w
  go_enter Tryz.func128, Tryz.ntmps128
  go_wp2_with fail
  refine wp_loop_rounds 3 ?_
  rw [rounds_succ]
  obtain ⟨c9, f9, l9⟩ := h1.rules
  obtain ⟨d9, e9, m9⟩ := h2.rules
  go_wp2_with fail
  go_quiet (fail)
  clear c9 f9 l9 d9 e9 m9
  replace h1 := h1.drewN nq
  replace h2 := h2.drewN nq
  replace b := below_drewN b nq
  generalize w.drewN nq = W0 at *
  clear nq
  go_wp2_with fail
  rw [rounds_succ]
  obtain ⟨c9, f9, l9⟩ := h1.rules
  obtain ⟨d9, e9, m9⟩ := h2.rules
  go_wp2_with fail
  go_quiet (fail)
  clear c9 f9 l9 d9 e9 m9
  replace h1 := h1.drewN nq
  replace h2 := h2.drewN nq
  replace b := below_drewN b nq
  generalize W0.drewN nq = W1 at *
  clear nq
  go_wp2
  go_ret
  exact ⟨rfl, b⟩
theorem EqualRB_any (g1 g2 c1 c2 : Nat) (w : World) (h1 : RowB w g1 68 [Value.int .i64 0, Value.int .i64 0, Value.int .i64 0, Value.int .i64 0, Value.int .i64 0, Value.int .i64 0, Value.int .i64 0, Value.int .i64 0, Value.int .i64 0, Value.int .i64 1, Value.int .i64 0, Value.int .i64 1, Value.int .i64 0, Value.int .i64 2, Value.int .i64 (-1), Value.int .i64 1]) (h2 : RowB w g2 68 [Value.int .i64 0, Value.int .i64 0, Value.int .i64 0, Value.int .i64 0, Value.int .i64 0, Value.int .i64 0, Value.int .i64 0, Value.int .i64 0, Value.int .i64 0, Value.int .i64 1, Value.int .i64 0, Value.int .i64 1, Value.int .i64 0, Value.int .i64 2, Value.int .i64 (-1), Value.int .i64 1]) : Calls Tryz.prog 128 #[.slice (some ⟨g1, 0, none⟩) 2 c1, .slice (some ⟨g2, 0, none⟩) 2 c2] w fun e w' => e = .returned (.bool true) ∧ Below w.heap.size w w' := by
  obtain ⟨t1, h1⟩ := h1
  obtain ⟨t2, h2⟩ := h2
  simp only [List.cons_append, List.nil_append] at h1 h2
  have b := Below.refl w.heap.size w
  go_enter Tryz.func128, Tryz.ntmps128
  go_wp2_with fail
  refine wp_loop_rounds 3 ?_
  rw [rounds_succ]
  obtain ⟨c9, f9, l9⟩ := h1.rules
  obtain ⟨d9, e9, m9⟩ := h2.rules
  go_wp2_with fail
  go_quiet (fail)
  clear c9 f9 l9 d9 e9 m9
  replace h1 := h1.drewN nq
  replace h2 := h2.drewN nq
  replace b := below_drewN b nq
  generalize w.drewN nq = W0 at *
  clear nq
  go_wp2_with fail
  rw [rounds_succ]
  obtain ⟨c9, f9, l9⟩ := h1.rules
  obtain ⟨d9, e9, m9⟩ := h2.rules
  go_wp2_with fail
  go_quiet (fail)
  clear c9 f9 l9 d9 e9 m9
  replace h1 := h1.drewN nq
  replace h2 := h2.drewN nq
  replace b := below_drewN b nq
  generalize W0.drewN nq = W1 at *
  clear nq
  go_wp2_with fail
  rw [rounds_succ]
  go_wp2
  go_ret
  exact ⟨rfl, b⟩
theorem containsN_any (v : Int) (w : World) : Calls Tryz.prog 81 #[.slice none 0 0, .int .i64 v] w fun e w' => e = .returned (.bool false) ∧ w = w' := by
  have h : ∀ W, Calls Tryz.prog 129 #[.slice none 0 0, .int .i64 v] W fun e w' => e = .returned (.int .i64 (-1)) ∧ W = w' := by
    intro W
    go_enter Tryz.func129, Tryz.ntmps129
    go_wp2
    refine wp_loop_rounds 1 ?_
    rw [rounds_succ]
    go_wp2
    go_ret
    exact ⟨rfl, rfl⟩
  go_enter Tryz.func81, Tryz.ntmps81
  go_wp2_with fail
  refine (h _).mono ?_
  rintro e w' ⟨rfl, rfl⟩
  go_wp2
  go_ret
  exact ⟨rfl, rfl⟩
theorem used_any (go : Nat) (w : World) (k : Blk w go 33 #[.slice none 0 0]) : Calls Tryz.prog 80 #[.int .i64 0, .pointer (some ⟨go, 0, none⟩)] w fun e w' => e = .returned (.bool true) ∧ w = w' := by
  obtain ⟨c1, f1, l1⟩ := k.rules
  go_enter Tryz.func80, Tryz.ntmps80
  go_wp2_with fail
  refine (containsN_any _ _).mono ?_
  rintro e w' ⟨rfl, rfl⟩
  go_wp2
  go_ret
  exact ⟨rfl, rfl⟩
theorem note_any (gt : Nat) (w : World) (k : Blk w gt 33 #[.slice none 0 0]) : Calls Tryz.prog 82 #[.int .i64 0, .pointer (some ⟨gt, 0, none⟩)] w fun e w' => e = .returned (.tuple #[]) ∧ (∃ g c, Blk w' gt 33 #[.slice (some ⟨g, 0, none⟩) 1 c]) ∧ BelowH (fun k => k = gt) w.heap.size w w' := by
  obtain ⟨c1, f1, l1⟩ := k.rules
  have kl := k.lt
  have hbf := (Below.refl w.heap.size w).alloc (Nat.le_refl _) (.cells #[.int .i64 0] 3)
  have ks := Blk.new w 3 #[.int .i64 0]
  have hnews := Lib.hid (World.news_of_block (cs := #[Value.int .i64 0]) ks)
  have hone : Hid (∀ u ∈ [Value.int .i64 0], u.oneCell' = true) := by show ∀ _ ∈ _, _; simp [Value.oneCell']
  have hbig1 : Hid (0 + 1 ≤ maxLen) := by show 0 + 1 ≤ maxLen; unfold maxLen; omega
  obtain ⟨i0, hi0, hz0, hz1, hz2⟩ := info_parts Tryz.infoInt
  go_enter Tryz.func82, Tryz.ntmps82
  go_wp2_with (at_builtin; refine wpList_append_lies _ rfl (.tmp 3) (.tmp 5) 33 rfl w.heap.size 3 i0 (.int .i64 0) 1 8 Tryz.underlying33 hi0 hz0 hz1 hz2 rfl (by decide) (.slice none 0 0) 0 [] rfl (World.ownsRow_nil _ _ _ _) ⟨w.heap.size, 0, none⟩ 1 1 [.int .i64 0] rfl rfl hnews.out hone.out (by decide) hbig1.out (by decide) hbf.size (w.heap.size + 1) (by simp) ?_; intro g cap w7 hown7 hgrow hlies hlt7; have hbg : Below w.heap.size w w7 := hbf.trans ⟨hgrow.os, hgrow.tape, hgrow.output, hgrow.size, fun b hb2 => hgrow.block b (Nat.lt_of_lt_of_le hb2 hbf.size) (fun e => by cases e)⟩; have k7 := k.below hbg; clear c1 f1 l1; obtain ⟨c1, f1, l1⟩ := k7.rules)
  go_end0
  have kz := k7.set_ 0 (.slice (some ⟨g, 0, none⟩) 1 cap)
  simp only [sA, sZ] at kz
  exact ⟨rfl, ⟨g, cap, kz⟩, (belowH_of hbg).trans ⟨rfl, rfl, rfl, by simp [World.setCell], fun k _ hk => Below.heap_setCell w7 ⟨gt, 0, none⟩ _ k (by dsimp only; exact hk)⟩⟩
theorem read_any (w : World) : Calls Tryz.prog 69 #[.agg #[.int .i64 1, .int .i64 0, .int .i64 1, .int .i64 0, .int .i64 2, .int .i64 0, .int .i64 0, .int .i64 0, .int .i64 0, .int .i64 0, .int .i64 0, .int .i64 0, .int .i64 0, .int .i64 0], .int .i64 2] w fun e w' => e = .returned (.tuple #[.iface 242 (.agg #[.int .i64 0, .int .i64 1, .int .i64 0, .int .i64 2]), .bool true]) ∧ Below w.heap.size w w' := by
  have e1 : IntKind.i64.wrap (2 - 1) = 1 := by decide
  obtain ⟨W, hW⟩ : ∃ q0, q0 = (w.alloc (.cells #[.int .i64 1, .int .i64 0, .int .i64 1, .int .i64 0, .int .i64 2, .int .i64 0, .int .i64 0, .int .i64 0, .int .i64 0, .int .i64 0, .int .i64 0, .int .i64 0, .int .i64 0, .int .i64 0] 160)) := ⟨_, rfl⟩
  have k2 : Blk W (w.heap.size) 160 #[.int .i64 1, .int .i64 0, .int .i64 1, .int .i64 0, .int .i64 2, .int .i64 0, .int .i64 0, .int .i64 0, .int .i64 0, .int .i64 0, .int .i64 0, .int .i64 0, .int .i64 0, .int .i64 0] := by rw [hW]; exact (Blk.new _ _ _)
  have b : Below w.heap.size w W := by rw [hW]; exact ((Below.refl _ _).alloc (Nat.le_refl _) _)
  go_enter Tryz.func69, Tryz.ntmps69
  go_upto_region 1 with fail
  rw [← hW]
  clear hW
  obtain ⟨c2, f2, l2⟩ := k2.rules
  have k6 := Blk.new W 240 #[.int .i64 0, .int .i64 1]
  have hb := (Below.refl W.heap.size W).alloc (Nat.le_refl _) (.cells #[.int .i64 0, .int .i64 1] 240)
  go_upto_region 2 with fail
  clear c2 f2 l2
  replace k2 := k2.below hb
  replace b := b.trans (hb.mono b.size)
  clear hb
  generalize W.alloc (.cells #[.int .i64 0, .int .i64 1] 240) = W1 at *
  generalize W.heap.size = g6 at *
  obtain ⟨c2, f2, l2⟩ := k2.rules
  go_wp2_with fail
  refine (fwithin_any _ _ _ _).mono ?_
  rintro e w' ⟨rfl, rfl⟩
  go_wp2_with fail
  refine (fwithin_any _ _ _ _).mono ?_
  rintro e w' ⟨rfl, rfl⟩
  have k8 := Blk.new W1 160 #[.int .i64 1, .int .i64 0, .int .i64 1, .int .i64 0, .int .i64 0, .int .i64 0, .int .i64 0, .int .i64 0, .int .i64 0, .int .i64 0, .int .i64 0, .int .i64 0, .int .i64 0, .int .i64 0]
  have hb := (Below.refl W1.heap.size W1).alloc (Nat.le_refl _) (.cells #[.int .i64 1, .int .i64 0, .int .i64 1, .int .i64 0, .int .i64 0, .int .i64 0, .int .i64 0, .int .i64 0, .int .i64 0, .int .i64 0, .int .i64 0, .int .i64 0, .int .i64 0, .int .i64 0] 160)
  go_upto_region 4 with fail
  have h28 := k2.lt
  clear c2 f2 l2
  replace k2 := k2.below hb
  replace k6 := k6.below hb
  replace b := b.trans (hb.mono b.size)
  clear hb
  have h8 := b.size
  have hg8 : w.heap.size ≤ W1.heap.size := by omega
  clear h8
  generalize W1.alloc (.cells #[.int .i64 1, .int .i64 0, .int .i64 1, .int .i64 0, .int .i64 0, .int .i64 0, .int .i64 0, .int .i64 0, .int .i64 0, .int .i64 0, .int .i64 0, .int .i64 0, .int .i64 0, .int .i64 0] 160) = W2 at *
  generalize W1.heap.size = g8 at *
  obtain ⟨c2, f2, l2⟩ := k2.rules
  go_wp2_with fail
  clear c2 f2 l2
  refine hOpn (fun w' : World => (∀ j, w'.cell? ⟨w.heap.size, j, none⟩ = #[Value.int .i64 1, .int .i64 0, .int .i64 1, .int .i64 0, .int .i64 2, .int .i64 0, .int .i64 0, .int .i64 0, .int .i64 0, .int .i64 0, .int .i64 0, .int .i64 0, .int .i64 0, .int .i64 0][j]?)) (fun W' hbb => (k2.below hbb).cell) fun hSb hb9 hS hg9 => ?_
  generalize W2.drew = we at *
  refine hTk 0 44 ?_
  refine hTk 1 45 ?_
  refine hTk 2 46 ?_
  refine hTk 3 47 ?_
  refine hTk 4 48 ?_
  have hk8 := k8.lt
  have h26 : g6 ≠ g8 := by have := blk_neF k6 k8 (by decide); exact this
  replace k8 := k8.below hb9
  replace k2 := k2.below hb9
  replace k6 := k6.below hb9
  replace b := b.trans (hb9.mono b.size)
  have kz := (k8.set_ 3 (.int .i64 0))
  simp only [sA, sZ, sS] at kz
  have bz := (b.setCell (p := ⟨g8, 3, none⟩) (by dsimp only; omega) (.int .i64 0))
  have k2z := (k2.far (p := ⟨g8, 3, none⟩) (by dsimp only; omega) (.int .i64 0))
  have k6z := (k6.far (p := ⟨g8, 3, none⟩) (by dsimp only; omega) (.int .i64 0))
  obtain ⟨Wy, hwz⟩ : ∃ q0, q0 = (we.setCell ⟨g8, 3, none⟩ (.int .i64 0)) := ⟨_, rfl⟩
  rw [← hwz] at kz bz k2z k6z
  obtain ⟨c9, f9, l9⟩ := k8.rules
  refine hOne 5 fun K hK => ?_
  go_simp
  rw [← hwz]
  clear hwz c9 f9 l9 k8 b hS
  try clear hSb hb9
  have k8 := kz
  have b := bz
  clear kz bz
  replace k2 := k2z
  clear k2z
  replace k6 := k6z
  clear k6z
  have hS : (fun w' : World => (∀ j, w'.cell? ⟨w.heap.size, j, none⟩ = #[Value.int .i64 1, .int .i64 0, .int .i64 1, .int .i64 0, .int .i64 2, .int .i64 0, .int .i64 0, .int .i64 0, .int .i64 0, .int .i64 0, .int .i64 0, .int .i64 0, .int .i64 0, .int .i64 0][j]?)) Wy := k2.cell
  refine hK _ _ hS ?_
  clear hK K
  try simp only [Act.put, sA, sZ, sS]
  refine hTk 6 49 ?_
  have kz := (k8.set_ 4 (.int .i64 2))
  simp only [sA, sZ, sS] at kz
  have bz := (b.setCell (p := ⟨g8, 4, none⟩) (by dsimp only; omega) (.int .i64 2))
  have k2z := (k2.far (p := ⟨g8, 4, none⟩) (by dsimp only; omega) (.int .i64 2))
  have k6z := (k6.far (p := ⟨g8, 4, none⟩) (by dsimp only; omega) (.int .i64 2))
  obtain ⟨Wz, hwz⟩ : ∃ q0, q0 = (Wy.setCell ⟨g8, 4, none⟩ (.int .i64 2)) := ⟨_, rfl⟩
  rw [← hwz] at kz bz k2z k6z
  obtain ⟨c9, f9, l9⟩ := k8.rules
  refine hOne 7 fun K hK => ?_
  go_simp
  rw [← hwz]
  clear hwz c9 f9 l9 k8 b hS
  try clear hSb hb9
  have k8 := kz
  have b := bz
  clear kz bz
  replace k2 := k2z
  clear k2z
  replace k6 := k6z
  clear k6z
  have hS : (fun w' : World => (∀ j, w'.cell? ⟨w.heap.size, j, none⟩ = #[Value.int .i64 1, .int .i64 0, .int .i64 1, .int .i64 0, .int .i64 2, .int .i64 0, .int .i64 0, .int .i64 0, .int .i64 0, .int .i64 0, .int .i64 0, .int .i64 0, .int .i64 0, .int .i64 0][j]?)) Wz := k2.cell
  refine hK _ _ hS ?_
  clear hK K
  try simp only [Act.put, sA, sZ, sS]
  refine wpAnyH_done (by kernel_rfl) (noPanic_normal ?_) _
  clear hS
  try clear hSb
  obtain ⟨c2, f2, l2⟩ := k2.rules
  obtain ⟨c8, f8, l8⟩ := k8.rules
  obtain ⟨c6, f6, l6⟩ := k6.rules
  go_wp2_with fail
  go_quiet (with_reducible exact Calls.quiet_of_same (flip_w (fwithin_any _ _ _ _)))
  go_wp2
  go_ret2
  exact ⟨rfl, below_drewN b _⟩
end Go.Proofs.YtcmbmmpihiekhaaGreat
