/-
  Walks, eleventh part: Fastest.
  Walks, twelfth part: Fastest.
-/
import Derived.Test.YthjdjpcomocffaaGreatW9
import Derived.Deep.AppendLies
import Derived.WalkMore
import Derived.Test.YthjdjpcomocffaaGreatBase
namespace Go.Proofs.YthjdjpcomocffaaGreat
set_option linter.unusedSimpArgs false
set_option linter.unusedVariables false
open Go.RowKit Go.Shelf

/-! What is kept in a step with a choice; the best choice of a step; the plan. -/
def keptN (s : Strm) (bs : List Bnd) (l : List Wat) (ch : List Int) (i k : Nat) : Bool := !bentN s bs l i && !pulledS s (encAt s bs l (i + 1)) (ch.getD k 0) (l.getD i wat0).alo
def pickTo (f : Nat → Bool) (ch : List Int) : Nat → Int
  | 0 => -1
  | k + 1 => if f k = true then (if pickTo f ch k < 0 then (k : Int) else if ch.getD (pickTo f ch k).toNat 0 < ch.getD k 0 then (k : Int) else pickTo f ch k) else pickTo f ch k
def runPlan (p : Nat → Int) (ch : List Int) (nd : Nat) : Nat → List Int → Int → Bool × List Int × Int
  | 0, plan, way => (true, plan, way)
  | r + 1, plan, way => if p (nd - (r + 1)) < 0 then (false, plan, way) else runPlan p ch nd r (plan ++ [p (nd - (r + 1))]) (way + ch.getD (p (nd - (r + 1))).toNat 0)
def fastR (s : Strm) (bs : List Bnd) (l : List Wat) (ch : List Int) : List Int × Int × Int :=
  if errBW s bs l ≠ 0 then ([], 0, errBW s bs l)
  else if ¬ (1 ≤ l.length ∧ l.length ≤ 6 ∧ 1 ≤ ch.length ∧ ch.length ≤ 4) then ([], 0, 3)
  else if okSpeeds ch = false then ([], 0, 34)
  else
    let r := runPlan (fun i => pickTo (keptN s bs l ch i) ch ch.length) ch l.length l.length [] 0
    if r.1 = true then (r.2.1, r.2.2, 0) else ([], 0, 4)

theorem pickTo_step (f : Nat → Bool) (ch : List Int) (k : Nat) : pickTo f ch (k + 1) = if f k = true then (if pickTo f ch k < 0 then (k : Int) else if ch.getD (pickTo f ch k).toNat 0 < ch.getD k 0 then (k : Int) else pickTo f ch k) else pickTo f ch k := rfl
theorem pickTo_bd (f : Nat → Bool) (ch : List Int) : ∀ k, -1 ≤ pickTo f ch k ∧ pickTo f ch k < k
  | 0 => by simp [pickTo]
  | k + 1 => by
    have := pickTo_bd f ch k
    rw [pickTo_step]
    repeat' split
    all_goals omega

set_option maxRecDepth 100000 in
set_option maxHeartbeats 1000000 in
theorem choose_any (w0 : World) (B : Nat) (hw0B : w0.heap.size = B) (ch : List Int) (fk : Nat → Nat → Bool) (D C : Option Addr) (nd cd nc cc bm nm g1 g2 g3 g4 g5 g6 : Nat) (hB : B ≤ g1 ∧ B ≤ g2 ∧ B ≤ g3 ∧ B ≤ g4 ∧ B ≤ g5 ∧ B ≤ g6 ∧ B ≤ bm) (hg45 : g4 ≠ g5)
    (hn : nd ≤ 6) (hc : nc ≤ 4) (hch : okSpeeds ch = true) (hs0 : SlAt w0 0 1 ivs C nc cc ch) (hg24 : g2 ≠ g4) (hdis : g1 ≠ g4 ∧ g1 ≠ g5 ∧ g2 ≠ g5 ∧ g3 ≠ g4 ∧ g3 ≠ g5 ∧ g6 ≠ g4 ∧ g6 ≠ g5 ∧ bm ≠ g4 ∧ bm ≠ g5) : ∀ (r i : Nat) (v : Value) (plan : List Int) (way : Int) (w : World), i + r = nd → plan.length = i → 0 ≤ way → way ≤ 100 * i → (∀ g, g ∈ [g1, g2, g3, g4, g5, g6, bm] → some g ≠ v.ownBlock) →
    Blk w g1 47 #[.slice D nd cd] → Blk w g2 33 #[.slice C nc cc] → Blk w g3 91 #[.map (some bm)] → Blk w g4 33 #[v] → Blk w g5 3 #[.int .i64 way] →
    Blk w g6 97 #[.func (.func 39) #[] #[.pointer (some ⟨g1, 0, none⟩), .pointer (some ⟨g2, 0, none⟩), .pointer (some ⟨g3, 0, none⟩), .pointer (some ⟨g4, 0, none⟩), .pointer (some ⟨g5, 0, none⟩), .pointer (some ⟨g6, 0, none⟩)]] →
    Below B w0 w → KMap w bm nm fk → w.ownsRow B 3 1 v i (plan.map (.int .i64 ·)) →
    Calls Tryz.prog 39 #[.int .i64 i, .pointer (some ⟨g1, 0, none⟩), .pointer (some ⟨g2, 0, none⟩), .pointer (some ⟨g3, 0, none⟩), .pointer (some ⟨g4, 0, none⟩), .pointer (some ⟨g5, 0, none⟩), .pointer (some ⟨g6, 0, none⟩)] w fun e w' =>
      ∃ v', e = .returned (.bool (runPlan (fun i => pickTo (fk i) ch ch.length) ch nd r plan way).1) ∧ Below B w w' ∧ Blk w' g4 33 #[v'] ∧ (∃ n', w'.ownsRow B 3 1 v' n' ((runPlan (fun i => pickTo (fk i) ch ch.length) ch nd r plan way).2.1.map (.int .i64 ·))) ∧
        Blk w' g5 3 #[.int .i64 (runPlan (fun i => pickTo (fk i) ch ch.length) ch nd r plan way).2.2] ∧
        ∀ x, x < w.heap.size → x ≠ g4 → x ≠ g5 → some x ≠ v.ownBlock → w'.heap[x]? = w.heap[x]? := by
  intro r
  induction r with
  | zero =>
    intro i v plan way w hir hpl hw0 hw1 hvne k1 k2 k3 k4 k5 k6 hbb hm hown
    obtain rfl : i = nd := by omega
    obtain ⟨c1, f1, l1⟩ := k1.rules
    go_enter Tryz.func39, Tryz.ntmps39
    go_wp2
    go_step3
    go_wp2
    rw [Exit.noGoto_ret]
    go_ret
    exact ⟨v, rfl, Below.refl _ _, k4, ⟨_, hown⟩, k5, fun _ _ _ _ _ => rfl⟩
  | succ r ih =>
    intro i v plan way w hir hpl hw0 hw1 hvne k1 k2 k3 k4 k5 k6 hbb hm hown
    have hlt : i < nd := by omega
    obtain ⟨c1, f1, l1⟩ := k1.rules
    obtain ⟨c2, f2, l2⟩ := k2.rules
    have hs : SlAt w 0 1 ivs C nc cc ch := hs0.keep hbb.size (fun p _ hp => hbb.cell (by omega))
    have hcl := hs.len
    have hne : ¬ ((i : Int) = (nd : Int)) := by omega
    have hrun : Hid (runPlan (fun i => pickTo (fk i) ch ch.length) ch nd (r + 1) plan way = if pickTo (fk i) ch nc < 0 then (false, plan, way) else runPlan (fun i => pickTo (fk i) ch ch.length) ch nd r (plan ++ [pickTo (fk i) ch nc]) (way + ch.getD (pickTo (fk i) ch nc).toNat 0)) := by
      show _ = _
      rw [runPlan, show nd - (r + 1) = i by omega, hcl]
    replace ih := Lib.hid ih
    replace hch := Lib.hid hch
    go_enter Tryz.func39, Tryz.ntmps39
    go_wp2
    go_step3
    go_wp2
    go_step3
    go_wp2
    clear c1 f1 l1 c2 f2 l2
    go_loopw [9, 18] (fun b j wr => ∃ k : Nat, j = .int .i64 k ∧ k ≤ nc ∧ b = .int .i64 (pickTo (fk i) ch k) ∧ wr = w) (fun b j wr => nc - (intOf j).toNat)
    case atStart => exact ⟨0, rfl, Nat.zero_le _, rfl, rfl⟩
    case round =>
      obtain ⟨k, rfl, hk, rfl, rfl⟩ := hrel
      have hpb := pickTo_bd (fk i) ch k
      by_cases hkn : k < nc
      · have hstep := Lib.hid (pickTo_step (fk i) ch k)
        obtain ⟨x, hx⟩ := some_of_lt hcl hkn
        have hxd : ch.getD k 0 = x := by rw [List.getD_eq_getElem?_getD, hx]; rfl
        obtain ⟨b1, o1, hA1, -, -, e0⟩ := hs.int hx
        have hlk := hm.look (i := i) (k := k) (by omega) (by omega)
        have hk0 : (0 : Int) ≤ (k : Int) := by omega
        have hk1 : (k : Int) < (nc : Int) := by omega
        obtain ⟨c3, f3, l3⟩ := k3.rules
        obtain ⟨c2, f2, l2⟩ := k2.rules
        rw [hxd] at hstep
        replace hx := Lib.hid hx
        clear hxd
        obtain ⟨fb, hfb⟩ : ∃ fb, fb = fk i k := ⟨_, rfl⟩
        rw [← hfb] at hlk hstep
        clear hfb
        by_cases hp0 : pickTo (fk i) ch k < 0
        · generalize pickTo (fk i) ch k = pk at *
          subst hA1
          cases fb
          · go_wp2
            exact ⟨⟨k + 1, by go_num, by omega, by rw [hstep.out]; simp, trivial⟩, by simp [intOf]; omega⟩
          · go_wp2
            exact ⟨⟨k + 1, by go_num, by omega, by rw [hstep.out]; simp [hp0], trivial⟩, by simp [intOf]; omega⟩
        · have hpn : (pickTo (fk i) ch k).toNat < nc := by omega
          obtain ⟨y, hy⟩ := some_of_lt hcl hpn
          have hyd : ch.getD (pickTo (fk i) ch k).toNat 0 = y := by rw [List.getD_eq_getElem?_getD, hy]; rfl
          obtain ⟨b2, o2, hA2, -, -, e1⟩ := hs.int hy
          rw [hyd] at hstep
          subst hA1
          cases hA2
          replace hy := Lib.hid hy
          clear hyd
          obtain ⟨pn, hpk⟩ : ∃ pn : Nat, pickTo (fk i) ch k = (pn : Int) := ⟨(pickTo (fk i) ch k).toNat, by omega⟩
          rw [hpk] at hpn e1 hstep hpb ⊢
          rw [Int.toNat_natCast] at hpn e1
          have hp1 : (0 : Int) ≤ (pn : Int) := by omega
          have hp2 : (pn : Int) < (nc : Int) := by omega
          have hp3 : ¬ ((pn : Int) < 0) := by omega
          clear hp0 hy
          cases fb
          · go_wp2
            exact ⟨⟨k + 1, by go_num, by omega, by rw [hstep.out]; simp, trivial⟩, by simp [intOf]; omega⟩
          · by_cases hxy : y < x
            · go_wp2
              exact ⟨⟨k + 1, by go_num, by omega, by rw [hstep.out]; simp [hxy, hp3], trivial⟩, by simp [intOf]; omega⟩
            · go_wp2
              exact ⟨⟨k + 1, by go_num, by omega, by rw [hstep.out]; simp [hxy, hp3], trivial⟩, by simp [intOf]; omega⟩
      · obtain rfl : k = nc := by omega
        obtain ⟨pk, hpk⟩ : ∃ pk, pk = pickTo (fk i) ch k := ⟨_, rfl⟩
        rw [← hpk] at hrun hpb ⊢
        by_cases hp : pk < 0
        · rw [if_pos hp] at hrun
          go_wp2
          rw [Exit.noGoto_ret]
          go_ret
          rw [hrun.out]
          exact ⟨v, rfl, Below.refl _ _, k4, ⟨_, hown⟩, k5, fun _ _ _ _ _ => rfl⟩
        · rw [if_neg hp] at hrun
          obtain ⟨c4, f4, l4⟩ := k4.rules
          obtain ⟨c5, f5, l5⟩ := k5.rules
          obtain ⟨c2, f2, l2⟩ := k2.rules
          obtain ⟨pn, hpn⟩ : ∃ pn : Nat, pk = (pn : Int) := ⟨pk.toNat, by omega⟩
          subst hpn
          have hpl2 : pn < k := by omega
          obtain ⟨y, hy⟩ := some_of_lt hcl hpl2
          have hyd : ch.getD pn 0 = y := by rw [List.getD_eq_getElem?_getD, hy]; rfl
          obtain ⟨b2, o2, hA2, -, hb2B, e1⟩ := hs0.int hy
          replace e1 := (hbb.cell (by dsimp only; omega)).trans e1
          have hyk := List.all_eq_true.1 hch.out y (List.mem_of_getElem? hy)
          simp only [okSpeed, decide_eq_true_eq] at hyk
          subst hA2
          have hp1 : (0 : Int) ≤ (pn : Int) := by omega
          have hp2 : (pn : Int) < (k : Int) := by omega
          have hp3 : ¬ ((pn : Int) < 0) := by omega
          have t1 := IntWalk.i64_in (way + y) (by omega)
          rw [Int.toNat_natCast, hyd] at hrun
          replace hy := Lib.hid hy
          clear hyd hpk
          go_wp2
          have hb2B' : b2 < B := by omega
          refine wp_region_till (fun w' => (∀ j, w'.cell? ⟨g5, j, none⟩ = #[Value.int .i64 way][j]?) ∧ (∀ j, w'.cell? ⟨g2, j, none⟩ = #[Value.slice (some ⟨b2, o2, none⟩) k cc][j]?) ∧ w'.cell? ⟨b2, o2 + pn, none⟩ = some (.int .i64 y)) 11 (by kernel_rfl) ?_
          have hS : (fun w' : World => (∀ j, w'.cell? ⟨g5, j, none⟩ = #[Value.int .i64 way][j]?) ∧ (∀ j, w'.cell? ⟨g2, j, none⟩ = #[Value.slice (some ⟨b2, o2, none⟩) k cc][j]?) ∧ w'.cell? ⟨b2, o2 + pn, none⟩ = some (.int .i64 y)) wr.drew := ⟨c5, c2, e1⟩
          refine till_take (i := 1) (v := ?_) rfl (by kernel_rfl) (by kernel_rfl) (by kernel_rfl) (by kernel_rfl) (by kernel_rfl) (by kernel_rfl) (fun _ _ _ h => h) (Or.inl ⟨by rfl, ?_⟩) hS ?_
          rotate_left 1
          · intro w' hSw
            try dsimp only at hSw
            obtain ⟨q2, q3, q4⟩ := hSw
            go_simp
            all_goals with_reducible rfl
          try simp only [Act.put, List.setIfInBounds_toArray, List.set_cons_zero, List.set_cons_succ]
          refine till_take (i := 4) (v := ?_) rfl (by kernel_rfl) (by kernel_rfl) (by kernel_rfl) (by kernel_rfl) (by kernel_rfl) (by kernel_rfl) (fun _ _ _ h => h) (Or.inl ⟨by rfl, ?_⟩) hS ?_
          rotate_left 1
          · intro w' hSw
            try dsimp only at hSw
            obtain ⟨q2, q3, q4⟩ := hSw
            go_simp
            all_goals with_reducible rfl
          try simp only [Act.put, List.setIfInBounds_toArray, List.set_cons_zero, List.set_cons_succ]
          refine till_take (i := 5) (v := ?_) rfl (by kernel_rfl) (by kernel_rfl) (by kernel_rfl) (by kernel_rfl) (by kernel_rfl) (by kernel_rfl) (fun _ _ _ h => h) (Or.inl ⟨by rfl, ?_⟩) hS ?_
          rotate_left 1
          · intro w' hSw
            try dsimp only at hSw
            obtain ⟨q2, q3, q4⟩ := hSw
            go_simp
            all_goals with_reducible rfl
          try simp only [Act.put, List.setIfInBounds_toArray, List.set_cons_zero, List.set_cons_succ]
          refine till_take (i := 6) (v := ?_) rfl (by kernel_rfl) (by kernel_rfl) (by kernel_rfl) (by kernel_rfl) (by kernel_rfl) (by kernel_rfl) (fun _ _ _ h => h) (Or.inl ⟨by rfl, ?_⟩) hS ?_
          rotate_left 1
          · intro w' hSw
            try dsimp only at hSw
            obtain ⟨q2, q3, q4⟩ := hSw
            go_simp
            all_goals with_reducible rfl
          try simp only [Act.put, List.setIfInBounds_toArray, List.set_cons_zero, List.set_cons_succ]
          refine till_take (i := 7) (v := ?_) rfl (by kernel_rfl) (by kernel_rfl) (by kernel_rfl) (by kernel_rfl) (by kernel_rfl) (by kernel_rfl) (fun _ _ _ h => h) (Or.inl ⟨by rfl, ?_⟩) hS ?_
          rotate_left 1
          · intro w' hSw
            try dsimp only at hSw
            obtain ⟨q2, q3, q4⟩ := hSw
            go_simp
            all_goals with_reducible rfl
          try simp only [Act.put, List.setIfInBounds_toArray, List.set_cons_zero, List.set_cons_succ]
          refine till_take (i := 8) (v := ?_) rfl (by kernel_rfl) (by kernel_rfl) (by kernel_rfl) (by kernel_rfl) (by kernel_rfl) (by kernel_rfl) (fun _ _ _ h => h) (Or.inl ⟨by rfl, ?_⟩) hS ?_
          rotate_left 1
          · intro w' hSw
            try dsimp only at hSw
            obtain ⟨q2, q3, q4⟩ := hSw
            go_simp
            all_goals with_reducible rfl
          try simp only [Act.put, List.setIfInBounds_toArray, List.set_cons_zero, List.set_cons_succ]
          refine till_take (i := 9) (v := ?_) rfl (by kernel_rfl) (by kernel_rfl) (by kernel_rfl) (by kernel_rfl) (by kernel_rfl) (by kernel_rfl) (fun _ _ _ h => h) (Or.inl ⟨by rfl, ?_⟩) hS ?_
          rotate_left 1
          · intro w' hSw
            try dsimp only at hSw
            obtain ⟨q2, q3, q4⟩ := hSw
            go_simp
            all_goals with_reducible rfl
          try simp only [Act.put, List.setIfInBounds_toArray, List.set_cons_zero, List.set_cons_succ]
          obtain ⟨i0, hi0, hz0, hz1, hz2⟩ := info_parts Tryz.infoInt
          have hSa : (fun w' : World => (∀ j, w'.cell? ⟨g5, j, none⟩ = #[Value.int .i64 way][j]?) ∧ (∀ j, w'.cell? ⟨g2, j, none⟩ = #[Value.slice (some ⟨b2, o2, none⟩) k cc][j]?) ∧ w'.cell? ⟨b2, o2 + pn, none⟩ = some (.int .i64 y)) (wr.drew.alloc (.cells #[.int .i64 pn] 3)) :=
            ⟨fun j => (World.cell?_alloc_lt _ _ _ l5).trans (c5 j), fun j => (World.cell?_alloc_lt _ _ _ l2).trans (c2 j), (World.cell?_alloc_lt _ _ _ (World.block_lt_of_cell? _ _ e1)).trans e1⟩
          have k1a := k1.drew.alloc (.cells #[.int .i64 pn] 3)
          have k2a := k2.drew.alloc (.cells #[.int .i64 pn] 3)
          have k3a := k3.drew.alloc (.cells #[.int .i64 pn] 3)
          have k4a := k4.drew.alloc (.cells #[.int .i64 pn] 3)
          have k5a := k5.drew.alloc (.cells #[.int .i64 pn] 3)
          have k6a := k6.drew.alloc (.cells #[.int .i64 pn] 3)
          have hownA : (wr.drew.alloc (.cells #[.int .i64 pn] 3)).ownsRow B 3 1 v i (plan.map (.int .i64 ·)) := World.ownsRow.alloc (w := wr.drew) hown _
          have hnews := World.news_of_block (World.alloc_heap_new wr.drew (.cells #[.int .i64 pn] 3))
          have hbig1 : Hid (i + 1 ≤ maxLen) := by show i + 1 ≤ maxLen; unfold maxLen; omega
          have hbig2 : Hid ((i + 1) * 8 ≤ 140737488355328) := by show (i + 1) * 8 ≤ 140737488355328; omega
          have hb2v : some b2 ≠ v.ownBlock := by
            rcases hown.2 with ⟨hv0, _⟩ | ⟨gg, cap, cur, hv, hg, _⟩
            · rw [hv0]; simp [Value.ownBlock]
            · rw [hv]; simp [Value.ownBlock]; omega
          have hb2w : b2 < wr.heap.size := World.block_lt_of_cell? _ _ e1
          have hbase : B ≤ (wr.drew.alloc (.cells #[.int .i64 pn] 3)).heap.size := by have := hbb.size; simp; omega
          refine till_two (i := 0) (j := 2) (by kernel_rfl) rfl rfl rfl rfl (fun K hK => ?_) (fun K hK => ?_)
          · go_simp
            refine hK _ _ (fun _ => hS) ?_
            clear hK K
            refine till_one (i := 2) (by kernel_rfl) rfl rfl (fun K hK => ?_)
            go_simp
            refine hK _ _ (fun _ => hSa) ?_
            clear hK K
            refine till_one (i := 3) (by kernel_rfl) rfl rfl (fun K hK => ?_)
            refine wp_append_lies _ _ _ 33 (by rfl) B 3 i0 (.int .i64 0) 1 8 Tryz.underlying33 hi0 hz0 hz1 hz2 rfl (by omega) v i (plan.map (.int .i64 ·)) (by rfl) hownA ⟨wr.heap.size, 0, none⟩ 1 1 [.int .i64 pn] (by rfl) rfl hnews (by simp [Value.oneCell']) (by omega) hbig1.out hbig2.out hbase (wr.heap.size + 1) (by simp) ?_
            intro g cap w2 hown2 hgrow hlies hlt2
            have k2g := k2a.grown hgrow (hvne g2 (by simp))
            have k4g := k4a.grown hgrow (hvne g4 (by simp))
            have k5g := k5a.grown hgrow (hvne g5 (by simp))
            have k1g := k1a.grown hgrow (hvne g1 (by simp))
            have k3g := k3a.grown hgrow (hvne g3 (by simp))
            have k6g := k6a.grown hgrow (hvne g6 (by simp))
            have e1g := (World.grownBy.cell_far hgrow ⟨b2, o2 + pn, none⟩ (by simp; omega) hb2v).trans hSa.2.2
            have hmg : KMap w2 bm nm fk := hm.block ((hgrow.block bm (by have := hm.lt; simp; omega) (hvne bm (by simp))).trans (Below.heap_alloc wr.drew _ bm hm.lt))
            refine hK _ _ (fun _ => ⟨k5g.cell, k2g.cell, e1g⟩) ?_
            clear hK K
            try simp only [Act.put, List.setIfInBounds_toArray, List.set_cons_zero, List.set_cons_succ]
            refine till_one (i := 10) (by kernel_rfl) rfl rfl (fun K hK => ?_)
            obtain ⟨x4, y4, z4⟩ := k4g.rules
            go_simp
            have k5h := k5g.far (p := ⟨g4, 0, none⟩) (by dsimp only; omega) (.slice (some ⟨g, 0, none⟩) (i + 1) cap)
            have k2h := k2g.far (p := ⟨g4, 0, none⟩) (by dsimp only; omega) (.slice (some ⟨g, 0, none⟩) (i + 1) cap)
            have e1h := (World.cell?_setCell_far w2 ⟨g4, 0, none⟩ ⟨b2, o2 + pn, none⟩ (.slice (some ⟨g, 0, none⟩) (i + 1) cap) (by dsimp only; omega)).trans e1g
            refine hK _ _ (fun _ => ⟨k5h.cell, k2h.cell, e1h⟩) ?_
            clear hK K x4 y4 z4
            try simp only [Act.put, List.setIfInBounds_toArray, List.set_cons_zero, List.set_cons_succ]
            refine till_one (i := 11) (by kernel_rfl) rfl rfl (fun K hK => ?_)
            obtain ⟨x5, y5, z5⟩ := k5h.rules
            go_simp
            refine hK _ _ (fun h => nomatch (show true = false from h)) ?_
            clear hK K x5 y5 z5
            refine till_done (by kernel_rfl) ?_ _
            obtain ⟨hd1, hd2, hd3, hd4, hd5, hd6, hd7, hd8, hd9⟩ := hdis
            have hgne : ∀ x, x ∈ [g1, g2, g3, g4, g5, g6, bm] → x < wr.heap.size → g ≠ x := fun x hx hlt => by
              rcases hlies with h | h
              · intro e; subst e; exact hvne g hx h.symm
              · omega
            have hbg : Below B (wr.drew.alloc (.cells #[.int .i64 pn] 3)) w2 := ⟨hgrow.os, hgrow.tape, hgrow.output, hgrow.size, fun b hb => hgrow.block b (by have := hbb.size; simp; omega) (by
              rcases hown.2 with ⟨hv0, _⟩ | ⟨gg, cap, cur, hv, hg, _⟩
              · rw [hv0]; simp [Value.ownBlock]
              · rw [hv]; simp [Value.ownBlock]; omega)⟩
            have hbw : Below B wr w2 := ((Below.refl B wr).drew.alloc (by have := hbb.size; show B ≤ wr.heap.size; omega) _).trans hbg
            have hbw4 := (hbw.setCell (p := ⟨g4, 0, none⟩) (by dsimp only; omega) (.slice (some ⟨g, 0, none⟩) (i + 1) cap)).setCell (p := ⟨g5, 0, none⟩) (by dsimp only; omega) (.int .i64 (way + y))
            have k1h := (k1g.far (p := ⟨g4, 0, none⟩) hd1 (.slice (some ⟨g, 0, none⟩) (i + 1) cap)).far (p := ⟨g5, 0, none⟩) hd2 (.int .i64 (way + y))
            have k2i := k2h.far (p := ⟨g5, 0, none⟩) hd3 (.int .i64 (way + y))
            have k3h := (k3g.far (p := ⟨g4, 0, none⟩) hd4 (.slice (some ⟨g, 0, none⟩) (i + 1) cap)).far (p := ⟨g5, 0, none⟩) hd5 (.int .i64 (way + y))
            have k6h := (k6g.far (p := ⟨g4, 0, none⟩) hd6 (.slice (some ⟨g, 0, none⟩) (i + 1) cap)).far (p := ⟨g5, 0, none⟩) hd7 (.int .i64 (way + y))
            have k4h := (k4g.set_ 0 (.slice (some ⟨g, 0, none⟩) (i + 1) cap)).far (p := ⟨g5, 0, none⟩) hg45 (.int .i64 (way + y))
            have k5i := k5h.set_ 0 (.int .i64 (way + y))
            have hmh : KMap ((w2.setCell ⟨g4, 0, none⟩ (.slice (some ⟨g, 0, none⟩) (i + 1) cap)).setCell ⟨g5, 0, none⟩ (.int .i64 (way + y))) bm nm fk :=
              (hmg.block (Below.heap_setCell w2 ⟨g4, 0, none⟩ _ bm hd8)).block (Below.heap_setCell _ ⟨g5, 0, none⟩ _ bm hd9)
            have hownh := ownsRow_setCell (ownsRow_setCell hown2 (p := ⟨g4, 0, none⟩) (by simp [Value.ownBlock]; exact hgne g4 (by simp) l4) (.slice (some ⟨g, 0, none⟩) (i + 1) cap)) (p := ⟨g5, 0, none⟩) (by simp [Value.ownBlock]; exact hgne g5 (by simp) l5) (.int .i64 (way + y))
            have hvn2 : ∀ x, x ∈ [g1, g2, g3, g4, g5, g6, bm] → some x ≠ (Value.slice (some ⟨g, 0, none⟩) (i + 1) cap).ownBlock := fun x hx => by
              simp only [Value.ownBlock, ne_eq, Option.some.injEq]
              have hxl : x < wr.heap.size := by
                simp only [List.mem_cons, List.not_mem_nil, or_false] at hx
                rcases hx with rfl | rfl | rfl | rfl | rfl | rfl | rfl
                · exact k1.lt
                · exact k2.lt
                · exact k3.lt
                · exact k4.lt
                · exact k5.lt
                · exact k6.lt
                · exact hm.lt
              exact fun e => hgne x hx hxl e.symm
            have hkw : ∀ x, x < wr.heap.size → x ≠ g4 → x ≠ g5 → some x ≠ v.ownBlock → ((w2.setCell ⟨g4, 0, none⟩ (.slice (some ⟨g, 0, none⟩) (i + 1) cap)).setCell ⟨g5, 0, none⟩ (.int .i64 (way + y))).heap[x]? = wr.heap[x]? := fun x h1 h2 h3 h4 =>
              (Below.heap_setCell _ _ _ x (by simpa using h3)).trans ((Below.heap_setCell _ _ _ x (by simpa using h2)).trans ((hgrow.block x (by simp; omega) h4).trans (Below.heap_alloc wr.drew _ x h1)))
            have hgx : ∀ x, x < wr.heap.size → some x ≠ v.ownBlock → g ≠ x := fun x h1 h4 => by
              rcases hlies with h | h
              · intro e; subst e; exact h4 h.symm
              · omega
            have hsw4 : wr.heap.size ≤ ((w2.setCell ⟨g4, 0, none⟩ (.slice (some ⟨g, 0, none⟩) (i + 1) cap)).setCell ⟨g5, 0, none⟩ (.int .i64 (way + y))).heap.size := by have := hgrow.size; simp [World.setCell] at this ⊢; omega
            generalize (w2.setCell ⟨g4, 0, none⟩ (.slice (some ⟨g, 0, none⟩) (i + 1) cap)).setCell ⟨g5, 0, none⟩ (.int .i64 (way + y)) = w4 at *
            obtain ⟨x6, y6, z6⟩ := k6h.rules
            have t2 := IntWalk.i64_in ((i : Int) + 1) (by omega)
            have hcall := ih.out (i + 1) _ (plan ++ [(pn : Int)]) (way + y) w4 (by omega) (by simp [hpl]) (by omega) (by push_cast; omega) hvn2 k1h k2i k3h k4h k5i k6h (hbb.trans hbw4) hmh (by simpa using hownh)
            rw [show ((i + 1 : Nat) : Int) = (i : Int) + 1 by push_cast; rfl] at hcall
            clear k1 k2 k3 k4 k5 k6 k1a k2a k3a k4a k5a k6a k1g k2g k3g k4g k5g k6g k5h k2h e1h e1g hown hownA hown2 hgrow hm hmg
            go_wp2_with fail
            refine hcall.mono ?_
            rintro e w5 ⟨v', rfl, hb5, k4', ⟨n', hown'⟩, k5', hk5⟩
            clear hcall x6 y6 z6
            go_wp2
            try rw [Exit.noGoto_ret]
            go_ret
            rw [hrun.out]
            exact ⟨v', by rw [hcl]; rfl, hbw4.trans hb5, k4', ⟨n', hown'⟩, k5', fun x h1 h2 h3 h4 => (hk5 x (Nat.lt_of_lt_of_le h1 hsw4) h2 h3 (fun e => hgx x h1 h4 (by simpa [Value.ownBlock] using e.symm))).trans (hkw x h1 h2 h3 h4)⟩
          · go_simp
            refine hK _ _ (fun _ => hSa) ?_
            clear hK K
            refine till_one (i := 0) (by kernel_rfl) rfl rfl (fun K hK => ?_)
            go_simp
            refine hK _ _ (fun _ => hSa) ?_
            clear hK K
            refine till_one (i := 3) (by kernel_rfl) rfl rfl (fun K hK => ?_)
            refine wp_append_lies _ _ _ 33 (by rfl) B 3 i0 (.int .i64 0) 1 8 Tryz.underlying33 hi0 hz0 hz1 hz2 rfl (by omega) v i (plan.map (.int .i64 ·)) (by rfl) hownA ⟨wr.heap.size, 0, none⟩ 1 1 [.int .i64 pn] (by rfl) rfl hnews (by simp [Value.oneCell']) (by omega) hbig1.out hbig2.out hbase (wr.heap.size + 1) (by simp) ?_
            intro g cap w2 hown2 hgrow hlies hlt2
            have k2g := k2a.grown hgrow (hvne g2 (by simp))
            have k4g := k4a.grown hgrow (hvne g4 (by simp))
            have k5g := k5a.grown hgrow (hvne g5 (by simp))
            have k1g := k1a.grown hgrow (hvne g1 (by simp))
            have k3g := k3a.grown hgrow (hvne g3 (by simp))
            have k6g := k6a.grown hgrow (hvne g6 (by simp))
            have e1g := (World.grownBy.cell_far hgrow ⟨b2, o2 + pn, none⟩ (by simp; omega) hb2v).trans hSa.2.2
            have hmg : KMap w2 bm nm fk := hm.block ((hgrow.block bm (by have := hm.lt; simp; omega) (hvne bm (by simp))).trans (Below.heap_alloc wr.drew _ bm hm.lt))
            refine hK _ _ (fun _ => ⟨k5g.cell, k2g.cell, e1g⟩) ?_
            clear hK K
            try simp only [Act.put, List.setIfInBounds_toArray, List.set_cons_zero, List.set_cons_succ]
            refine till_one (i := 10) (by kernel_rfl) rfl rfl (fun K hK => ?_)
            obtain ⟨x4, y4, z4⟩ := k4g.rules
            go_simp
            have k5h := k5g.far (p := ⟨g4, 0, none⟩) (by dsimp only; omega) (.slice (some ⟨g, 0, none⟩) (i + 1) cap)
            have k2h := k2g.far (p := ⟨g4, 0, none⟩) (by dsimp only; omega) (.slice (some ⟨g, 0, none⟩) (i + 1) cap)
            have e1h := (World.cell?_setCell_far w2 ⟨g4, 0, none⟩ ⟨b2, o2 + pn, none⟩ (.slice (some ⟨g, 0, none⟩) (i + 1) cap) (by dsimp only; omega)).trans e1g
            refine hK _ _ (fun _ => ⟨k5h.cell, k2h.cell, e1h⟩) ?_
            clear hK K x4 y4 z4
            try simp only [Act.put, List.setIfInBounds_toArray, List.set_cons_zero, List.set_cons_succ]
            refine till_one (i := 11) (by kernel_rfl) rfl rfl (fun K hK => ?_)
            obtain ⟨x5, y5, z5⟩ := k5h.rules
            go_simp
            refine hK _ _ (fun h => nomatch (show true = false from h)) ?_
            clear hK K x5 y5 z5
            refine till_done (by kernel_rfl) ?_ _
            obtain ⟨hd1, hd2, hd3, hd4, hd5, hd6, hd7, hd8, hd9⟩ := hdis
            have hgne : ∀ x, x ∈ [g1, g2, g3, g4, g5, g6, bm] → x < wr.heap.size → g ≠ x := fun x hx hlt => by
              rcases hlies with h | h
              · intro e; subst e; exact hvne g hx h.symm
              · omega
            have hbg : Below B (wr.drew.alloc (.cells #[.int .i64 pn] 3)) w2 := ⟨hgrow.os, hgrow.tape, hgrow.output, hgrow.size, fun b hb => hgrow.block b (by have := hbb.size; simp; omega) (by
              rcases hown.2 with ⟨hv0, _⟩ | ⟨gg, cap, cur, hv, hg, _⟩
              · rw [hv0]; simp [Value.ownBlock]
              · rw [hv]; simp [Value.ownBlock]; omega)⟩
            have hbw : Below B wr w2 := ((Below.refl B wr).drew.alloc (by have := hbb.size; show B ≤ wr.heap.size; omega) _).trans hbg
            have hbw4 := (hbw.setCell (p := ⟨g4, 0, none⟩) (by dsimp only; omega) (.slice (some ⟨g, 0, none⟩) (i + 1) cap)).setCell (p := ⟨g5, 0, none⟩) (by dsimp only; omega) (.int .i64 (way + y))
            have k1h := (k1g.far (p := ⟨g4, 0, none⟩) hd1 (.slice (some ⟨g, 0, none⟩) (i + 1) cap)).far (p := ⟨g5, 0, none⟩) hd2 (.int .i64 (way + y))
            have k2i := k2h.far (p := ⟨g5, 0, none⟩) hd3 (.int .i64 (way + y))
            have k3h := (k3g.far (p := ⟨g4, 0, none⟩) hd4 (.slice (some ⟨g, 0, none⟩) (i + 1) cap)).far (p := ⟨g5, 0, none⟩) hd5 (.int .i64 (way + y))
            have k6h := (k6g.far (p := ⟨g4, 0, none⟩) hd6 (.slice (some ⟨g, 0, none⟩) (i + 1) cap)).far (p := ⟨g5, 0, none⟩) hd7 (.int .i64 (way + y))
            have k4h := (k4g.set_ 0 (.slice (some ⟨g, 0, none⟩) (i + 1) cap)).far (p := ⟨g5, 0, none⟩) hg45 (.int .i64 (way + y))
            have k5i := k5h.set_ 0 (.int .i64 (way + y))
            have hmh : KMap ((w2.setCell ⟨g4, 0, none⟩ (.slice (some ⟨g, 0, none⟩) (i + 1) cap)).setCell ⟨g5, 0, none⟩ (.int .i64 (way + y))) bm nm fk :=
              (hmg.block (Below.heap_setCell w2 ⟨g4, 0, none⟩ _ bm hd8)).block (Below.heap_setCell _ ⟨g5, 0, none⟩ _ bm hd9)
            have hownh := ownsRow_setCell (ownsRow_setCell hown2 (p := ⟨g4, 0, none⟩) (by simp [Value.ownBlock]; exact hgne g4 (by simp) l4) (.slice (some ⟨g, 0, none⟩) (i + 1) cap)) (p := ⟨g5, 0, none⟩) (by simp [Value.ownBlock]; exact hgne g5 (by simp) l5) (.int .i64 (way + y))
            have hvn2 : ∀ x, x ∈ [g1, g2, g3, g4, g5, g6, bm] → some x ≠ (Value.slice (some ⟨g, 0, none⟩) (i + 1) cap).ownBlock := fun x hx => by
              simp only [Value.ownBlock, ne_eq, Option.some.injEq]
              have hxl : x < wr.heap.size := by
                simp only [List.mem_cons, List.not_mem_nil, or_false] at hx
                rcases hx with rfl | rfl | rfl | rfl | rfl | rfl | rfl
                · exact k1.lt
                · exact k2.lt
                · exact k3.lt
                · exact k4.lt
                · exact k5.lt
                · exact k6.lt
                · exact hm.lt
              exact fun e => hgne x hx hxl e.symm
            have hkw : ∀ x, x < wr.heap.size → x ≠ g4 → x ≠ g5 → some x ≠ v.ownBlock → ((w2.setCell ⟨g4, 0, none⟩ (.slice (some ⟨g, 0, none⟩) (i + 1) cap)).setCell ⟨g5, 0, none⟩ (.int .i64 (way + y))).heap[x]? = wr.heap[x]? := fun x h1 h2 h3 h4 =>
              (Below.heap_setCell _ _ _ x (by simpa using h3)).trans ((Below.heap_setCell _ _ _ x (by simpa using h2)).trans ((hgrow.block x (by simp; omega) h4).trans (Below.heap_alloc wr.drew _ x h1)))
            have hgx : ∀ x, x < wr.heap.size → some x ≠ v.ownBlock → g ≠ x := fun x h1 h4 => by
              rcases hlies with h | h
              · intro e; subst e; exact h4 h.symm
              · omega
            have hsw4 : wr.heap.size ≤ ((w2.setCell ⟨g4, 0, none⟩ (.slice (some ⟨g, 0, none⟩) (i + 1) cap)).setCell ⟨g5, 0, none⟩ (.int .i64 (way + y))).heap.size := by have := hgrow.size; simp [World.setCell] at this ⊢; omega
            generalize (w2.setCell ⟨g4, 0, none⟩ (.slice (some ⟨g, 0, none⟩) (i + 1) cap)).setCell ⟨g5, 0, none⟩ (.int .i64 (way + y)) = w4 at *
            obtain ⟨x6, y6, z6⟩ := k6h.rules
            have t2 := IntWalk.i64_in ((i : Int) + 1) (by omega)
            have hcall := ih.out (i + 1) _ (plan ++ [(pn : Int)]) (way + y) w4 (by omega) (by simp [hpl]) (by omega) (by push_cast; omega) hvn2 k1h k2i k3h k4h k5i k6h (hbb.trans hbw4) hmh (by simpa using hownh)
            rw [show ((i + 1 : Nat) : Int) = (i : Int) + 1 by push_cast; rfl] at hcall
            clear k1 k2 k3 k4 k5 k6 k1a k2a k3a k4a k5a k6a k1g k2g k3g k4g k5g k6g k5h k2h e1h e1g hown hownA hown2 hgrow hm hmg
            go_wp2_with fail
            refine hcall.mono ?_
            rintro e w5 ⟨v', rfl, hb5, k4', ⟨n', hown'⟩, k5', hk5⟩
            clear hcall x6 y6 z6
            go_wp2
            try rw [Exit.noGoto_ret]
            go_ret
            rw [hrun.out]
            exact ⟨v', by rw [hcl]; rfl, hbw4.trans hb5, k4', ⟨n', hown'⟩, k5', fun x h1 h2 h3 h4 => (hk5 x (Nat.lt_of_lt_of_le h1 hsw4) h2 h3 (fun e => hgx x h1 h4 (by simpa [Value.ownBlock] using e.symm))).trans (hkw x h1 h2 h3 h4)⟩
end Go.Proofs.YthjdjpcomocffaaGreat
namespace Go.Proofs.YthjdjpcomocffaaGreat
set_option linter.unusedSimpArgs false
set_option linter.unusedVariables false
open Go.RowKit Go.Shelf
attribute [local go_sem] Oper.semAt_some

/-! What the map says when step k has come as far as choice j. -/
def fmap (kept : Nat → Nat → Bool) (nc k j : Nat) : Nat → Nat → Bool := fun i q => decide ((i < k ∧ q < nc) ∨ (i = k ∧ q < j)) && kept i q
theorem fmap_zero (kept : Nat → Nat → Bool) (nc : Nat) : fmap kept nc 0 0 = fun _ _ => false := by
  funext i q; simp [fmap]
theorem fmap_next (kept : Nat → Nat → Bool) (nc k : Nat) : fmap kept nc k nc = fmap kept nc (k + 1) 0 := by
  funext i q
  unfold fmap
  congr 1
  apply dec_eq
  omega
theorem fmap_step (kept : Nat → Nat → Bool) (nc k j : Nat) : (fun i q => if i = k ∧ q = j then kept k j else fmap kept nc k j i q) = fmap kept nc k (j + 1) := by
  funext i q
  by_cases h : i = k ∧ q = j
  · obtain ⟨rfl, rfl⟩ := h
    simp [fmap]
  · rw [if_neg h]
    unfold fmap
    congr 1
    apply dec_eq
    omega
theorem pickTo_congr {f g : Nat → Bool} (ch : List Int) : ∀ n, (∀ q, q < n → f q = g q) → pickTo f ch n = pickTo g ch n
  | 0, _ => rfl
  | n + 1, h => by
    rw [pickTo_step, pickTo_step, h n (by omega), pickTo_congr ch n (fun q hq => h q (by omega))]
theorem runPlan_congr {p p' : Nat → Int} (ch : List Int) (nd : Nat) (h : ∀ i, i < nd → p i = p' i) : ∀ r plan way, r ≤ nd → runPlan p ch nd r plan way = runPlan p' ch nd r plan way
  | 0, _, _, _ => rfl
  | r + 1, plan, way, hr => by
    rw [runPlan, runPlan, h _ (by omega)]
    split
    · rfl
    · exact runPlan_congr ch nd h r _ _ (by omega)
theorem KMap.upd {w : World} {b n : Nat} {f : Nat → Nat → Bool} (h : KMap w b n f) {i k : Nat} (x : Bool) (hi : i ≤ 1000000) (hk : k ≤ 1000000) (hn : n < maxLen) :
    ∃ w', (Instr.mapUpdate 91 (.map (some b)) (.agg #[.int .i64 i, .int .i64 k]) (.bool x)).run Tryz.prog w = .ok () w' ∧ KMap w' b (n + 1) (fun i' k' => if i' = i ∧ k' = k then x else f i' k') ∧ w.grownBy w' (some b) := by
  obtain ⟨D, ho, hput⟩ := h.put (w0' := w) (x := x) hi hk
  obtain ⟨w', hrun, h1, h2⟩ := ho.update keyed2 underMap2 hn (keyOf_kl (small_nat hi) (small_nat hk)) (plainElem_bool underBool x)
  exact ⟨w', hrun, hput w' h1, h2⟩
def RetFast (r : List Int × Int × Int) (w : World) (e : Ending) (w' : World) : Prop :=
  ∃ P pn pc, e = .returned (.tuple #[.slice P pn pc, .int .i64 r.2.1, .int .i64 r.2.2]) ∧ SlAt w' w.heap.size 1 ivs P pn pc r.1 ∧ Below w.heap.size w w'
def FastI (s : Strm) (A O D C : Option Addr) (n c co nd cd nc cc gt g12 bm : Nat) (w W : World) : Prop :=
  Blk W (w.heap.size + 1) 47 #[.slice D nd cd] ∧ Blk W (w.heap.size + 1 + 1) 33 #[.slice C nc cc] ∧ Blk W (w.heap.size + 1 + 1 + 1) 33 #[.slice none 0 0] ∧ Blk W (w.heap.size + 1 + 1 + 1 + 1) 3 #[.int .i64 0] ∧
  Blk W gt 85 #[.int .i64 s.head, .slice A n c, .int .i64 s.lane.lo, .int .i64 s.lane.hi, .int .i64 s.bend, .slice O n co] ∧ Blk W g12 91 #[.map (some bm)] ∧ Below w.heap.size w W
section
variable {s : Strm} {A O D C : Option Addr} {n c co nd cd nc cc gt g12 bm : Nat} {w W W' : World}
theorem FastI.calm {B : Nat} (h : FastI s A O D C n c co nd cd nc cc gt g12 bm w W) (hc : Calm B W W') (hB : w.heap.size ≤ B) : FastI s A O D C n c co nd cd nc cc gt g12 bm w W' :=
  ⟨calm_blk hc h.1, calm_blk hc h.2.1, calm_blk hc h.2.2.1, calm_blk hc h.2.2.2.1, calm_blk hc h.2.2.2.2.1, calm_blk hc h.2.2.2.2.2.1, calm_below hc h.2.2.2.2.2.2 hB⟩
theorem FastI.below (h : FastI s A O D C n c co nd cd nc cc gt g12 bm w W) (hb : Below W.heap.size W W') : FastI s A O D C n c co nd cd nc cc gt g12 bm w W' := h.calm (calm_of_below hb (Nat.le_refl _)) h.2.2.2.2.2.2.size
theorem FastI.grown (h : FastI s A O D C n c co nd cd nc cc gt g12 bm w W) (hg : W.grownBy W' (some bm)) (h1 : w.heap.size + 1 + 1 + 1 + 1 < bm) (h2 : gt ≠ bm) (h3 : g12 ≠ bm) : FastI s A O D C n c co nd cd nc cc gt g12 bm w W' :=
  ⟨h.1.grown hg (by simp; omega), h.2.1.grown hg (by simp; omega), h.2.2.1.grown hg (by simp; omega), h.2.2.2.1.grown hg (by simp; omega), h.2.2.2.2.1.grown hg (by simp; omega), h.2.2.2.2.2.1.grown hg (by simp; omega),
    h.2.2.2.2.2.2.trans ⟨hg.os, hg.tape, hg.output, hg.size, fun b hb => hg.block b (by have := h.2.2.2.2.2.2.size; omega) (by simp; omega)⟩⟩
theorem nc_grown {B : Nat} (hg : W.grownBy W' (some bm)) (h : bm < B) : NC B W W' := ⟨hg.size, fun k _ hk ho => (hg.block k (Array.getElem?_eq_some_iff.1 ho).1 (by simp; omega)).trans ho⟩
end
set_option maxRecDepth 100000 in
set_option maxHeartbeats 2000000 in
theorem Fastest_err (s : Strm) (A O D C : Option Addr) (n c no co nd cd nc cc : Nat) (bs : List Bnd) (l : List Wat) (ch : List Int) (w : World) (hss : SlAt w 0 5 Sec.cells A n c s.secs) (hs : SlAt w 0 2 Bnd.cells O no co bs) (hd : SlAt w 0 4 Wat.cells D nd cd l) (hcs : SlAt w 0 1 ivs C nc cc ch) (h1 : errBW s bs l ≠ 0) :
    Calls Tryz.prog 12 #[.agg #[.int .i64 s.head, .slice A n c, .int .i64 s.lane.lo, .int .i64 s.lane.hi, .int .i64 s.bend], .slice O no co, .slice D nd cd, .slice C nc cc] w (RetFast (fastR s bs l ch) w) := by
  have hv : fastR s bs l ch = ([], 0, errBW s bs l) := by simp [fastR, h1]
  rw [hv]
  have h1' : (errBW s bs l != 0) = true := by rw [bne_iff_ne]; exact h1
  replace h1 := Lib.hid h1
  clear hv
  by_cases h2 : errB s bs = 0
  · replace h2 := Lib.hid h2
    refine (callsIn_wide (n := 9)).1 ?_
    refine callsIn_of_wp_marks Tryz.func12 rfl trivial ?_ rfl
    simp only [Tryz.ntmps12, List.size_toArray, List.length_cons, List.length_nil, Nat.reduceAdd, Nat.reduceSub, Array.replicate_succ, Array.replicate_zero, List.push_toArray, List.append_toArray, List.nil_append, List.cons_append]
    refine wpIn_wide.2 ?_
    go_wp2_with fail
    refine (begun_any s A O D n c no co nd cd bs l _ (((((hss.alloc _).alloc _).alloc _).alloc _).alloc _) (((((hs.alloc _).alloc _).alloc _).alloc _).alloc _) (((((hd.alloc _).alloc _).alloc _).alloc _).alloc _)).mono ?_
    rintro e w1 ⟨r1, r2, hb1⟩
    have k6 : Blk w1 (w.heap.size + 1) 47 #[.slice D nd cd] := ((((Blk.newAt (by simp)).alloc _).alloc _).alloc _).below hb1
    have k7 : Blk w1 (w.heap.size + 1 + 1) 33 #[.slice C nc cc] := (((Blk.newAt (by simp)).alloc _).alloc _).below hb1
    have k8 : Blk w1 (w.heap.size + 1 + 1 + 1) 33 #[.slice none 0 0] := ((Blk.newAt (by simp)).alloc _).below hb1
    have k9 : Blk w1 (w.heap.size + 1 + 1 + 1 + 1) 3 #[.int .i64 0] := (Blk.newAt (by simp)).below hb1
    have b1 := ((((((Below.refl w.heap.size w).alloc (Nat.le_refl _) _).alloc (by simp) _).alloc (by simp; omega) _).alloc (by simp; omega) _).alloc (by simp; omega) _).trans (hb1.mono (by simp; omega))
    clear hb1
    obtain rfl := r1 h2.out
    clear r1 r2
    have k8z := ((k8.set_ 0 (.slice none 0 0)).far (p := ⟨w.heap.size + 1 + 1 + 1 + 1, 0, none⟩) (by dsimp only; omega) (.int .i64 0)).alloc (.cells #[.int .i64 s.head, .slice A n c, .int .i64 s.lane.lo, .int .i64 s.lane.hi, .int .i64 s.bend, .slice O no co] 85)
    have k9z := ((k9.far (p := ⟨w.heap.size + 1 + 1 + 1, 0, none⟩) (by dsimp only; omega) (.slice none 0 0)).set_ 0 (.int .i64 0)).alloc (.cells #[.int .i64 s.head, .slice A n c, .int .i64 s.lane.lo, .int .i64 s.lane.hi, .int .i64 s.bend, .slice O no co] 85)
    have bz0 := (b1.setCell (p := ⟨w.heap.size + 1 + 1 + 1, 0, none⟩) (by dsimp only; omega) (.slice none 0 0)).setCell (p := ⟨w.heap.size + 1 + 1 + 1 + 1, 0, none⟩) (by dsimp only; omega) (.int .i64 0)
    have bz := bz0.alloc bz0.size (.cells #[.int .i64 s.head, .slice A n c, .int .i64 s.lane.lo, .int .i64 s.lane.hi, .int .i64 s.bend, .slice O no co] 85)
    obtain ⟨wz, hwz⟩ : ∃ x, x = ((w1.setCell ⟨w.heap.size + 1 + 1 + 1, 0, none⟩ (.slice none 0 0)).setCell ⟨w.heap.size + 1 + 1 + 1 + 1, 0, none⟩ (.int .i64 0)).alloc (.cells #[.int .i64 s.head, .slice A n c, .int .i64 s.lane.lo, .int .i64 s.lane.hi, .int .i64 s.bend, .slice O no co] 85) := ⟨_, rfl⟩
    rw [← hwz] at k8z k9z bz
    obtain ⟨c6, f6, l6⟩ := k6.rules
    obtain ⟨c7, f7, l7⟩ := k7.rules
    obtain ⟨c8, f8, l8⟩ := k8.rules
    obtain ⟨c9, f9, l9⟩ := k9.rules
    clear hss hs hd hcs
    go_wp2_with (go_at_call 21; refine (within_any _ _ _ _).mono ?_; rintro e w' ⟨rfl, rfl⟩)
    rw [← hwz]
    clear hwz c6 f6 l6 c7 f7 l7 c8 f8 l8 c9 f9 l9
    obtain ⟨c8, f8, l8⟩ := k8z.rules
    obtain ⟨c9, f9, l9⟩ := k9z.rules
    exact ⟨.tuple #[.slice none 0 0, .int .i64 0, .int .i64 (errBW s bs l)], by simp [results, Tryz.results12, go_sem, c8, c9], none, 0, 0, rfl, SlAt.nil _ _ _ _, bz⟩
  · replace h2 := Lib.hid h2
    refine (callsIn_wide (n := 9)).1 ?_
    refine callsIn_of_wp_marks Tryz.func12 rfl trivial ?_ rfl
    simp only [Tryz.ntmps12, List.size_toArray, List.length_cons, List.length_nil, Nat.reduceAdd, Nat.reduceSub, Array.replicate_succ, Array.replicate_zero, List.push_toArray, List.append_toArray, List.nil_append, List.cons_append]
    refine wpIn_wide.2 ?_
    go_wp2_with fail
    refine (begun_any s A O D n c no co nd cd bs l _ (((((hss.alloc _).alloc _).alloc _).alloc _).alloc _) (((((hs.alloc _).alloc _).alloc _).alloc _).alloc _) (((((hd.alloc _).alloc _).alloc _).alloc _).alloc _)).mono ?_
    rintro e w1 ⟨r1, r2, hb1⟩
    have k6 : Blk w1 (w.heap.size + 1) 47 #[.slice D nd cd] := ((((Blk.newAt (by simp)).alloc _).alloc _).alloc _).below hb1
    have k7 : Blk w1 (w.heap.size + 1 + 1) 33 #[.slice C nc cc] := (((Blk.newAt (by simp)).alloc _).alloc _).below hb1
    have k8 : Blk w1 (w.heap.size + 1 + 1 + 1) 33 #[.slice none 0 0] := ((Blk.newAt (by simp)).alloc _).below hb1
    have k9 : Blk w1 (w.heap.size + 1 + 1 + 1 + 1) 3 #[.int .i64 0] := (Blk.newAt (by simp)).below hb1
    have b1 := ((((((Below.refl w.heap.size w).alloc (Nat.le_refl _) _).alloc (by simp) _).alloc (by simp; omega) _).alloc (by simp; omega) _).alloc (by simp; omega) _).trans (hb1.mono (by simp; omega))
    clear hb1
    obtain rfl := r2 h2.out
    clear r1 r2
    have k8z := ((k8.set_ 0 (.slice none 0 0)).far (p := ⟨w.heap.size + 1 + 1 + 1 + 1, 0, none⟩) (by dsimp only; omega) (.int .i64 0)).alloc (.cells #[.int .i64 0, .slice none 0 0, .int .i64 0, .int .i64 0, .int .i64 0, .slice none 0 0] 85)
    have k9z := ((k9.far (p := ⟨w.heap.size + 1 + 1 + 1, 0, none⟩) (by dsimp only; omega) (.slice none 0 0)).set_ 0 (.int .i64 0)).alloc (.cells #[.int .i64 0, .slice none 0 0, .int .i64 0, .int .i64 0, .int .i64 0, .slice none 0 0] 85)
    have bz0 := (b1.setCell (p := ⟨w.heap.size + 1 + 1 + 1, 0, none⟩) (by dsimp only; omega) (.slice none 0 0)).setCell (p := ⟨w.heap.size + 1 + 1 + 1 + 1, 0, none⟩) (by dsimp only; omega) (.int .i64 0)
    have bz := bz0.alloc bz0.size (.cells #[.int .i64 0, .slice none 0 0, .int .i64 0, .int .i64 0, .int .i64 0, .slice none 0 0] 85)
    obtain ⟨wz, hwz⟩ : ∃ x, x = ((w1.setCell ⟨w.heap.size + 1 + 1 + 1, 0, none⟩ (.slice none 0 0)).setCell ⟨w.heap.size + 1 + 1 + 1 + 1, 0, none⟩ (.int .i64 0)).alloc (.cells #[.int .i64 0, .slice none 0 0, .int .i64 0, .int .i64 0, .int .i64 0, .slice none 0 0] 85) := ⟨_, rfl⟩
    rw [← hwz] at k8z k9z bz
    obtain ⟨c6, f6, l6⟩ := k6.rules
    obtain ⟨c7, f7, l7⟩ := k7.rules
    obtain ⟨c8, f8, l8⟩ := k8.rules
    obtain ⟨c9, f9, l9⟩ := k9.rules
    clear hss hs hd hcs
    go_wp2_with (go_at_call 21; refine (within_any _ _ _ _).mono ?_; rintro e w' ⟨rfl, rfl⟩)
    rw [← hwz]
    clear hwz c6 f6 l6 c7 f7 l7 c8 f8 l8 c9 f9 l9
    obtain ⟨c8, f8, l8⟩ := k8z.rules
    obtain ⟨c9, f9, l9⟩ := k9z.rules
    exact ⟨.tuple #[.slice none 0 0, .int .i64 0, .int .i64 (errBW s bs l)], by simp [results, Tryz.results12, go_sem, c8, c9], none, 0, 0, rfl, SlAt.nil _ _ _ _, bz⟩
theorem errBW_n {s : Strm} {bs : List Bnd} {l : List Wat} {A O : Option Addr} {n c no co : Nat} {w : World} (h1 : errBW s bs l = 0) (hss : SlAt w 0 5 Sec.cells A n c s.secs) (hs : SlAt w 0 2 Bnd.cells O no co bs) : no = n := by
  have e2 := (errB_zero (errBW_zero h1).1).2
  have := okOffs_len e2; have := hs.len; have := hss.len; omega
set_option maxRecDepth 100000 in
set_option maxHeartbeats 2000000 in
theorem Fastest_lim (s : Strm) (A O D C : Option Addr) (n c co nd cd nc cc : Nat) (bs : List Bnd) (l : List Wat) (ch : List Int) (w : World) (hss : SlAt w 0 5 Sec.cells A n c s.secs) (hs : SlAt w 0 2 Bnd.cells O n co bs) (hd : SlAt w 0 4 Wat.cells D nd cd l) (hcs : SlAt w 0 1 ivs C nc cc ch) (h1 : errBW s bs l = 0) (h3 : ¬ (1 ≤ l.length ∧ l.length ≤ 6 ∧ 1 ≤ ch.length ∧ ch.length ≤ 4)) :
    Calls Tryz.prog 12 #[.agg #[.int .i64 s.head, .slice A n c, .int .i64 s.lane.lo, .int .i64 s.lane.hi, .int .i64 s.bend], .slice O n co, .slice D nd cd, .slice C nc cc] w (RetFast (fastR s bs l ch) w) := by
  have hv : fastR s bs l ch = ([], 0, 3) := by unfold fastR; rw [if_neg (by simp [h1]), if_pos h3]
  rw [hv, ]
  clear hv
  have h2 := Lib.hid (errBW_zero h1).1
  replace h1 := Lib.hid h1
  have hld := hd.len
  have hlc := hcs.len
  rw [hld, hlc] at h3
  have hwL := fun W => within_any (nd : Int) 1 6 W
  have hwC := fun W => within_any (nc : Int) 1 4 W
  by_cases hnd : 1 ≤ nd ∧ nd ≤ 6
  · have hnc : ¬ (1 ≤ nc ∧ nc ≤ 4) := fun h => h3 ⟨hnd.1, hnd.2, h⟩
    simp only [decide_eq_true (show 1 ≤ (nd : Int) ∧ (nd : Int) ≤ 6 by omega)] at hwL
    simp only [decide_eq_false (show ¬ (1 ≤ (nc : Int) ∧ (nc : Int) ≤ 4) by omega)] at hwC
    clear hld hlc hnd hnc h3
    refine (callsIn_wide (n := 9)).1 ?_
    refine callsIn_of_wp_marks Tryz.func12 rfl trivial ?_ rfl
    simp only [Tryz.ntmps12, List.size_toArray, List.length_cons, List.length_nil, Nat.reduceAdd, Nat.reduceSub, Array.replicate_succ, Array.replicate_zero, List.push_toArray, List.append_toArray, List.nil_append, List.cons_append]
    refine wpIn_wide.2 ?_
    go_wp2_with fail
    refine (begun_any s A O D n c n co nd cd bs l _ (((((hss.alloc _).alloc _).alloc _).alloc _).alloc _) (((((hs.alloc _).alloc _).alloc _).alloc _).alloc _) (((((hd.alloc _).alloc _).alloc _).alloc _).alloc _)).mono ?_
    rintro e w1 ⟨r1, r2, hb1⟩
    have k6 : Blk w1 (w.heap.size + 1) 47 #[.slice D nd cd] := ((((Blk.newAt (by simp)).alloc _).alloc _).alloc _).below hb1
    have k7 : Blk w1 (w.heap.size + 1 + 1) 33 #[.slice C nc cc] := (((Blk.newAt (by simp)).alloc _).alloc _).below hb1
    have k8 : Blk w1 (w.heap.size + 1 + 1 + 1) 33 #[.slice none 0 0] := ((Blk.newAt (by simp)).alloc _).below hb1
    have k9 : Blk w1 (w.heap.size + 1 + 1 + 1 + 1) 3 #[.int .i64 0] := (Blk.newAt (by simp)).below hb1
    have b1 := ((((((Below.refl w.heap.size w).alloc (Nat.le_refl _) _).alloc (by simp) _).alloc (by simp; omega) _).alloc (by simp; omega) _).alloc (by simp; omega) _).trans (hb1.mono (by simp; omega))
    clear hb1
    rw [h1.out] at r1
    obtain rfl := r1 h2.out
    clear r1 r2
    replace k6 := k6.alloc (.cells #[.int .i64 s.head, .slice A n c, .int .i64 s.lane.lo, .int .i64 s.lane.hi, .int .i64 s.bend, .slice O n co] 85)
    replace k7 := k7.alloc (.cells #[.int .i64 s.head, .slice A n c, .int .i64 s.lane.lo, .int .i64 s.lane.hi, .int .i64 s.bend, .slice O n co] 85)
    replace k8 := k8.alloc (.cells #[.int .i64 s.head, .slice A n c, .int .i64 s.lane.lo, .int .i64 s.lane.hi, .int .i64 s.bend, .slice O n co] 85)
    replace k9 := k9.alloc (.cells #[.int .i64 s.head, .slice A n c, .int .i64 s.lane.lo, .int .i64 s.lane.hi, .int .i64 s.bend, .slice O n co] 85)
    have k11 := Blk.new w1 85 #[.int .i64 s.head, .slice A n c, .int .i64 s.lane.lo, .int .i64 s.lane.hi, .int .i64 s.bend, .slice O n co]
    replace b1 := b1.alloc b1.size (.cells #[.int .i64 s.head, .slice A n c, .int .i64 s.lane.lo, .int .i64 s.lane.hi, .int .i64 s.bend, .slice O n co] 85)
    obtain ⟨c6, f6, l6⟩ := k6.rules
    go_wp2_with fail
    refine (hwL _).mono ?_
    rintro e w' ⟨rfl, rfl⟩
    obtain ⟨c7, f7, l7⟩ := k7.rules
    go_wp2_with fail
    refine (hwC _).mono ?_
    rintro e w' ⟨rfl, rfl⟩
    have k8z := (k8.set_ 0 (.slice none 0 0)).far (p := ⟨w.heap.size + 1 + 1 + 1 + 1, 0, none⟩) (by dsimp only; omega) (.int .i64 0)
    have k9z := (k9.far (p := ⟨w.heap.size + 1 + 1 + 1, 0, none⟩) (by dsimp only; omega) (.slice none 0 0)).set_ 0 (.int .i64 0)
    have bz := (b1.setCell (p := ⟨w.heap.size + 1 + 1 + 1, 0, none⟩) (by dsimp only; omega) (.slice none 0 0)).setCell (p := ⟨w.heap.size + 1 + 1 + 1 + 1, 0, none⟩) (by dsimp only; omega) (.int .i64 0)
    obtain ⟨c8, f8, l8⟩ := k8.rules
    obtain ⟨c9, f9, l9⟩ := k9.rules
    go_wp2_with fail
    clear c8 f8 l8 c9 f9 l9
    obtain ⟨c8, f8, l8⟩ := k8z.rules
    obtain ⟨c9, f9, l9⟩ := k9z.rules
    exact ⟨.tuple #[.slice none 0 0, .int .i64 0, .int .i64 3], by simp [results, Tryz.results12, go_sem, c8, c9], none, 0, 0, rfl, SlAt.nil _ _ _ _, bz⟩
  · simp only [decide_eq_false (show ¬ (1 ≤ (nd : Int) ∧ (nd : Int) ≤ 6) by omega)] at hwL
    clear hld hlc hnd h3 hwC
    refine (callsIn_wide (n := 9)).1 ?_
    refine callsIn_of_wp_marks Tryz.func12 rfl trivial ?_ rfl
    simp only [Tryz.ntmps12, List.size_toArray, List.length_cons, List.length_nil, Nat.reduceAdd, Nat.reduceSub, Array.replicate_succ, Array.replicate_zero, List.push_toArray, List.append_toArray, List.nil_append, List.cons_append]
    refine wpIn_wide.2 ?_
    go_wp2_with fail
    refine (begun_any s A O D n c n co nd cd bs l _ (((((hss.alloc _).alloc _).alloc _).alloc _).alloc _) (((((hs.alloc _).alloc _).alloc _).alloc _).alloc _) (((((hd.alloc _).alloc _).alloc _).alloc _).alloc _)).mono ?_
    rintro e w1 ⟨r1, r2, hb1⟩
    have k6 : Blk w1 (w.heap.size + 1) 47 #[.slice D nd cd] := ((((Blk.newAt (by simp)).alloc _).alloc _).alloc _).below hb1
    have k7 : Blk w1 (w.heap.size + 1 + 1) 33 #[.slice C nc cc] := (((Blk.newAt (by simp)).alloc _).alloc _).below hb1
    have k8 : Blk w1 (w.heap.size + 1 + 1 + 1) 33 #[.slice none 0 0] := ((Blk.newAt (by simp)).alloc _).below hb1
    have k9 : Blk w1 (w.heap.size + 1 + 1 + 1 + 1) 3 #[.int .i64 0] := (Blk.newAt (by simp)).below hb1
    have b1 := ((((((Below.refl w.heap.size w).alloc (Nat.le_refl _) _).alloc (by simp) _).alloc (by simp; omega) _).alloc (by simp; omega) _).alloc (by simp; omega) _).trans (hb1.mono (by simp; omega))
    clear hb1
    rw [h1.out] at r1
    obtain rfl := r1 h2.out
    clear r1 r2
    replace k6 := k6.alloc (.cells #[.int .i64 s.head, .slice A n c, .int .i64 s.lane.lo, .int .i64 s.lane.hi, .int .i64 s.bend, .slice O n co] 85)
    replace k7 := k7.alloc (.cells #[.int .i64 s.head, .slice A n c, .int .i64 s.lane.lo, .int .i64 s.lane.hi, .int .i64 s.bend, .slice O n co] 85)
    replace k8 := k8.alloc (.cells #[.int .i64 s.head, .slice A n c, .int .i64 s.lane.lo, .int .i64 s.lane.hi, .int .i64 s.bend, .slice O n co] 85)
    replace k9 := k9.alloc (.cells #[.int .i64 s.head, .slice A n c, .int .i64 s.lane.lo, .int .i64 s.lane.hi, .int .i64 s.bend, .slice O n co] 85)
    have k11 := Blk.new w1 85 #[.int .i64 s.head, .slice A n c, .int .i64 s.lane.lo, .int .i64 s.lane.hi, .int .i64 s.bend, .slice O n co]
    replace b1 := b1.alloc b1.size (.cells #[.int .i64 s.head, .slice A n c, .int .i64 s.lane.lo, .int .i64 s.lane.hi, .int .i64 s.bend, .slice O n co] 85)
    obtain ⟨c6, f6, l6⟩ := k6.rules
    go_wp2_with fail
    refine (hwL _).mono ?_
    rintro e w' ⟨rfl, rfl⟩
    have k8z := (k8.set_ 0 (.slice none 0 0)).far (p := ⟨w.heap.size + 1 + 1 + 1 + 1, 0, none⟩) (by dsimp only; omega) (.int .i64 0)
    have k9z := (k9.far (p := ⟨w.heap.size + 1 + 1 + 1, 0, none⟩) (by dsimp only; omega) (.slice none 0 0)).set_ 0 (.int .i64 0)
    have bz := (b1.setCell (p := ⟨w.heap.size + 1 + 1 + 1, 0, none⟩) (by dsimp only; omega) (.slice none 0 0)).setCell (p := ⟨w.heap.size + 1 + 1 + 1 + 1, 0, none⟩) (by dsimp only; omega) (.int .i64 0)
    obtain ⟨c8, f8, l8⟩ := k8.rules
    obtain ⟨c9, f9, l9⟩ := k9.rules
    go_wp2_with fail
    clear c8 f8 l8 c9 f9 l9
    obtain ⟨c8, f8, l8⟩ := k8z.rules
    obtain ⟨c9, f9, l9⟩ := k9z.rules
    exact ⟨.tuple #[.slice none 0 0, .int .i64 0, .int .i64 3], by simp [results, Tryz.results12, go_sem, c8, c9], none, 0, 0, rfl, SlAt.nil _ _ _ _, bz⟩
set_option maxRecDepth 100000 in
set_option maxHeartbeats 2000000 in
theorem Fastest_spd (s : Strm) (A O D C : Option Addr) (n c co nd cd nc cc : Nat) (bs : List Bnd) (l : List Wat) (ch : List Int) (w : World) (hss : SlAt w 0 5 Sec.cells A n c s.secs) (hs : SlAt w 0 2 Bnd.cells O n co bs) (hd : SlAt w 0 4 Wat.cells D nd cd l) (hcs : SlAt w 0 1 ivs C nc cc ch) (h1 : errBW s bs l = 0) (h3 : 1 ≤ l.length ∧ l.length ≤ 6 ∧ 1 ≤ ch.length ∧ ch.length ≤ 4) (h4 : okSpeeds ch = false) :
    Calls Tryz.prog 12 #[.agg #[.int .i64 s.head, .slice A n c, .int .i64 s.lane.lo, .int .i64 s.lane.hi, .int .i64 s.bend], .slice O n co, .slice D nd cd, .slice C nc cc] w (RetFast (fastR s bs l ch) w) := by
  have hv : fastR s bs l ch = ([], 0, 34) := by unfold fastR; rw [if_neg (by simp [h1]), if_neg (by simpa using h3), if_pos h4]
  rw [hv]
  clear hv
  have h2 := Lib.hid (errBW_zero h1).1
  replace h1 := Lib.hid h1
  rw [hd.len, hcs.len] at h3
  have hwL := fun W => within_any (nd : Int) 1 6 W
  have hwC := fun W => within_any (nc : Int) 1 4 W
  simp only [decide_eq_true (show 1 ≤ (nd : Int) ∧ (nd : Int) ≤ 6 by omega)] at hwL
  simp only [decide_eq_true (show 1 ≤ (nc : Int) ∧ (nc : Int) ≤ 4 by omega)] at hwC
  have hsp := fun W (hW : Below w.heap.size w W) => speeds_any C nc cc 0 ch W (hcs.below hW)
  simp only [h4] at hsp
  clear h3 h4
  refine (callsIn_wide (n := 9)).1 ?_
  refine callsIn_of_wp_marks Tryz.func12 rfl trivial ?_ rfl
  simp only [Tryz.ntmps12, List.size_toArray, List.length_cons, List.length_nil, Nat.reduceAdd, Nat.reduceSub, Array.replicate_succ, Array.replicate_zero, List.push_toArray, List.append_toArray, List.nil_append, List.cons_append]
  refine wpIn_wide.2 ?_
  go_wp2_with fail
  refine (begun_any s A O D n c n co nd cd bs l _ (((((hss.alloc _).alloc _).alloc _).alloc _).alloc _) (((((hs.alloc _).alloc _).alloc _).alloc _).alloc _) (((((hd.alloc _).alloc _).alloc _).alloc _).alloc _)).mono ?_
  rintro e w1 ⟨r1, r2, hb1⟩
  have k6 : Blk w1 (w.heap.size + 1) 47 #[.slice D nd cd] := ((((Blk.newAt (by simp)).alloc _).alloc _).alloc _).below hb1
  have k7 : Blk w1 (w.heap.size + 1 + 1) 33 #[.slice C nc cc] := (((Blk.newAt (by simp)).alloc _).alloc _).below hb1
  have k8 : Blk w1 (w.heap.size + 1 + 1 + 1) 33 #[.slice none 0 0] := ((Blk.newAt (by simp)).alloc _).below hb1
  have k9 : Blk w1 (w.heap.size + 1 + 1 + 1 + 1) 3 #[.int .i64 0] := (Blk.newAt (by simp)).below hb1
  have b1 := ((((((Below.refl w.heap.size w).alloc (Nat.le_refl _) _).alloc (by simp) _).alloc (by simp; omega) _).alloc (by simp; omega) _).alloc (by simp; omega) _).trans (hb1.mono (by simp; omega))
  clear hb1
  rw [h1.out] at r1
  obtain rfl := r1 h2.out
  clear r1 r2
  replace k6 := k6.alloc (.cells #[.int .i64 s.head, .slice A n c, .int .i64 s.lane.lo, .int .i64 s.lane.hi, .int .i64 s.bend, .slice O n co] 85)
  replace k7 := k7.alloc (.cells #[.int .i64 s.head, .slice A n c, .int .i64 s.lane.lo, .int .i64 s.lane.hi, .int .i64 s.bend, .slice O n co] 85)
  replace k8 := k8.alloc (.cells #[.int .i64 s.head, .slice A n c, .int .i64 s.lane.lo, .int .i64 s.lane.hi, .int .i64 s.bend, .slice O n co] 85)
  replace k9 := k9.alloc (.cells #[.int .i64 s.head, .slice A n c, .int .i64 s.lane.lo, .int .i64 s.lane.hi, .int .i64 s.bend, .slice O n co] 85)
  have k11 := Blk.new w1 85 #[.int .i64 s.head, .slice A n c, .int .i64 s.lane.lo, .int .i64 s.lane.hi, .int .i64 s.bend, .slice O n co]
  replace b1 := b1.alloc b1.size (.cells #[.int .i64 s.head, .slice A n c, .int .i64 s.lane.lo, .int .i64 s.lane.hi, .int .i64 s.bend, .slice O n co] 85)
  obtain ⟨c6, f6, l6⟩ := k6.rules
  go_wp2_with fail
  refine (hwL _).mono ?_
  rintro e w' ⟨rfl, rfl⟩
  obtain ⟨c7, f7, l7⟩ := k7.rules
  go_wp2_with fail
  refine (hwC _).mono ?_
  rintro e w' ⟨rfl, rfl⟩
  go_wp2_with fail
  refine (hsp _ b1).mono ?_
  rintro e w2 ⟨rfl, hb2⟩
  clear c6 f6 l6 c7 f7 l7 hsp hwC hwL
  replace k6 := k6.below hb2
  replace k7 := k7.below hb2
  replace k8 := k8.below hb2
  replace k9 := k9.below hb2
  replace k11 := k11.below hb2
  replace b1 := b1.trans (hb2.mono b1.size)
  clear hb2
  have k8z := (k8.set_ 0 (.slice none 0 0)).far (p := ⟨w.heap.size + 1 + 1 + 1 + 1, 0, none⟩) (by dsimp only; omega) (.int .i64 0)
  have k9z := (k9.far (p := ⟨w.heap.size + 1 + 1 + 1, 0, none⟩) (by dsimp only; omega) (.slice none 0 0)).set_ 0 (.int .i64 0)
  have bz := (b1.setCell (p := ⟨w.heap.size + 1 + 1 + 1, 0, none⟩) (by dsimp only; omega) (.slice none 0 0)).setCell (p := ⟨w.heap.size + 1 + 1 + 1 + 1, 0, none⟩) (by dsimp only; omega) (.int .i64 0)
  obtain ⟨c8, f8, l8⟩ := k8.rules
  obtain ⟨c9, f9, l9⟩ := k9.rules
  go_wp2_with fail
  clear c8 f8 l8 c9 f9 l9
  obtain ⟨c8, f8, l8⟩ := k8z.rules
  obtain ⟨c9, f9, l9⟩ := k9z.rules
  exact ⟨.tuple #[.slice none 0 0, .int .i64 0, .int .i64 34], by simp [results, Tryz.results12, go_sem, c8, c9], none, 0, 0, rfl, SlAt.nil _ _ _ _, bz⟩
end Go.Proofs.YthjdjpcomocffaaGreat
