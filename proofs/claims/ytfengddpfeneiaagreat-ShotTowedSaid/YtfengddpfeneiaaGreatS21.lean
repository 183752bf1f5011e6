/-
  Shots, walks: Worst: the delays with the greatest misfit.
-/
import Derived.Test.YtfengddpfeneiaaGreatS20
import Derived.Sort.CutIn
import Derived.Laws.EntriesVeiled
namespace Go.Proofs.YtfengddpfeneiaaGreat
open Go.RowKit Go.Shelf
set_option linter.unusedSimpArgs false
set_option linter.unusedVariables false
attribute [local go_sem] Oper.semAt_some

def bstTo (a : Arr) (k : Nat) : List Int × Int := ((allD a.gs).take k).foldl (better a) ([], -1)
theorem bstTo_succ {a : Arr} {k : Nat} {l : List Int} (h : (allD a.gs)[k]? = some l) : bstTo a (k + 1) = better a (bstTo a k) l := by
  unfold bstTo; rw [List.take_add_one, h, List.foldl_append]; rfl
theorem bstTo_all (a : Arr) : bstTo a (allD a.gs).length = worstS a := by unfold bstTo worstS; rw [List.take_length]
theorem bstTo_len (a : Arr) : ∀ k, (bstTo a k).1.length ≤ a.gs.length
  | 0 => by simp [bstTo]
  | k + 1 => by
    by_cases hk : k < (allD a.gs).length
    · have h1 : (allD a.gs)[k]? = some (allD a.gs)[k] := List.getElem?_eq_getElem hk
      rw [bstTo_succ h1]
      have h2 := bstTo_len a k
      have h3 := (allD_in a.gs _ (List.mem_of_getElem? h1)).1
      unfold better
      split
      · dsimp only; omega
      · exact h2
    · have e : bstTo a (k + 1) = bstTo a k := by unfold bstTo; rw [List.take_of_length_le (by omega), List.take_of_length_le (by omega)]
      rw [e]; exact bstTo_len a k
theorem misS_bd {a : Arr} (h : okArr a = true) (ds loss : List Int) : 0 ≤ misS a ds loss ∧ misS a ds loss ≤ 2000000000 := by
  have hal := okArr_len h
  unfold arrLen at hal
  have h1 := misTo_bd (x := sigL a ds loss) (y := sigL a (onL a) []) (B := 8000000) (fun t => sigL_bd h ds loss t) (fun t => sigL_bd h (onL a) [] t) (a.sh.length + 48)
  unfold misS misL
  omega
theorem bstTo_bd {a : Arr} (h : okArr a = true) : ∀ k, -1 ≤ (bstTo a k).2 ∧ (bstTo a k).2 ≤ 2000000000
  | 0 => by simp [bstTo]
  | k + 1 => by
    by_cases hk : k < (allD a.gs).length
    · have h1 : (allD a.gs)[k]? = some (allD a.gs)[k] := List.getElem?_eq_getElem hk
      rw [bstTo_succ h1]
      have h2 := bstTo_bd h k
      have h3 := misS_bd h (allD a.gs)[k] []
      unfold better
      split
      · dsimp only; omega
      · exact h2
    · have e : bstTo a (k + 1) = bstTo a k := by unfold bstTo; rw [List.take_of_length_le (by omega), List.take_of_length_le (by omega)]
      rw [e]; exact bstTo_bd h k
theorem widS_bd {a : Arr} (h : okArr a = true) {k : Nat} {g : Gun} (hg : a.gs[k]? = some g) : 1 ≤ widS g ∧ widS g ≤ 33 := by
  have := okArr_gun h (List.mem_of_getElem? hg)
  unfold widS; omega
theorem manyTo_pos {a : Arr} (h : okArr a = true) : ∀ k, k ≤ a.gs.length → 1 ≤ manyTo a k
  | 0, _ => Nat.le_refl _
  | k + 1, hk => by
    rw [manyTo]
    have h1 := manyTo_pos h k (by omega)
    have h2 := widS_bd h (List.getElem?_eq_getElem (l := a.gs) (i := k) (by omega))
    rw [List.getD_eq_getElem?_getD, List.getElem?_eq_getElem (by omega)]
    exact Nat.mul_le_mul h1 h2.1
theorem manyTo_mono {a : Arr} (h : okArr a = true) {i : Nat} : ∀ j, i ≤ j → j ≤ a.gs.length → manyTo a i ≤ manyTo a j
  | 0, hi, _ => by obtain rfl : i = 0 := by omega
                   exact Nat.le_refl _
  | j + 1, hi, hj => by
    by_cases e : i = j + 1
    · subst e; exact Nat.le_refl _
    · have hj' : j < a.gs.length := hj
      have h0' : i ≤ j := by omega
      have h1 := manyTo_mono h (i := i) j h0' (Nat.le_of_lt hj')
      have h2 := widS_bd h (List.getElem?_eq_getElem (l := a.gs) (i := j) (by omega))
      have h3 : manyTo a (j + 1) = manyTo a j * widS (a.gs)[j] := by rw [manyTo, List.getD_eq_getElem?_getD, List.getElem?_eq_getElem (by omega)]; rfl
      rw [h3]
      exact Nat.le_trans h1 (Nat.le_mul_of_pos_right _ h2.1)
def RetWo (a : Arr) (w : World) (e : Ending) (w' : World) : Prop :=
  ∃ O no co, e = .returned (.tuple #[.slice O no co, .int .i64 (worstR a).2.1, .int .i64 (worstR a).2.2]) ∧ SlAt w' w.heap.size 1 ivs O no co (worstR a).1 ∧ Below w.heap.size w w'
/-- What the rounds of the loop over all delays keep. -/
def WorI (a : Arr) (A : Option Addr) (n ca g6 g10 gx : Nat) (w : World) (k : Nat) (W : World) : Prop :=
  ∃ O no co, Blk W (w.heap.size + 1) 36 #[.slice O no co] ∧ W.ownsRow (w.heap.size + 1 + 1 + 1) 3 1 (.slice O no co) no ((bstTo a k).1.flatMap ivs) ∧ (Value.slice O no co).ownBlock ≠ some gx ∧ (bstTo a k).1.length = no ∧
    Blk W (w.heap.size + 1 + 1) 3 #[.int .i64 (bstTo a k).2] ∧ Blk W g6 159 #[.slice A n ca] ∧ Blk W g10 170 #[.func (.func 92) #[.slice A n ca] #[]] ∧ Below w.heap.size w W
theorem WorI.calmX {a : Arr} {A : Option Addr} {n ca g6 g10 X : Nat} {w W W' : World} {k : Nat} (h : WorI a A n ca g6 g10 (X + 2) w k W) (hc : CalmX (X + 2) X W W') (h1 : w.heap.size + 1 + 1 < X) (h2 : g6 < X) (h3 : g10 < X) : WorI a A n ca g6 g10 (X + 2) w k W' := by
  obtain ⟨O, no, co, p1, p2, p3, p4, p5, p6, p7, p8⟩ := h
  exact ⟨O, no, co, calmX_blk hc p1 (by omega), calmX_own hc p2 p3, p3, p4, calmX_blk hc p5 (by omega), calmX_blk hc p6 (by omega), calmX_blk hc p7 (by omega), calmX_below hc p8 (by omega)⟩
theorem WorI.below {a : Arr} {A : Option Addr} {n ca g6 g10 gx : Nat} {w W W' : World} {k : Nat} (h : WorI a A n ca g6 g10 gx w k W) (hb : Below W.heap.size W W') : WorI a A n ca g6 g10 gx w k W' := by
  obtain ⟨O, no, co, p1, p2, p3, p4, p5, p6, p7, p8⟩ := h
  exact ⟨O, no, co, p1.below hb, ownsRow_below p2 hb, p3, p4, p5.below hb, p6.below hb, p7.below hb, p8.trans (hb.mono p8.size)⟩
set_option maxRecDepth 100000 in
set_option maxHeartbeats 4000000 in
theorem Worst_any (a : Arr) (S G : Option Addr) (ns cs ng cg : Nat) (w : World) (hS : SlAt w 0 1 ivs S ns cs a.sh) (hG : SlAt w 0 4 Gun.cells G ng cg a.gs) :
    Calls Tryz.prog 38 #[.agg #[.slice S ns cs, .slice G ng cg]] w (RetWo a w) := by
  have hsl := Lib.hid hS.len
  have hgl := Lib.hid hG.len
  have hck := fun W h1 h2 => sCheck_any a S G ns cs ng cg W h1 h2
  obtain ⟨w1, hw1⟩ : ∃ w1, w1 = ((w.alloc (.cells #[.slice S ns cs, .slice G ng cg] 83)).alloc (.cells #[.slice none 0 0] 36)).alloc (.cells #[.int .i64 0] 3) := ⟨_, rfl⟩
  have k1 : Blk w1 w.heap.size 83 #[.slice S ns cs, .slice G ng cg] := by rw [hw1]; exact ((Blk.new _ _ _).alloc _).alloc _
  have k2 : Blk w1 (w.heap.size + 1) 36 #[.slice none 0 0] := by rw [hw1]; exact (Blk.newAt (by simp)).alloc _
  have k3 : Blk w1 (w.heap.size + 1 + 1) 3 #[.int .i64 0] := by rw [hw1]; exact Blk.newAt (by simp)
  have b : Below w.heap.size w w1 := by rw [hw1]; exact (((Below.refl _ _).alloc (Nat.le_refl _) _).alloc (by simp) _).alloc (by simp; omega) _
  have hS0 := Lib.hid hS
  have hG0 := Lib.hid hG
  have hS1 := hS.below b
  have hG1 := hG.below b
  clear hS hG
  by_cases ha : okArr a = true
  · rw [show chkArr a = 0 from by unfold chkArr; rw [if_pos ha]] at hck
    have hal := okArr_len ha
    unfold arrLen at hal
    rw [hsl.out, hgl.out] at hal
    obtain ⟨ha1, ha2, ha3, ha4⟩ := hal
    have hgo := Lib.hid (fun g (hg : g ∈ a.gs) => okArr_gun ha hg)
    have hgu := fun W h => guns_any a S G ns cs ng cg 0 W (by omega) h
    refine (callsIn_wide (n := 9)).1 ?_
    refine callsIn_of_wp_marks Tryz.func38 rfl trivial ?_ rfl
    simp only [Tryz.ntmps38, List.size_toArray, List.length_cons, List.length_nil, Nat.reduceAdd, Nat.reduceSub, Array.replicate_succ, Array.replicate_zero, List.push_toArray, List.append_toArray, List.nil_append, List.cons_append]
    gi_wp2_with fail
    rw [← hw1]
    clear hw1
    obtain ⟨c1, f1, l1⟩ := k1.rules
    gi_wp2_with fail
    refine ⟨trivial, ?_⟩
    refine (callsIn_wide.2 (hck _ hS1 hG1)).mono ?_
    rintro e W2 ⟨rfl, hb⟩
    clear c1 f1 l1 hck
    replace k1 := k1.below hb
    replace k2 := k2.below hb
    replace k3 := k3.below hb
    replace b := b.trans (hb.mono b.size)
    replace hG1 := hG1.below hb
    replace hS1 := hS1.below hb
    clear hb
    obtain ⟨c1, f1, l1⟩ := k1.rules
    gi_wp2_with fail
    refine ⟨trivial, ?_⟩
    refine (callsIn_wide.2 (hgu _ hG1)).mono ?_
    rintro e W3 ⟨A, ca, rfl, hA, hb⟩
    clear c1 f1 l1 hgu
    have hl3 := k3.lt
    replace hA := hA.mono (show w.heap.size + 1 + 1 + 1 ≤ W2.heap.size by omega)
    replace k2 := (k2.below hb).alloc (.cells #[.slice A ng ca] 159)
    replace k3 := (k3.below hb).alloc (.cells #[.slice A ng ca] 159)
    have hg6 : w.heap.size + 1 + 1 < W3.heap.size := by have := hb.size; omega
    have k6 := Blk.new W3 159 #[.slice A ng ca]
    replace b := b.trans (hb.mono b.size)
    replace b := b.alloc b.size (.cells #[.slice A ng ca] 159)
    replace hA := hA.alloc (.cells #[.slice A ng ca] 159)
    clear hb k1 hS1 hG1
    obtain ⟨c6, f6, l6⟩ := k6.rules
    gi_wp2_with fail
    clear c6 f6 l6
    generalize W3.alloc (.cells #[.slice A ng ca] 159) = W4 at *
    generalize W3.heap.size = g6 at *
    have hm0 : Hid (manyTo a 0 = 1) := by show _ = _; rfl
    gi_loopw [7, 22] (fun v i wr => ∃ k : Nat, i = .int .i64 (k : Int) ∧ k ≤ ng ∧ v = .int .i64 (manyTo a k : Nat) ∧ manyTo a k ≤ 4096 ∧ Blk wr (w.heap.size + 1) 36 #[.slice none 0 0] ∧ Blk wr (w.heap.size + 1 + 1) 3 #[.int .i64 0] ∧ Blk wr g6 159 #[.slice A ng ca] ∧ SlAt wr (w.heap.size + 1 + 1 + 1) 5 (plc S ns cs) A ng ca a.gs ∧ Below w.heap.size w wr) (fun v i wr => ng - (intOf i).toNat)
    case atStart => exact ⟨0, rfl, Nat.zero_le _, by rw [hm0.out]; rfl, by rw [hm0.out]; omega, k2, k3, k6, hA, b⟩
    case round =>
      clear k2 k3 k6 hA b
      obtain ⟨k, rfl, hk, rfl, hmk, k2, k3, k6, hA, b⟩ := hrel
      by_cases hlt : k < ng
      · have hk0 : (0 : Int) ≤ (k : Int) := by omega
        have hk1 : (k : Int) < (ng : Int) := by omega
        obtain ⟨x, hx⟩ := some_of_lt hgl.out hlt
        obtain ⟨bb, oo, hAA, -, hbl, e0, e1, e2, e3, e4⟩ := hA.pln hx
        subst hAA
        have hwb := widS_bd ha hx
        have hxo := hgo.out x (List.mem_of_getElem? hx)
        obtain ⟨q1, q2, q3, q4, q5, q6, q7⟩ := hxo
        have hst : manyTo a (k + 1) = manyTo a k * widS x := by rw [manyTo, List.getD_eq_getElem?_getD, hx]; rfl
        have hwe : x.late.hi - x.late.lo + 1 = (widS x : Int) := by unfold widS; omega
        have hmm := manyTo_mono ha (i := k + 1) a.gs.length (by rw [hgl.out]; omega) (Nat.le_refl _)
        rw [hst] at hmm
        have hpb : manyTo a k * widS x ≤ 4096 * 33 := Nat.mul_le_mul hmk hwb.2
        generalize manyTo a k = mk at *
        generalize widS x = wx at *
        have u1 := IntWalk.i64_in (x.late.hi - x.late.lo) (by omega)
        have u2 := IntWalk.i64_in (x.late.hi - x.late.lo + 1) (by omega)
        have hmul : (mk : Int) * (wx : Int) = ((mk * wx : Nat) : Int) := by push_cast; rfl
        obtain ⟨mw, hmw⟩ : ∃ mw, mk * wx = mw := ⟨_, rfl⟩
        rw [hmw] at hmul hpb hst hmm
        have u3 := IntWalk.i64_in (mw : Int) (by omega)
        have hmb1 : (mw : Int) ≤ 135168 := by omega
        have hmb2 : (0 : Int) ≤ (mw : Int) := by omega
        replace hx := Lib.hid hx
        replace hst := Lib.hid hst
        replace hmw := Lib.hid hmw
        have hal1 := (Below.refl wr.heap.size wr).alloc (Nat.le_refl _) (.cells #[.int .i64 x.vol, .int .i64 x.time, .int .i64 x.late.lo, .int .i64 x.late.hi, .slice S ns cs] 168)
        have kp := Blk.new wr 168 #[.int .i64 x.vol, .int .i64 x.time, .int .i64 x.late.lo, .int .i64 x.late.hi, .slice S ns cs]
        have hlk := k6.lt
        replace k2 := k2.below hal1
        replace k3 := k3.below hal1
        replace k6 := k6.below hal1
        replace hA := hA.below hal1
        replace b := b.trans (hal1.mono b.size)
        clear hal1
        obtain ⟨cp, fp, lp⟩ := kp.rules
        have hb2 : w.heap.size + 1 < wr.heap.size := by omega
        obtain ⟨c2, f2, l2⟩ := k2.rules
        obtain ⟨c3, f3, l3⟩ := k3.rules
        by_cases hbig : mw ≤ 4096
        · have hbig2 : ¬ (mw : Int) > 4096 := by omega
          have hbig3 : (mw : Int) ≤ 4096 := by omega
          gi_wp2_with fail
          clear c2 f2 l2 c3 f3 l3 cp fp lp
          go_roundw
          case rel => exact ⟨k + 1, by go_num, by omega, by rw [hst.out], by rw [hst.out]; exact hbig, k2, k3, k6, hA, b⟩
          case measure => simp [intOf]; omega
        · have hbig2 : (mw : Int) > 4096 := by omega
          have hno : Hid (worstR a = ([], 0, 3)) := by
            show _ = _
            unfold worstR
            rw [if_pos ha, if_neg (by omega)]
          clear c2 f2 l2 c3 f3 l3
          gi_upto_region 10 with fail
          clear cp fp lp
          generalize wr.alloc (.cells #[.int .i64 x.vol, .int .i64 x.time, .int .i64 x.late.lo, .int .i64 x.late.hi, .slice S ns cs] 168) = Wp at *
          have k2z := (k2.set_ 0 (.slice none 0 0)).far (p := ⟨w.heap.size + 1 + 1, 0, none⟩) (by dsimp only; omega) (.int .i64 0)
          have k3z := (k3.far (p := ⟨w.heap.size + 1, 0, none⟩) (by dsimp only; omega) (.slice none 0 0)).set_ 0 (.int .i64 0)
          have bz := (b.setCell (p := ⟨w.heap.size + 1, 0, none⟩) (by dsimp only; omega) (.slice none 0 0)).setCell (p := ⟨w.heap.size + 1 + 1, 0, none⟩) (by dsimp only; omega) (.int .i64 0)
          simp only [List.setIfInBounds_toArray, List.set_cons_zero, List.set_cons_succ] at k2z k3z
          obtain ⟨c2, f2, l2⟩ := k2.rules
          obtain ⟨c3, f3, l3⟩ := k3.rules
          gi_wp2_with fail
          clear c2 f2 l2 c3 f3 l3
          generalize (Wp.setCell ⟨w.heap.size + 1, 0, none⟩ (.slice none 0 0)).setCell ⟨w.heap.size + 1 + 1, 0, none⟩ (.int .i64 0) = Wz at *
          obtain ⟨c2, f2, l2⟩ := k2z.rules
          obtain ⟨c3, f3, l3⟩ := k3z.rules
          refine ⟨.tuple #[.slice none 0 0, .int .i64 0, .int .i64 3], by simp [results, Tryz.results38, go_sem, c2, c3], ?_⟩
          exact ⟨none, 0, 0, by rw [hno.out], by rw [hno.out]; exact SlAt.nil _ _ _ _, bz⟩
      · obtain rfl : k = ng := by omega
        have hyes : Hid (worstR a = ((worstS a).1, (worstS a).2, 0)) := by
          show _ = _
          unfold worstR
          rw [if_pos ha, if_pos (by rw [hgl.out]; exact hmk)]
        obtain ⟨c3, f3, l3⟩ := k3.rules
        have hlk := k6.lt
        have k2z := k2.far (p := ⟨w.heap.size + 1 + 1, 0, none⟩) (by dsimp only; omega) (.int .i64 (-1))
        have k3z := k3.set_ 0 (.int .i64 (-1))
        simp only [List.setIfInBounds_toArray, List.set_cons_zero, List.set_cons_succ] at k3z
        have k6z := k6.far (p := ⟨w.heap.size + 1 + 1, 0, none⟩) (by dsimp only; omega) (.int .i64 (-1))
        have bz := b.setCell (p := ⟨w.heap.size + 1 + 1, 0, none⟩) (by dsimp only; omega) (.int .i64 (-1))
        have hAz := hA.setCell (p := ⟨w.heap.size + 1 + 1, 0, none⟩) (by dsimp only; omega) (.int .i64 (-1))
        gi_upto_region 13 with fail
        clear c3 f3 l3 k2 k3 k6 hA b
        generalize wr.setCell ⟨w.heap.size + 1 + 1, 0, none⟩ (.int .i64 (-1)) = W5 at *
        have k10 := Blk.new W5 170 #[.func (.func 92) #[.slice A k ca] #[]]
        have hl6 := k6z.lt
        have k2y := k2z.alloc (.cells #[.func (.func 92) #[.slice A k ca] #[]] 170)
        have k3y := k3z.alloc (.cells #[.func (.func 92) #[.slice A k ca] #[]] 170)
        have k6y := k6z.alloc (.cells #[.func (.func 92) #[.slice A k ca] #[]] 170)
        have hAy := hAz.alloc (.cells #[.func (.func 92) #[.slice A k ca] #[]] 170)
        have bsz := bz.size
        have b2 := bz.alloc bsz (.cells #[.func (.func 92) #[.slice A k ca] #[]] 170)
        obtain ⟨c6, f6, l6⟩ := k6z.rules
        gi_upto_region 14 with fail
        clear c6 f6 l6 k2z k3z k6z hAz bz
        generalize W5.alloc (.cells #[.func (.func 92) #[.slice A k ca] #[]] 170) = W6 at *
        generalize W5.heap.size = g10 at *
        obtain ⟨c6, f6, l6⟩ := k6y.rules
        gi_wp2_with fail
        refine ⟨trivial, ?_⟩
        refine (callsIn_wide.2 (all_any A k ca _)).mono ?_
        rintro e W7 ⟨rfl, rfl⟩
        gi_wp2_with fail
        obtain ⟨x0, hx0⟩ := some_of_lt hgl.out (show 0 < k by omega)
        obtain ⟨bA, oA, hAA, hbA, -, -⟩ := hAy.pln hx0
        subst hAA
        clear hx0 x0 c6 f6 l6
        have kga := Blk.new W6 159 #[.slice (some ⟨bA, oA, none⟩) k ca]
        have hl10 := k10.lt
        have hAL := hAy.alloc (.cells #[.slice (some ⟨bA, oA, none⟩) k ca] 159)
        have k2i := k2y.alloc (.cells #[.slice (some ⟨bA, oA, none⟩) k ca] 159)
        have k3i := k3y.alloc (.cells #[.slice (some ⟨bA, oA, none⟩) k ca] 159)
        have k6i := k6y.alloc (.cells #[.slice (some ⟨bA, oA, none⟩) k ca] 159)
        have k10i := k10.alloc (.cells #[.slice (some ⟨bA, oA, none⟩) k ca] 159)
        have bi := b2.alloc b2.size (.cells #[.slice (some ⟨bA, oA, none⟩) k ca] 159)
        have hX : (W6.alloc (.cells #[.slice (some ⟨bA, oA, none⟩) k ca] 159)).heap.size = W6.heap.size + 1 := by simp
        clear hAy k2y k3y k6y k10 b2
        generalize W6.alloc (.cells #[.slice (some ⟨bA, oA, none⟩) k ca] 159) = WI at *
        generalize W6.heap.size = ga at *
        have hXa : ga < WI.heap.size := by omega
        clear hX
        have hI0 : WorI a (some ⟨bA, oA, none⟩) k ca g6 g10 (WI.heap.size + 2) w 0 WI := ⟨none, 0, 0, k2i, ⟨rfl, .inl ⟨rfl, rfl⟩⟩, (fun e => by cases e), rfl, k3i, k6i, k10i, bi⟩
        have hL0 : AllL a.gs (some ⟨bA, oA, none⟩) S k ca ns cs ga WI := ⟨kga, hAL.mono (Nat.zero_le _)⟩
        clear k2i k3i k6i k10i kga hAL
        refine wp_rangeX rfl (by decide) (gf := 135) (lb := #[.pointer (some ⟨ga, 0, none⟩)]) rfl trivial eg_all1
          (all1_iter _ a.gs hgo.out (some ⟨bA, oA, none⟩) S k ca ns cs ga ha4 ha3) (fun x k vs W ⟨l, e, _⟩ => by rw [e]; rfl)
          (fun q W => WorI a (some ⟨bA, oA, none⟩) k ca g6 g10 (WI.heap.size + 2) w q W)
          (fun _ _ => False) (fun q A B h hc => h.calmX hc (by omega) (by omega) (by omega)) (fun _ _ _ h _ => h) (fun A B h hc => h.calm hc) hI0 hL0 ?round ?done ?stop
        case stop => exact fun _ _ _ _ h _ => h.elim
        case done =>
          rintro D0 W hD ⟨O, no, co, p1, p2, p3, p4, p5, p6, p7, p8⟩ hK
          rw [bstTo_all] at p2 p4 p5
          have hwl := bstTo_len a (allD a.gs).length
          rw [bstTo_all, hgl.out] at hwl
          generalize worstS a = ws at *
          obtain ⟨wv, hwv⟩ : ∃ wv, ws.2 = wv := ⟨_, rfl⟩
          rw [hwv] at p5
          gi_wp2_with fail
          refine wpIn_wide.2 ?_
          refine wp_held_np (fun w' : World => (∀ j, w'.cell? ⟨w.heap.size + 1, j, none⟩ = #[Value.slice O no co][j]?) ∧ (∀ j, w'.cell? ⟨w.heap.size + 1 + 1, j, none⟩ = #[Value.int .i64 wv][j]?)) (by kernel_rfl) ?_
          replace p1 := p1.drew
          replace p2 : W.drew.ownsRow _ _ _ _ _ _ := p2
          replace p5 := p5.drew
          replace p8 := p8.drew
          replace hK : W.drew.heap[D0]? = some (.deferred (some [])) := hK
          clear p6 p7
          generalize W.drew = Wd at *
          have hSx : (fun w' : World => (∀ j, w'.cell? ⟨w.heap.size + 1, j, none⟩ = #[Value.slice O no co][j]?) ∧ (∀ j, w'.cell? ⟨w.heap.size + 1 + 1, j, none⟩ = #[Value.int .i64 wv][j]?)) Wd := ⟨p1.cell, p5.cell⟩
          refine held_take (i := 0) (v := ?_) 59 rfl rfl (by kernel_rfl) (by kernel_rfl) (by kernel_rfl) (fun _ _ _ h => h) (Or.inl ⟨by rfl, ?_⟩) hSx ?_
          rotate_left 1
          · intro w' hSw
            try dsimp only at hSw
            obtain ⟨q1, q2⟩ := hSw
            go_simp
            all_goals with_reducible rfl
          try simp only [Act.put, List.setIfInBounds_toArray, List.set_cons_zero, List.set_cons_succ]
          refine held_take (i := 1) (v := ?_) 60 rfl rfl (by kernel_rfl) (by kernel_rfl) (by kernel_rfl) (fun _ _ _ h => h) (Or.inl ⟨by rfl, ?_⟩) hSx ?_
          rotate_left 1
          · intro w' hSw
            try dsimp only at hSw
            obtain ⟨q1, q2⟩ := hSw
            go_simp
            all_goals with_reducible rfl
          try simp only [Act.put, List.setIfInBounds_toArray, List.set_cons_zero, List.set_cons_succ]
          have r1 := p1.set_ 0 (.slice O no co)
          have r5 := p5.far (p := ⟨w.heap.size + 1, 0, none⟩) (by dsimp only; omega) (.slice O no co)
          have r8 := p8.setCell (p := ⟨w.heap.size + 1, 0, none⟩) (by dsimp only; omega) (.slice O no co)
          have rK := (Below.heap_setCell Wd ⟨w.heap.size + 1, 0, none⟩ (.slice O no co) D0 (by dsimp only; omega)).trans hK
          have hob : (Value.slice O no co).ownBlock ≠ some (w.heap.size + 1) := fun e => by have := (p2.lt _ e).1; omega
          have r2 := ownsRow_setCell p2 (p := ⟨w.heap.size + 1, 0, none⟩) hob (.slice O no co)
          simp only [List.setIfInBounds_toArray, List.set_cons_zero, List.set_cons_succ] at r1
          refine held_one (i := 2) (by kernel_rfl) rfl rfl (fun K hK => ?_)
          obtain ⟨c2, f2, l2⟩ := p1.rules
          go_simp
          clear c2 f2 l2 hSx p1 p2 p5 p8
          generalize Wd.setCell ⟨w.heap.size + 1, 0, none⟩ (.slice O no co) = We at *
          have hSx : (fun w' : World => (∀ j, w'.cell? ⟨w.heap.size + 1, j, none⟩ = #[Value.slice O no co][j]?) ∧ (∀ j, w'.cell? ⟨w.heap.size + 1 + 1, j, none⟩ = #[Value.int .i64 wv][j]?)) We := ⟨r1.cell, r5.cell⟩
          refine hK _ _ hSx ?_
          clear hK K
          try simp only [Act.put, List.setIfInBounds_toArray, List.set_cons_zero, List.set_cons_succ]
          have s1 := r1.far (p := ⟨w.heap.size + 1 + 1, 0, none⟩) (by dsimp only; omega) (.int .i64 wv)
          have s5 := r5.set_ 0 (.int .i64 wv)
          have s8 := r8.setCell (p := ⟨w.heap.size + 1 + 1, 0, none⟩) (by dsimp only; omega) (.int .i64 wv)
          have sK := (Below.heap_setCell We ⟨w.heap.size + 1 + 1, 0, none⟩ (.int .i64 wv) D0 (by dsimp only; omega)).trans rK
          have hob2 : (Value.slice O no co).ownBlock ≠ some (w.heap.size + 1 + 1) := fun e => by have := (r2.lt _ e).1; omega
          have s2 := ownsRow_setCell r2 (p := ⟨w.heap.size + 1 + 1, 0, none⟩) hob2 (.int .i64 wv)
          simp only [List.setIfInBounds_toArray, List.set_cons_zero, List.set_cons_succ] at s5
          refine held_one (i := 3) (by kernel_rfl) rfl rfl (fun K hK => ?_)
          obtain ⟨c3, f3, l3⟩ := r5.rules
          go_simp
          clear c3 f3 l3 hSx r1 r2 r5 r8
          generalize We.setCell ⟨w.heap.size + 1 + 1, 0, none⟩ (.int .i64 wv) = Wg at *
          have hSx : (fun w' : World => (∀ j, w'.cell? ⟨w.heap.size + 1, j, none⟩ = #[Value.slice O no co][j]?) ∧ (∀ j, w'.cell? ⟨w.heap.size + 1 + 1, j, none⟩ = #[Value.int .i64 wv][j]?)) Wg := ⟨s1.cell, s5.cell⟩
          refine hK _ _ hSx ?_
          clear hK K
          try simp only [Act.put, List.setIfInBounds_toArray, List.set_cons_zero, List.set_cons_succ]
          refine held_take (i := 4) (v := ?_) 4 rfl rfl (by kernel_rfl) (by kernel_rfl) (by kernel_rfl) (fun _ _ _ h => h) (Or.inl ⟨by rfl, ?_⟩) hSx ?_
          rotate_left 1
          · intro w' hSw
            try dsimp only at hSw
            obtain ⟨q1, q2⟩ := hSw
            go_simp
            all_goals with_reducible rfl
          try simp only [Act.put, List.setIfInBounds_toArray, List.set_cons_zero, List.set_cons_succ]
          refine wpAnyH_done (by kernel_rfl) (noPanic_normal ?_) _
          clear hSx
          go_wp2_with fail
          gi_wp2_with fail
          have hno : no ≤ 17592186044416 := by rw [← p4]; omega
          refine ⟨by simp, .inl ⟨_, _, rfl, run_takeDeferred sK, ?_⟩⟩
          have hcp := calm_put (B := w.heap.size) (.deferred none) sK rfl (by omega)
          have k2e := calm_blk hcp s1
          have k3e := calm_blk hcp s5
          obtain ⟨O9, c9, e9, h9⟩ := SlAt.of_own (enc := ivs) (calm_own hcp s2) hno ws.1 rfl (fun _ => rfl) p4
          simp only [Value.slice.injEq, true_and] at e9
          obtain ⟨rfl, rfl⟩ := e9
          obtain ⟨c2, f2, l2⟩ := k2e.rules
          obtain ⟨c3, f3, l3⟩ := k3e.rules
          refine ⟨.tuple #[.slice O no co, .int .i64 wv, .int .i64 0], by simp [results, Tryz.results38, go_sem, c2, c3], ?_⟩
          exact ⟨O, no, co, by rw [hyes.out, hwv], by rw [hyes.out]; exact h9.mono (by omega), calm_below hcp s8 (Nat.le_refl _)⟩
        case round =>
          rintro lr q vs W hW hk hI hL ⟨l, rfl, hl, hG⟩
          gi_wp2_with fail
          refine ⟨Below.refl _ _, fun W2 hc => ?_⟩
          replace hI := hI.calmX (hc.x _) (by omega) (by omega) (by omega)
          replace hL := hL.calm hc
          replace hG := calm_sl hc hG
          clear hc hW hI0 hL0 W
          have hin := allD_in a.gs l (List.mem_of_getElem? hl)
          have hdel : isDel l := inD_del hin (fun g hg => by have := hgo.out g hg; exact ⟨this.2.2.2.2.1, this.2.2.2.2.2.2⟩)
          have hll : l.length = k := by rw [hin.1, hgl.out]
          have hbs := Lib.hid (bstTo_succ hl)
          have hgx := hG.2.2.2 (by omega)
          obtain ⟨bx, ox, hbx, -, hgx, -⟩ := hgx
          simp only [Option.some.injEq, Addr.mk.injEq, and_true] at hbx
          obtain ⟨rfl, rfl⟩ := hbx
          have hsig := fun W (h1 : SlAt W 0 5 (plc S ns cs) (some ⟨bA, oA, none⟩) k ca a.gs) (h2 : SlAt W 0 1 ivs S ns cs a.sh) (h3 : SlAt W 0 1 ivs (some ⟨WI.heap.size + 2, 0, none⟩) k k l) => signature_any a ha l [] hdel (some ⟨bA, oA, none⟩) S (some ⟨WI.heap.size + 2, 0, none⟩) none k ca ns cs k 0 0 0 0 0 0 W h1 h2 h3 (SlAt.nil _ _ _ _)
          have hmis := fun W M cm B (h1 : SlAt W 0 5 (plc S ns cs) (some ⟨bA, oA, none⟩) k ca a.gs) (h2 : SlAt W 0 1 ivs S ns cs a.sh) (h3 : SlAt W B 1 ivs M (ns + 48) cm (sigL a l [])) => misfit_any a ha (sigL a l []) (fun t => sigL_bd ha l [] t) (some ⟨bA, oA, none⟩) S M k ca ns cs cm 0 0 B W h1 h2 h3
          rw [show misL a (sigL a l []) = misS a l [] from rfl] at hmis
          have hbet : better a (bstTo a q) l = if (bstTo a q).2 < misS a l [] then (l, misS a l []) else bstTo a q := rfl
          have hmb := misS_bd ha l []
          have hbb := bstTo_bd ha q
          replace hbet := Lib.hid hbet
          obtain ⟨O, no, co, p1, p2, p3, p4, p5, p6, p7, p8⟩ := hI
          have hS2 := hS0.out.below p8
          gi_wp2_with fail
          refine wpIn_held_round (fun w' : World => (∀ j, w'.cell? ⟨g10, j, none⟩ = #[Value.func (.func 92) #[.slice (some ⟨bA, oA, none⟩) k ca] #[]][j]?) ∧ (∀ j, w'.cell? ⟨g6, j, none⟩ = #[Value.slice (some ⟨bA, oA, none⟩) k ca][j]?)) (by kernel_rfl) (by kernel_rfl) (by rintro ⟨_, _, h⟩; exact h) ?_
          have hSx : (fun w' : World => (∀ j, w'.cell? ⟨g10, j, none⟩ = #[Value.func (.func 92) #[.slice (some ⟨bA, oA, none⟩) k ca] #[]][j]?) ∧ (∀ j, w'.cell? ⟨g6, j, none⟩ = #[Value.slice (some ⟨bA, oA, none⟩) k ca][j]?)) W2.drew := ⟨p7.drew.cell, p6.drew.cell⟩
          have hI : WorI a (some ⟨bA, oA, none⟩) k ca g6 g10 (WI.heap.size + 2) w q W2.drew := ⟨O, no, co, p1, p2, p3, p4, p5, p6, p7, p8.drew⟩
          clear p1 p2 p3 p4 p5 p6 p7 p8 O no co
          replace hL : AllL a.gs (some ⟨bA, oA, none⟩) S k ca ns cs ga W2.drew := hL
          replace hG : SlAt W2.drew _ _ _ _ _ _ _ := hG
          replace hS2 : SlAt W2.drew _ _ _ _ _ _ _ := hS2
          have hn : NC WI.heap.size W2 W2.drew := nc_drew W2
          have hgx2 : WI.heap.size + 2 < W2.drew.heap.size := hgx
          clear hgx
          generalize W2.drew = W5 at *
          refine held_take (i := 0) (v := ?_) 48 rfl rfl (by kernel_rfl) (by kernel_rfl) (by kernel_rfl) (fun _ _ _ h => h) (Or.inl ⟨by rfl, ?_⟩) hSx ?_
          rotate_left 1
          · intro w' hSw
            try dsimp only at hSw
            obtain ⟨q1, q2⟩ := hSw
            go_simp
            all_goals with_reducible rfl
          try simp only [Act.put, List.setIfInBounds_toArray, List.set_cons_zero, List.set_cons_succ]
          refine held_take (i := 1) (v := ?_) 49 rfl rfl (by kernel_rfl) (by kernel_rfl) (by kernel_rfl) (fun _ _ _ h => h) (Or.inl ⟨by rfl, ?_⟩) hSx ?_
          rotate_left 1
          · intro w' hSw
            try dsimp only at hSw
            obtain ⟨q1, q2⟩ := hSw
            go_simp
            all_goals with_reducible rfl
          try simp only [Act.put, List.setIfInBounds_toArray, List.set_cons_zero, List.set_cons_succ]
          refine held_take (i := 2) (v := ?_) 50 rfl rfl (by kernel_rfl) (by kernel_rfl) (by kernel_rfl) (fun _ _ _ h => h) (Or.inl ⟨by rfl, ?_⟩) hSx ?_
          rotate_left 1
          · intro w' hSw
            try dsimp only at hSw
            obtain ⟨q1, q2⟩ := hSw
            go_simp
            all_goals with_reducible rfl
          try simp only [Act.put, List.setIfInBounds_toArray, List.set_cons_zero, List.set_cons_succ]
          refine held_one (i := 3) (by kernel_rfl) rfl rfl (fun K hK => ?_)
          go_simp
          refine (hsig _ hL.2 hS2 hG).mono ?_
          rintro e W8 ⟨M, cm, rfl, hM, hb8⟩
          clear hsig hSx
          have hgx3 : WI.heap.size + 2 < W8.heap.size := Nat.lt_of_lt_of_le hgx2 hb8.size
          replace hI := hI.below hb8
          replace hL := hL.below hb8
          replace hG := hG.below hb8
          replace hS2 := hS2.below hb8
          replace hn := hn.trans (nc_of_below hb8)
          clear hb8 hgx2
          have hSx : (fun w' : World => (∀ j, w'.cell? ⟨g10, j, none⟩ = #[Value.func (.func 92) #[.slice (some ⟨bA, oA, none⟩) k ca] #[]][j]?) ∧ (∀ j, w'.cell? ⟨g6, j, none⟩ = #[Value.slice (some ⟨bA, oA, none⟩) k ca][j]?)) W8 := by
            obtain ⟨_, _, _, p1, p2, p3, p4, p5, p6, p7, p8⟩ := hI
            exact ⟨p7.cell, p6.cell⟩
          refine hK _ _ hSx ?_
          clear hK K
          try simp only [Act.put, List.setIfInBounds_toArray, List.set_cons_zero, List.set_cons_succ]
          refine held_one (i := 4) (by kernel_rfl) rfl rfl (fun K hK => ?_)
          go_simp
          refine (hmis _ M cm _ hL.2 hS2 hM).mono ?_
          rintro e W9 ⟨rfl, hb9⟩
          clear hmis hSx hM
          have hgx4 : WI.heap.size + 2 < W9.heap.size := Nat.lt_of_lt_of_le hgx3 hb9.size
          replace hI := hI.below hb9
          replace hL := hL.below hb9
          replace hG := hG.below hb9
          replace hS2 := hS2.below hb9
          replace hn := hn.trans (nc_of_below hb9)
          clear hb9 hgx3
          have hSx : (fun w' : World => (∀ j, w'.cell? ⟨g10, j, none⟩ = #[Value.func (.func 92) #[.slice (some ⟨bA, oA, none⟩) k ca] #[]][j]?) ∧ (∀ j, w'.cell? ⟨g6, j, none⟩ = #[Value.slice (some ⟨bA, oA, none⟩) k ca][j]?)) W9 := by
            obtain ⟨_, _, _, p1, p2, p3, p4, p5, p6, p7, p8⟩ := hI
            exact ⟨p7.cell, p6.cell⟩
          refine hK _ _ hSx ?_
          clear hK K
          try simp only [Act.put, List.setIfInBounds_toArray, List.set_cons_zero, List.set_cons_succ]
          refine held_take (i := 5) (v := ?_) 12 rfl rfl (by kernel_rfl) (by kernel_rfl) (by kernel_rfl) (fun _ _ _ h => h) (Or.inl ⟨by rfl, ?_⟩) hSx ?_
          rotate_left 1
          · intro w' hSw
            try dsimp only at hSw
            obtain ⟨q1, q2⟩ := hSw
            go_simp
            all_goals with_reducible rfl
          try simp only [Act.put, List.setIfInBounds_toArray, List.set_cons_zero, List.set_cons_succ]
          refine wpAnyH_done (by kernel_rfl) ?_ _
          clear hSx
          obtain ⟨bq, hbq⟩ : ∃ bq, bstTo a q = bq := ⟨_, rfl⟩
          obtain ⟨ms, hms⟩ : ∃ ms, misS a l [] = ms := ⟨_, rfl⟩
          rw [hms] at hmb hbet
          rw [hms]
          rw [hbq] at hbb hbet hbs
          obtain ⟨O, no, co, p1, p2, p3, p4, p5, p6, p7, p8⟩ := hI
          rw [hbq] at p2 p4 p5
          obtain ⟨hb1, hb2⟩ := hbb
          obtain ⟨hm1, hm2⟩ := hmb
          replace hms := Lib.hid hms
          replace hbq := Lib.hid hbq
          obtain ⟨c3, f3, l3⟩ := p5.rules
          by_cases hlt : bq.2 < ms
          · have hgt : ms > bq.2 := hlt
            have hcl := CloneI_any l (some ⟨WI.heap.size + 2, 0, none⟩) k k 0 W9 (by omega) hG
            gi_wp2_with fail
            refine ⟨trivial, ?_⟩
            refine (CallsIn.inRound lr (callsIn_wide.2 hcl)).mono ?_
            rintro e W10 ⟨v, rfl, hown, hbc⟩
            clear hcl hG hS2 c3 f3 l3 p2 p3 p4
            rcases hown.2 with ⟨-, h⟩ | ⟨g9, cap, cur, rfl, hg9, -⟩
            · omega
            have hg9b := (hown.lt g9 rfl).2
            replace p1 := p1.below hbc
            replace p5 := p5.below hbc
            replace p6 := p6.below hbc
            replace p7 := p7.below hbc
            have p8s := p8.size
            replace p8 := p8.trans (hbc.mono p8s)
            replace hL := hL.below hbc
            replace hn := hn.trans (nc_of_below hbc)
            have hgx5 : WI.heap.size + 2 < W10.heap.size := Nat.lt_of_lt_of_le hgx4 hbc.size
            clear hbc
            have r1 := (p1.set_ 0 (.slice (some ⟨g9, 0, none⟩) k cap)).far (p := ⟨w.heap.size + 1 + 1, 0, none⟩) (by dsimp only; omega) (.int .i64 ms)
            have r5 := (p5.far (p := ⟨w.heap.size + 1, 0, none⟩) (by dsimp only; omega) (.slice (some ⟨g9, 0, none⟩) k cap)).set_ 0 (.int .i64 ms)
            have r6 := (p6.far (p := ⟨w.heap.size + 1, 0, none⟩) (by dsimp only; omega) (.slice (some ⟨g9, 0, none⟩) k cap)).far (p := ⟨w.heap.size + 1 + 1, 0, none⟩) (by dsimp only; omega) (.int .i64 ms)
            have r7 := (p7.far (p := ⟨w.heap.size + 1, 0, none⟩) (by dsimp only; omega) (.slice (some ⟨g9, 0, none⟩) k cap)).far (p := ⟨w.heap.size + 1 + 1, 0, none⟩) (by dsimp only; omega) (.int .i64 ms)
            have r8 := (p8.setCell (p := ⟨w.heap.size + 1, 0, none⟩) (by dsimp only; omega) (.slice (some ⟨g9, 0, none⟩) k cap)).setCell (p := ⟨w.heap.size + 1 + 1, 0, none⟩) (by dsimp only; omega) (.int .i64 ms)
            have r2 := ownsRow_setCell (ownsRow_setCell (ownsRow_base hown (show w.heap.size + 1 + 1 + 1 ≤ W9.heap.size by omega)) (p := ⟨w.heap.size + 1, 0, none⟩) (fun e => by simp [Value.ownBlock] at e; omega) (.slice (some ⟨g9, 0, none⟩) k cap)) (p := ⟨w.heap.size + 1 + 1, 0, none⟩) (fun e => by simp [Value.ownBlock] at e; omega) (.int .i64 ms)
            have rL : AllL a.gs (some ⟨bA, oA, none⟩) S k ca ns cs ga ((W10.setCell ⟨w.heap.size + 1, 0, none⟩ (.slice (some ⟨g9, 0, none⟩) k cap)).setCell ⟨w.heap.size + 1 + 1, 0, none⟩ (.int .i64 ms)) :=
              ⟨(hL.1.far (by dsimp only; omega) _).far (by dsimp only; omega) _, (hL.2.setFar (by dsimp only; omega) _).setFar (by dsimp only; omega) _⟩
            have rn := (hn.trans (nc_setCell W10 ⟨w.heap.size + 1, 0, none⟩ (.slice (some ⟨g9, 0, none⟩) k cap) (by dsimp only; omega))).trans (nc_setCell _ ⟨w.heap.size + 1 + 1, 0, none⟩ (.int .i64 ms) (by dsimp only; omega))
            simp only [List.setIfInBounds_toArray, List.set_cons_zero, List.set_cons_succ] at r1 r5
            obtain ⟨c1, f1, l1⟩ := p1.rules
            obtain ⟨c3, f3, l3⟩ := p5.rules
            gi_wp2_with fail
            clear c1 f1 l1 c3 f3 l3
            generalize (W10.setCell ⟨w.heap.size + 1, 0, none⟩ (.slice (some ⟨g9, 0, none⟩) k cap)).setCell ⟨w.heap.size + 1 + 1, 0, none⟩ (.int .i64 ms) = Wf at *
            refine ⟨rn, ⟨some ⟨g9, 0, none⟩, k, cap, r1, ?_, (fun e => by simp [Value.ownBlock] at e; omega), ?_, ?_, r6, r7, r8⟩, rL⟩
            · rw [hbs.out, hbet.out, if_pos hlt]; exact r2
            · rw [hbs.out, hbet.out, if_pos hlt]; exact hll
            · rw [hbs.out, hbet.out, if_pos hlt]; exact r5
          · have hgt : ¬ ms > bq.2 := hlt
            have hge : ms ≤ bq.2 := by omega
            have hI9 : WorI a (some ⟨bA, oA, none⟩) k ca g6 g10 (WI.heap.size + 2) w (q + 1) W9 := by
              refine ⟨O, no, co, p1, ?_, p3, ?_, ?_, p6, p7, p8⟩
              · rw [hbs.out, hbet.out, if_neg hlt]; exact p2
              · rw [hbs.out, hbet.out, if_neg hlt]; exact p4
              · rw [hbs.out, hbet.out, if_neg hlt]; exact p5
            clear p1 p2 p3 p4 p5 p6 p7 p8
            gi_wp2_with fail
            exact ⟨hn, hI9, hL⟩
  · have hno : Hid (worstR a = ([], 0, 50)) := by show _ = _; unfold worstR; rw [if_neg ha]
    rw [show chkArr a = 50 from by unfold chkArr; rw [if_neg ha]] at hck
    refine (callsIn_wide (n := 9)).1 ?_
    refine callsIn_of_wp_marks Tryz.func38 rfl trivial ?_ rfl
    simp only [Tryz.ntmps38, List.size_toArray, List.length_cons, List.length_nil, Nat.reduceAdd, Nat.reduceSub, Array.replicate_succ, Array.replicate_zero, List.push_toArray, List.append_toArray, List.nil_append, List.cons_append]
    gi_wp2_with fail
    rw [← hw1]
    clear hw1
    obtain ⟨c1, f1, l1⟩ := k1.rules
    gi_wp2_with fail
    refine ⟨trivial, ?_⟩
    refine (callsIn_wide.2 (hck _ hS1 hG1)).mono ?_
    rintro e W2 ⟨rfl, hb⟩
    clear c1 f1 l1 hck
    replace k2 := k2.below hb
    replace k3 := k3.below hb
    replace b := b.trans (hb.mono b.size)
    clear hb
    have k2z := (k2.set_ 0 (.slice none 0 0)).far (p := ⟨w.heap.size + 1 + 1, 0, none⟩) (by dsimp only; omega) (.int .i64 0)
    have k3z := (k3.far (p := ⟨w.heap.size + 1, 0, none⟩) (by dsimp only; omega) (.slice none 0 0)).set_ 0 (.int .i64 0)
    have bz := (b.setCell (p := ⟨w.heap.size + 1, 0, none⟩) (by dsimp only; omega) (.slice none 0 0)).setCell (p := ⟨w.heap.size + 1 + 1, 0, none⟩) (by dsimp only; omega) (.int .i64 0)
    simp only [List.setIfInBounds_toArray, List.set_cons_zero, List.set_cons_succ] at k2z k3z
    obtain ⟨c2, f2, l2⟩ := k2.rules
    obtain ⟨c3, f3, l3⟩ := k3.rules
    gi_wp2_with fail
    clear c2 f2 l2 c3 f3 l3
    generalize (W2.setCell ⟨w.heap.size + 1, 0, none⟩ (.slice none 0 0)).setCell ⟨w.heap.size + 1 + 1, 0, none⟩ (.int .i64 0) = Wz at *
    obtain ⟨c2, f2, l2⟩ := k2z.rules
    obtain ⟨c3, f3, l3⟩ := k3z.rules
    refine ⟨.tuple #[.slice none 0 0, .int .i64 0, .int .i64 50], by simp [results, Tryz.results38, go_sem, c2, c3], ?_⟩
    exact ⟨none, 0, 0, by rw [hno.out], by rw [hno.out]; exact SlAt.nil _ _ _ _, bz⟩
end Go.Proofs.YtfengddpfeneiaaGreat
