/-
  Shots, walks: Worst of the specification.
-/
import Derived.Test.YtfengddpfeneiaaS50
import Derived.Test.YtfengddpfeneiaaS41
namespace Go.Proofs.Ytfengddpfeneiaa
open Go.RowKit Go.Shelf
set_option linter.unusedSimpArgs false
set_option linter.unusedVariables false

theorem try_all (a : Arr) (ha : okArr a = true) (gx B0 : Nat) (S G : Option Addr) (ns cs ng cg : Nat) (hxS : apartB gx S) (hxG : apartB gx G) : ∀ m, TryFor a gx B0 S G ns cs ng cg m
  | 0 => try_zero a ha gx B0 S G ns cs ng cg
  | m + 1 => try_succ a ha gx B0 S G ns cs ng cg hxS hxG m (try_all a ha gx B0 S G ns cs ng cg hxS hxG m)
theorem foldl_better_pos {a : Arr} (h : okArr a = true) : ∀ (L : List (List Int)) (st : List Int × Int), 0 ≤ st.2 ∧ st.2 ≤ 2000000000 → 0 ≤ (L.foldl (better a) st).2
  | [], st, hs => hs.1
  | l :: L, st, hs => foldl_better_pos h L _ (better_pos h l ⟨by omega, hs.2⟩)
theorem worst_pos {a : Arr} (h : okArr a = true) : 0 ≤ (worstS a).2 := by
  unfold worstS
  have h0 := allD_first a.gs (fun g hg => (okArr_gun h hg).2.2.2.2.2.1)
  cases hL : allD a.gs with
  | nil => rw [hL] at h0; simp at h0
  | cons l L => exact foldl_better_pos h L _ (better_pos h l ⟨by decide, by decide⟩)
theorem min_step {M w : Int} (hM : 0 ≤ M) (hw : 1 ≤ w) : min 5000 (min 5000 M * w) = min 5000 (M * w) := by
  by_cases h : M ≤ 5000
  · rw [show min 5000 M = M from by omega]
  · rw [show min 5000 M = 5000 from by omega]
    have h1 : 5000 * w ≤ M * w := Int.mul_le_mul_of_nonneg_right (by omega) (by omega)
    omega
set_option maxRecDepth 100000 in
set_option maxHeartbeats 4000000 in
theorem RWorst_any (a : Arr) (S G : Option Addr) (ns cs ng cg : Nat) (w : World) (hS : SlAt w 0 1 ivs S ns cs a.sh) (hG : SlAt w 0 4 Gun.cells G ng cg a.gs) :
    Calls Try.prog 22 #[.agg #[.slice S ns cs, .slice G ng cg]] w (RetWo a w) := by
  have hsl := Lib.hid hS.len
  have hgl := Lib.hid hG.len
  have hck := fun W h1 h2 => RCheckA_any a S G ns cs ng cg W h1 h2
  obtain ⟨w1, hw1⟩ : ∃ w1, w1 = w.alloc (.cells #[.slice S ns cs, .slice G ng cg] 25) := ⟨_, rfl⟩
  have k3 : Blk w1 w.heap.size 25 #[.slice S ns cs, .slice G ng cg] := by rw [hw1]; exact Blk.new _ _ _
  have b : Below w.heap.size w w1 := by rw [hw1]; exact (Below.refl _ _).alloc (Nat.le_refl _) _
  have hS1 : SlAt w1 0 1 ivs S ns cs a.sh := by rw [hw1]; exact hS.alloc _
  have hG1 : SlAt w1 0 4 Gun.cells G ng cg a.gs := by rw [hw1]; exact hG.alloc _
  clear hS hG
  by_cases ha : okArr a = true
  · rw [show chkArr a = 0 from by unfold chkArr; rw [if_pos ha]] at hck
    have har := okArr_len ha
    unfold arrLen at har
    rw [hsl.out, hgl.out] at har
    obtain ⟨r1, r2, r3, r4⟩ := har
    have hgo := Lib.hid (fun (g : Gun) (h : g ∈ a.gs) => okArr_gun ha h)
    have hty := Lib.hid (fun gx (hx1 : apartB gx S) (hx2 : apartB gx G) => try_all a ha gx (gx + 1) S G ns cs ng cg hx1 hx2 ng)
    have hwp := Lib.hid (worst_pos ha)
    have hall := Lib.hid (fD_all a)
    have hmin := min2_int
    have hwr1 : manyTo a ng ≤ 4096 → worstR a = ((worstS a).1, (worstS a).2, 0) := fun h => by unfold worstR; rw [if_pos ha, hgl.out, if_pos h]
    have hwr2 : ¬ manyTo a ng ≤ 4096 → worstR a = ([], 0, 3) := fun h => by unfold worstR; rw [if_pos ha, hgl.out, if_neg h]
    replace hwr1 := Lib.hid hwr1
    replace hwr2 := Lib.hid hwr2
    clear ha
    go_enter Try.func22, Try.ntmps22
    go_wp2_with fail
    rw [← hw1]
    clear hw1
    obtain ⟨c3, f3, l3⟩ := k3.rules
    go_wp2_with fail
    refine (hck _ hS1 hG1).mono ?_
    rintro e W ⟨rfl, hb⟩
    clear c3 f3 l3 hck
    replace k3 := k3.below hb
    replace b := b.trans (hb.mono b.size)
    replace hS1 := hS1.below hb
    replace hG1 := hG1.below hb
    clear hb
    go_wp2_with fail
    go_loopw [6, 7] (fun v i wr => ∃ k : Nat, i = .int .i64 (k : Int) ∧ k ≤ ng ∧ v = .int .i64 (min 5000 (manyTo a k : Int)) ∧ Below W.heap.size W wr) (fun v i wr => ng - (intOf i).toNat)
    case atStart => exact ⟨0, rfl, Nat.zero_le _, rfl, Below.refl _ _⟩
    case round =>
      obtain ⟨k, rfl, hk, rfl, hb⟩ := hrel
      have k3r := k3.below hb
      obtain ⟨c3, f3, l3⟩ := k3r.rules
      by_cases hlt : k < ng
      · have hk0 : (0 : Int) ≤ (k : Int) := by omega
        have hk1 : (k : Int) < (ng : Int) := by omega
        obtain ⟨x, hx⟩ := some_of_lt hgl.out hlt
        obtain ⟨-, -, -, -, x1, x2, x3⟩ := hgo.out x (List.mem_of_getElem? hx)
        obtain ⟨bG, oG, hA, -, hbG, -, -, e2, e3⟩ := (hG1.below hb).gun hx
        have hmn : (manyTo a (k + 1) : Int) = (manyTo a k : Int) * (x.late.hi - x.late.lo + 1) := by
          have h1 : manyTo a (k + 1) = manyTo a k * widS x := by rw [manyTo]; congr 2; rw [List.getD_eq_getElem?_getD, hx]; rfl
          rw [h1]; push_cast
          rw [(widS_pos x2).2]
          congr 1; omega
        have hnx := min_step (M := (manyTo a k : Int)) (w := x.late.hi - x.late.lo + 1) (by omega) (by omega)
        rw [← hmn] at hnx
        have hcz : 0 ≤ min 5000 (manyTo a k : Int) ∧ min 5000 (manyTo a k : Int) ≤ 5000 := by omega
        generalize min 5000 (manyTo a k : Int) = cz at *
        generalize x.late.hi = hi at *
        generalize x.late.lo = lo at *
        have u1 := IntWalk.i64_in (hi - lo) (by omega)
        have u2 := IntWalk.i64_in (hi - lo + 1) (by omega)
        have hb9 := mulBd (a := cz) (b := hi - lo + 1) (A := 5000) (B := 33) (by omega) (by omega) (by omega) (by omega)
        have u3 := IntWalk.i64_in (cz * (hi - lo + 1)) (by omega)
        replace hA := Lib.hid hA
        have hAA := hA.out
        subst hAA
        replace hx := Lib.hid hx
        replace hnx := Lib.hid hnx
        clear hmn hb9
        go_wp2_with fail
        go_quiet (fail)
        go_wp2_with fail
        go_roundw
        case rel => exact ⟨k + 1, by go_num, by omega, by rw [← hnx.out], below_drewN hb _⟩
        case measure => simp [intOf]; omega
      · obtain rfl : k = ng := by omega
        have hmp : (0 : Int) ≤ (manyTo a k : Int) := by omega
        by_cases hmy : manyTo a k ≤ 4096
        · have hval := hwr1.out hmy
          replace hval := Lib.hid hval
          have hgt : (4096 < min 5000 (manyTo a k : Int)) = False := eq_false (by omega)
          generalize min 5000 (manyTo a k : Int) = cz at *
          replace b := b.trans (hb.mono b.size)
          have hwb0 := b.size
          replace hS1 := hS1.below hb
          replace hG1 := hG1.below hb
          have hxS : apartB wr.heap.size S := fun q o e h => by have := (hS1.blk (by omega) q o e).2; omega
          have hxG : apartB wr.heap.size G := fun q o e h => by have := (hG1.blk (by omega) q o e).2; omega
          have hty2 := hty.out wr.heap.size hxS hxG
          unfold TryFor at hty2
          have kx := Blk.new wr 122 #[.slice S ns cs, .slice G k cg, .slice none 0 0, .int .i64 0]
          have hbx : Below wr.heap.size wr (wr.alloc (.cells #[.slice S ns cs, .slice G k cg, .slice none 0 0, .int .i64 0] 122)) := (Below.refl _ _).alloc (Nat.le_refl _) _
          have hxz : (wr.alloc (.cells #[.slice S ns cs, .slice G k cg, .slice none 0 0, .int .i64 0] 122)).heap.size = wr.heap.size + 1 := by simp
          have htr := hty2 [] none 0 0 ([], -1) (wr.alloc (.cells #[.slice S ns cs, .slice G k cg, .slice none 0 0, .int .i64 0] 122)) (hS1.below hbx) (hG1.below hbx) (.inl ⟨rfl, kx⟩) (SlAt.nil _ _ _ _) (fun j => by simp) (by omega) (by omega) (by omega) (fun h => absurd h (by omega))
          rw [List.drop_zero, hall.out] at htr
          replace hxz := Lib.hid hxz
          clear hty2 hb hxS hxG kx
          go_wp2_with fail
          refine htr.mono ?_
          rintro e W5 ⟨⟨v5, rfl⟩, hLk, hfr⟩
          clear htr c3 f3 l3
          have hb5 : Below wr.heap.size wr W5 := ⟨hfr.1.trans hbx.os, hfr.2.1.trans hbx.tape, hfr.2.2.1.trans hbx.output, by have := hfr.2.2.2.1; have := hbx.size; omega, fun q hq => (hfr.2.2.2.2 q (by have := hxz.out; omega) (by omega) (by simp)).trans (hbx.block q hq)⟩
          clear hbx hfr
          replace b := b.trans (hb5.mono b.size)
          rcases hLk with ⟨h0, -⟩ | ⟨h1, h2, g, d, kx, hV, hgx⟩
          · have := hwp.out
            rw [h0] at this
            exact absurd this (by decide)
          have hwb := b.size
          have hrb := hb5.size
          clear hb5
          generalize hws : worstS a = ws at *
          obtain ⟨wl, wm⟩ := ws
          dsimp only at *
          replace hws := Lib.hid hws
          obtain ⟨cx, fx, lx⟩ := kx.rules
          go_wp2_with fail
          go_quiet (fail)
          go_wp2_with fail
          go_ret3
          exact ⟨some ⟨g, 0, none⟩, k, d, by rw [hval.out]; rfl, by rw [hval.out]; exact (hV.drewN _).mono (by omega), below_drewN b _⟩
        · have hval := hwr2.out hmy
          replace hval := Lib.hid hval
          have hgt : (4096 < min 5000 (manyTo a k : Int)) = True := eq_true (by omega)
          generalize min 5000 (manyTo a k : Int) = cz at *
          go_wp2_with fail
          go_ret3
          exact ⟨none, 0, 0, by rw [hval.out]; rfl, by rw [hval.out]; exact SlAt.nil _ _ _ _, b.trans (hb.mono b.size)⟩
  · have hno : worstR a = ([], 0, 50) := by unfold worstR; rw [if_neg ha]
    rw [show chkArr a = 50 from by unfold chkArr; rw [if_neg ha]] at hck
    replace hno := Lib.hid hno
    go_enter Try.func22, Try.ntmps22
    go_wp2_with fail
    rw [← hw1]
    clear hw1
    obtain ⟨c3, f3, l3⟩ := k3.rules
    go_wp2_with fail
    refine (hck _ hS1 hG1).mono ?_
    rintro e W ⟨rfl, hb⟩
    clear c3 f3 l3 hck
    replace k3 := k3.below hb
    replace b := b.trans (hb.mono b.size)
    replace hS1 := hS1.below hb
    replace hG1 := hG1.below hb
    clear hb
    go_wp2_with fail
    go_ret3
    exact ⟨none, 0, 0, by rw [hno.out]; rfl, by rw [hno.out]; exact SlAt.nil _ _ _ _, b⟩
end Go.Proofs.Ytfengddpfeneiaa
