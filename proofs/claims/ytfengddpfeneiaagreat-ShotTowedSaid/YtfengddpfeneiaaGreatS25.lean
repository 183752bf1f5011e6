/-
  Shots, walks: Losses: the least losses that hurt.
-/
import Derived.Test.YtfengddpfeneiaaGreatS24
import Derived.Deep.Cut
namespace Go.Proofs.YtfengddpfeneiaaGreat
open Go.RowKit Go.Shelf
set_option linter.unusedSimpArgs false
set_option linter.unusedVariables false

def RetLo (r : List (List Int) × Int) (w : World) (e : Ending) (w' : World) : Prop :=
  ∃ O no co, e = .returned (.tuple #[.slice O no co, .int .i64 r.2]) ∧ LLs w' w.heap.size O no co r.1 ∧ Below w.heap.size w w'
theorem RetLo.none_ {er : Int} {w w' : World} (hb : Below w.heap.size w w') : RetLo ([], er) w (.returned (.tuple #[.slice none 0 0, .int .i64 er])) w' := ⟨none, 0, 0, rfl, LLs.nil _ _, hb⟩
theorem SrFr.toBelow {g B : Nat} {row : Option Nat} {W W' : World} (h : SrFr g row W W') (hB : B ≤ W.heap.size) (hg : B ≤ g) (hr : ∀ b, row = some b → B ≤ b) : Below B W W' :=
  ⟨h.1, h.2.1, h.2.2.1, h.2.2.2.1, fun k hk => h.2.2.2.2 k (by omega) (by omega) (fun e => by have := hr k e; omega)⟩
set_option maxRecDepth 100000 in
set_option maxHeartbeats 4000000 in
theorem Losses_any (a : Arr) (limit most : Int) (S G : Option Addr) (ns cs ng cg : Nat) (w : World) (hS : SlAt w 0 1 ivs S ns cs a.sh) (hG : SlAt w 0 4 Gun.cells G ng cg a.gs) :
    Calls Tryz.prog 39 #[.agg #[.slice S ns cs, .slice G ng cg], .int .i64 limit, .int .i64 most] w (RetLo (lossR a limit most) w) := by
  have hsl := Lib.hid hS.len
  have hgl := Lib.hid hG.len
  have hck := fun W h1 h2 => sCheck_any a S G ns cs ng cg W h1 h2
  obtain ⟨w1, hw1⟩ : ∃ w1, w1 = (w.alloc (.cells #[.slice S ns cs, .slice G ng cg] 83)).alloc (.cells #[.int .i64 limit] 3) := ⟨_, rfl⟩
  have k3 : Blk w1 w.heap.size 83 #[.slice S ns cs, .slice G ng cg] := by rw [hw1]; exact (Blk.new _ _ _).alloc _
  have k4 : Blk w1 (w.heap.size + 1) 3 #[.int .i64 limit] := by rw [hw1]; exact Blk.newAt (by simp)
  have b : Below w.heap.size w w1 := by rw [hw1]; exact ((Below.refl _ _).alloc (Nat.le_refl _) _).alloc (by simp) _
  have hS1 := hS.below b
  have hG1 := hG.below b
  have hS0 := Lib.hid hS
  clear hS hG
  unfold lossR
  by_cases ha : okArr a = true
  · rw [show chkArr a = 0 from by unfold chkArr; rw [if_pos ha]] at hck
    rw [if_pos ha]
    by_cases hr : 0 ≤ limit ∧ 1 ≤ most ∧ most ≤ 3
    · rw [if_pos hr]
      obtain ⟨hr1, hr2, hr3⟩ := hr
      have hal := okArr_len ha
      unfold arrLen at hal
      rw [hsl.out, hgl.out] at hal
      obtain ⟨ha1, ha2, ha3, ha4⟩ := hal
      have hw := fun W => sWithin_yes ⟨hr2, hr3⟩ W
      have hgu := fun W h => guns_any a S G ns cs ng cg 0 W (by omega) h
      have hlz : ¬ limit < 0 := by omega
      have hlz2 : decide (limit < 0) = false := by simpa using hr1
      obtain ⟨i0, hi0, hz0, hz1, hz2⟩ := info_parts Tryz.infoInt
      have hc1 := Lib.hid (show i0.bytes * ng ≤ 281474976710656 by rw [hz2]; omega)
      have hc2 := Lib.hid (show ng ≤ maxLen by unfold maxLen; omega)
      go_enter Tryz.func39, Tryz.ntmps39
      go_wp2_with fail
      rw [← hw1]
      clear hw1
      obtain ⟨c3, f3, l3⟩ := k3.rules
      go_wp2_with fail
      refine (hck _ hS1 hG1).mono ?_
      rintro e W2 ⟨rfl, hb⟩
      clear c3 f3 l3 hck
      replace k3 := k3.below hb
      replace k4 := k4.below hb
      replace hG1 := hG1.below hb
      replace hS1 := hS1.below hb
      replace b := b.trans (hb.mono b.size)
      clear hb
      obtain ⟨c4, f4, l4⟩ := k4.rules
      go_wp2_with fail
      refine (hw _).mono ?_
      rintro e w' ⟨rfl, rfl⟩
      clear hw c4 f4 l4
      obtain ⟨c3, f3, l3⟩ := k3.rules
      go_wp2_with fail
      refine (hgu _ hG1).mono ?_
      rintro e W3 ⟨A, ca, rfl, hA, hb⟩
      clear c3 f3 l3 hgu
      have hl4 := k4.lt
      replace hA := hA.mono (show w.heap.size + 1 + 1 ≤ W2.heap.size by omega)
      replace k4 := k4.below hb
      replace b := b.trans (hb.mono b.size)
      have hg9 : w.heap.size + 1 < W3.heap.size := k4.lt
      have k9 := Blk.new W3 159 #[.slice A ng ca]
      replace k4 := k4.alloc (.cells #[.slice A ng ca] 159)
      replace hA := hA.alloc (.cells #[.slice A ng ca] 159)
      replace b := b.alloc b.size (.cells #[.slice A ng ca] 159)
      clear hb k3 hS1 hG1
      go_upto_region 7 with fail
      generalize W3.alloc (.cells #[.slice A ng ca] 159) = W4 at *
      have hl9 := k9.lt
      generalize W3.heap.size = g9 at *
      obtain ⟨c9, f9, l9⟩ := k9.rules
      go_wp2_with (at_make; refine wpList_make_full _ rfl _ _ 36 rfl W4.heap.size 3 i0 (.int .i64 0) 1 Tryz.underlying36 hi0 hz0 hz1 _ _ _ _ ng rfl rfl rfl rfl hc1.out hc2.out (Nat.le_refl _) ?_; intro w5 hown hgrow)
      clear c9 f9 l9
      have hb5 : Below W4.heap.size W4 w5 := (Below.refl _ _).grown hgrow (Nat.le_refl _) (fun k e => by cases e)
      obtain ⟨x0, hx0⟩ := some_of_lt hgl.out (show 0 < ng by omega)
      obtain ⟨bA, oA, hAA, hbA, hbA2, -⟩ := hA.pln hx0
      subst hAA
      clear hx0 x0
      have hSN := SlAt.ownQ (enc := ivs) hown (by omega) (onL a) (by rw [madeCells_int, flatMap_ivs]; unfold onL; rw [hgl.out, List.map_replicate]) (fun _ => rfl) (by unfold onL; rw [List.length_replicate]; exact hgl.out)
      have hN5 := (hown.lt W4.heap.size rfl).2
      replace k4 := k4.below hb5
      replace k9 := k9.below hb5
      replace hA := hA.below hb5
      replace b := b.trans (hb5.mono b.size)
      have hs45 := hb5.size
      clear hb5 hown hgrow
      obtain ⟨W6, hW6⟩ : ∃ W6, W6 = ((((w5.alloc (.cells #[.slice (some ⟨W4.heap.size, 0, none⟩) ng ng] 36)).alloc (.cells #[.slice none 0 0] 88)).alloc (.cells #[.func (.func 95) #[] #[.pointer (some ⟨w5.heap.size + 1, 0, none⟩)]] 134)).alloc (.cells #[.func (.func 97) #[] #[.pointer (some ⟨w5.heap.size + 1 + 1, 0, none⟩), .pointer (some ⟨g9, 0, none⟩), .pointer (some ⟨w5.heap.size, 0, none⟩), .pointer (some ⟨w.heap.size + 1, 0, none⟩), .pointer (some ⟨w5.heap.size + 1, 0, none⟩), .pointer (some ⟨w5.heap.size + 1 + 1 + 1, 0, none⟩)]] 175)) := ⟨_, rfl⟩
      rw [← hW6]
      have h6b : Below w5.heap.size w5 W6 := by rw [hW6]; exact ((((Below.refl _ _).alloc (Nat.le_refl _) _).alloc (by simp) _).alloc (by simp; omega) _).alloc (by simp; omega) _
      have k10 : Blk W6 w5.heap.size 36 #[.slice (some ⟨W4.heap.size, 0, none⟩) ng ng] := by rw [hW6]; exact (((Blk.new _ _ _).alloc _).alloc _).alloc _
      have k11 : Blk W6 (w5.heap.size + 1) 88 #[.slice none 0 0] := by rw [hW6]; exact ((Blk.newAt (by simp)).alloc _).alloc _
      have k12 : Blk W6 (w5.heap.size + 1 + 1) 134 #[.func (.func 95) #[] #[.pointer (some ⟨w5.heap.size + 1, 0, none⟩)]] := by rw [hW6]; exact (Blk.newAt (by simp)).alloc _
      have k13 : Blk W6 (w5.heap.size + 1 + 1 + 1) 175 #[.func (.func 97) #[] #[.pointer (some ⟨w5.heap.size + 1 + 1, 0, none⟩), .pointer (some ⟨g9, 0, none⟩), .pointer (some ⟨w5.heap.size, 0, none⟩), .pointer (some ⟨w.heap.size + 1, 0, none⟩), .pointer (some ⟨w5.heap.size + 1, 0, none⟩), .pointer (some ⟨w5.heap.size + 1 + 1 + 1, 0, none⟩)]] := by rw [hW6]; exact Blk.newAt (by simp)
      have hs6 : W6.heap.size = w5.heap.size + 4 := by rw [hW6]; simp
      clear hW6
      replace k4 := k4.below h6b
      replace k9 := k9.below h6b
      replace hA := hA.below h6b
      replace hSN := hSN.below h6b
      replace b := b.trans (h6b.mono b.size)
      clear h6b
      have hS6 := hS0.out.below b
      have hSb := hS0.out.blk (by omega)
      generalize w5.heap.size = g10 at *
      have hL6 : SrL ⟨g10 + 1 + 1, g9, g10, w.heap.size + 1, g10 + 1, g10 + 1 + 1 + 1⟩ a limit (some ⟨bA, oA, none⟩) S (some ⟨W4.heap.size, 0, none⟩) ng ca ns cs ng W6 :=
        ⟨k12, k9, k10, k4, k13, hA.mono (Nat.zero_le _), hS6, hSN.mono (Nat.zero_le _)⟩
      have hn6 : SrN ⟨g10 + 1 + 1, g9, g10, w.heap.size + 1, g10 + 1, g10 + 1 + 1 + 1⟩ (g10 + 4) (some ⟨bA, oA, none⟩) S (some ⟨W4.heap.size, 0, none⟩) := by
        have hg4 : W4.heap.size < g10 := hN5
        refine ⟨?_, ?_, ?_, ?_, ?_, ?_, ?_, ?_, ?_⟩
        all_goals dsimp only
        · omega
        · omega
        · omega
        · omega
        · omega
        · omega
        · intro q o e
          simp only [Option.some.injEq, Addr.mk.injEq, and_true] at e
          omega
        · intro q o e
          have := hSb q o e
          omega
        · intro q o e
          simp only [Option.some.injEq, Addr.mk.injEq, and_true] at e
          omega
      have hse := search_all _ a ha limit _ _ _ ng ca ns cs ng (g10 + 4) hn6 hgl.out
      unfold SrFor at hse
      simp only [SrB.caps] at hse
      have hO6 : OutI W6 (g10 + 1) (g10 + 4) none 0 0 (lossTo a limit 0) := ⟨k11, rfl, [], ⟨rfl, .inl ⟨rfl, rfl⟩⟩, fun i v l hv => by simp at hv⟩
      clear k4 k9 k10 k11 k12 k13 hA hS6 hSN hSb
      have hmin := min2_int
      obtain ⟨tp, htp⟩ : ∃ tp : Nat, (min most ((ng : Int) - 1)).toNat = tp := ⟨_, rfl⟩
      have htpe : min most ((ng : Int) - 1) = (tp : Int) := by omega
      have hls : Hid (lossS a limit most = lossTo a limit tp) := by show _ = _; unfold lossS; rw [hgl.out, htp]
      have un := IntWalk.i64_in ((ng : Int) - 1) (by omega)
      have htp3 : tp ≤ 3 := by omega
      replace htp := Lib.hid htp
      replace hse := Lib.hid hse
      replace hs6 := Nat.le_of_eq hs6.symm
      go_loopw [14] (fun i wr => ∃ (q : Nat) (O : Option Addr) (no co : Nat), i = .int .i64 ((q : Int) + 1) ∧ q ≤ tp ∧ OutI wr (g10 + 1) (g10 + 4) O no co (lossTo a limit q) ∧ no ≤ q * 512 ∧ SrL ⟨g10 + 1 + 1, g9, g10, w.heap.size + 1, g10 + 1, g10 + 1 + 1 + 1⟩ a limit (some ⟨bA, oA, none⟩) S (some ⟨W4.heap.size, 0, none⟩) ng ca ns cs ng wr ∧ g10 + 4 ≤ wr.heap.size ∧ Below w.heap.size w wr) (fun i wr => (4 - intOf i).toNat)
      case atStart => exact ⟨0, none, 0, 0, rfl, Nat.zero_le _, hO6, Nat.zero_le _, hL6, hs6, b⟩
      case round =>
        clear hO6 hL6 b hs6
        obtain ⟨q, O, no, co, rfl, hq, hO, hno, hL, hsz, b⟩ := hrel
        obtain ⟨c9, f9, l9⟩ := hL.ka.rules
        obtain ⟨c13, f13, l13⟩ := hL.ks.rules
        simp only [SrB.caps] at c13
        dsimp only at c9 f9 l9 c13 f13 l13
        by_cases hlt : q < tp
        · have hle : (q : Int) + 1 ≤ (tp : Int) := by omega
          have h8 : 8 ^ (q + 1) ≤ 512 := by
            have : q = 0 ∨ q = 1 ∨ q = 2 := by omega
            rcases this with rfl | rfl | rfl <;> decide
          have hno5 : no + 8 ^ (q + 1) ≤ 100000 := by omega
          have hrow : ∀ x, (Value.slice O no co).ownBlock = some x → g10 + 4 ≤ x := by
            obtain ⟨_, _, vs, h3, _⟩ := hO
            exact fun x e => (h3.lt x e).1
          have hcall := hse.out (q + 1) [] none 0 0 0 (lossTo a limit q) O no co wr hL hO (SlAt.nil _ _ _ _) (fun h => absurd h (by omega)) (by omega) (by omega) (by omega) hsz hno5
          rw [show ((q + 1 : Nat) : Int) = (q : Int) + 1 from by omega, show ((0 : Nat) : Int) = 0 from rfl, show srchS a limit (q + 1) 0 [] (lossTo a limit q) = lossTo a limit (q + 1) from rfl] at hcall
          have uq := IntWalk.i64_in ((q : Int) + 1 + 1) (by omega)
          clear hO h8
          go_wp2_with fail
          refine hcall.mono ?_
          rintro e W ⟨⟨v, rfl⟩, O3, no3, co3, hO3, hfr3, hrw3, hno3⟩
          clear hcall c9 f9 l9 c13 f13 l13
          dsimp only at hO3 hfr3
          have hsb := b.size
          have bz := b.trans (hfr3.toBelow hsb (show w.heap.size ≤ g10 + 1 by omega) (fun x e => by have := hrow x e; omega))
          have hLz := hL.keep hn6 hfr3.2.2.2.1 (hfr3.low hsz hrow)
          have hszz : g10 + 4 ≤ W.heap.size := Nat.le_trans hsz hfr3.2.2.2.1
          have hno6 : no3 ≤ (q + 1) * 512 := by
            have h8 : 8 ^ (q + 1) ≤ 512 := by
              have : q = 0 ∨ q = 1 ∨ q = 2 := by omega
              rcases this with rfl | rfl | rfl <;> decide
            omega
          clear hfr3 hrw3 hL b hno5 hno3
          go_wp2_with fail
          go_roundw
          case rel => exact ⟨q + 1, O3, no3, co3, by go_num, by omega, hO3, hno6, hLz, hszz, bz⟩
          case measure => simp [intOf]; omega
        · obtain rfl : q = tp := by omega
          have hle : ¬ (q : Int) + 1 ≤ (q : Int) := by omega
          have hend := hO.lls (by omega)
          have hw0 : w.heap.size ≤ g10 + 4 := by omega
          obtain ⟨c11, f11, l11⟩ := hO.1.rules
          have hO2 := Lib.hid hO
          clear hO
          go_wp2_with fail
          go_ret2
          exact ⟨O, no, co, rfl, by rw [hls.out]; exact hend.mono hw0, b⟩
    · rw [if_neg hr]
      by_cases hl0 : limit < 0
      · have hl1 : decide (limit < 0) = true := by simpa using hl0
        go_enter Tryz.func39, Tryz.ntmps39
        go_wp2_with fail
        rw [← hw1]
        clear hw1
        obtain ⟨c3, f3, l3⟩ := k3.rules
        go_wp2_with fail
        refine (hck _ hS1 hG1).mono ?_
        rintro e W2 ⟨rfl, hb⟩
        clear c3 f3 l3 hck
        replace k4 := k4.below hb
        replace b := b.trans (hb.mono b.size)
        clear hb
        obtain ⟨c4, f4, l4⟩ := k4.rules
        go_wp2_with fail
        go_ret2
        exact RetLo.none_ b
      · have hl1 : decide (limit < 0) = false := by simpa using hl0
        have hl2 : 0 ≤ limit := by omega
        have hw := fun W => sWithin_no (n := most) (lo := 1) (hi := 3) (fun h => hr ⟨hl2, h.1, h.2⟩) W
        replace hr := Lib.hid hr
        go_enter Tryz.func39, Tryz.ntmps39
        go_wp2_with fail
        rw [← hw1]
        clear hw1
        obtain ⟨c3, f3, l3⟩ := k3.rules
        go_wp2_with fail
        refine (hck _ hS1 hG1).mono ?_
        rintro e W2 ⟨rfl, hb⟩
        clear c3 f3 l3 hck
        replace k4 := k4.below hb
        replace b := b.trans (hb.mono b.size)
        clear hb
        obtain ⟨c4, f4, l4⟩ := k4.rules
        go_wp2_with fail
        refine (hw _).mono ?_
        rintro e w' ⟨rfl, rfl⟩
        go_wp2_with fail
        go_ret2
        exact RetLo.none_ b
  · rw [if_neg ha]
    rw [show chkArr a = 50 from by unfold chkArr; rw [if_neg ha]] at hck
    go_enter Tryz.func39, Tryz.ntmps39
    go_wp2_with fail
    rw [← hw1]
    clear hw1
    obtain ⟨c3, f3, l3⟩ := k3.rules
    go_wp2_with fail
    refine (hck _ hS1 hG1).mono ?_
    rintro e W2 ⟨rfl, hb⟩
    clear c3 f3 l3 hck
    replace b := b.trans (hb.mono b.size)
    go_wp2_with fail
    go_ret2
    exact RetLo.none_ b
end Go.Proofs.YtfengddpfeneiaaGreat
