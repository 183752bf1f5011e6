/-
  Shots, walks: Pace.
-/
import Derived.Test.YtfengddpfeneiaaGreatS6
import Derived.Test.YtfengddpfeneiaaGreatS5
namespace Go.Proofs.YtfengddpfeneiaaGreat
open Go.RowKit Go.Shelf
set_option linter.unusedSimpArgs false
set_option linter.unusedVariables false

set_option maxHeartbeats 1000000 in
theorem index_sht (p : Sht → Bool) (A : Option Addr) (n c B g : Nat) (lb : Array Value) (eg : ∀ args w, (callFunc g args).run Tryz.prog w = .ok (.enter g args) w) (xs : List Sht) (w : World)
    (hp : PredB g lb (fun x => Value.agg #[.int .i64 x.tick, .int .i64 x.src, .bool x.weak]) p w) (hs : SlAt w B 3 Sht.cells A n c xs) :
    Calls Tryz.prog 137 #[.slice A n c, .func (.func g) #[] lb] w fun e w' => e = .returned (.int .i64 (idxf p xs 0)) ∧ Below w.heap.size w w' := by
  have hn := hs.le
  have hl := Lib.hid hs.len
  go_enter Tryz.func137, Tryz.ntmps137
  go_wp2
  go_loopw [8] (fun i wr => ∃ k : Nat, i = .int .i64 k ∧ k ≤ n ∧ noneTo p xs k ∧ Below w.heap.size w wr) (fun i wr => n - (intOf i).toNat)
  case atStart => exact ⟨0, rfl, Nat.zero_le _, by simp [noneTo], Below.refl _ _⟩
  case round =>
    obtain ⟨k, rfl, hk, hno, hb⟩ := hrel
    by_cases hlt : k < n
    · obtain ⟨x, hx⟩ := some_of_lt hl.out hlt
      have hcall := hp wr x hb
      obtain ⟨b, off, rfl, -, hbl, c0, c1, c2⟩ := (hs.keep hb.size (fun _ _ h => hb.cell h)).sht hx
      replace hx := Lib.hid hx
      clear hs hp
      cases hq : p x with
      | true =>
        rw [hq] at hcall
        replace hq := Lib.hid hq
        go_wp2_with (go_at_fn g; refine hcall.mono ?_; rintro e w' ⟨rfl, hb'⟩)
        go_ret
        exact ⟨ret_int (by rw [idxf_hit p xs 0 k x hx.out hq.out hno]; omega), hb.trans (hb'.mono hb.size)⟩
      | false =>
        rw [hq] at hcall
        replace hq := Lib.hid hq
        go_wp2_with (go_at_fn g; refine hcall.mono ?_; rintro e w' ⟨rfl, hb'⟩)
        go_roundw
        case rel => exact ⟨k + 1, by go_num, by omega, noneTo_succ hno hx.out hq.out, hb.trans (hb'.mono hb.size)⟩
        case measure => simp [intOf]; omega
    · go_wp2
      go_ret
      exact ⟨ret_int (by rw [idxf_miss p xs 0 (noneTo_all hno (by have := hl.out; omega))]), hb⟩
set_option maxHeartbeats 1000000 in
theorem contains_sht (p : Sht → Bool) (A : Option Addr) (n c B g : Nat) (lb : Array Value) (eg : ∀ args w, (callFunc g args).run Tryz.prog w = .ok (.enter g args) w) (xs : List Sht) (w : World)
    (hp : PredB g lb (fun x => Value.agg #[.int .i64 x.tick, .int .i64 x.src, .bool x.weak]) p w) (hs : SlAt w B 3 Sht.cells A n c xs) :
    Calls Tryz.prog 98 #[.slice A n c, .func (.func g) #[] lb] w fun e w' => e = .returned (.bool (xs.any p)) ∧ Below w.heap.size w w' := by
  go_enter Tryz.func98, Tryz.ntmps98
  go_wp2_with (go_at_call 137; refine (index_sht p A n c B g lb eg xs _ hp hs).mono ?_; rintro e w' ⟨rfl, hb'⟩)
  go_ret
  exact ⟨ret_bool (idxf_any p xs 0), hb'⟩
set_option maxHeartbeats 400000 in
theorem pace1_any (w : World) : PredB 99 #[] (fun x : Sht => Value.agg #[.int .i64 x.tick, .int .i64 x.src, .bool x.weak]) (fun x => x.weak) w := by
  intro W x hb
  show Calls Tryz.prog 99 #[.agg #[.int .i64 x.tick, .int .i64 x.src, .bool x.weak]] W _
  go_enter Tryz.func99, Tryz.ntmps99
  go_wp2
  go_ret
  exact ⟨rfl, (Below.refl _ _).alloc (Nat.le_refl _) _⟩
theorem eg_pace1 : Enters Tryz.prog 99 := enters_of Tryz.func99 (by kernel_rfl) rfl
theorem paceW_len (v : Int) : (paceW v).length = 512 := by simp [paceW]
theorem paceTo_succ (f : Fir) (v : Nat) : paceTo f (v + 1) = if anyWeak f ((v : Int) + 1) = true then paceTo f v else ((v : Int) + 1, 0) := rfl
set_option maxRecDepth 100000 in
set_option maxHeartbeats 2000000 in
theorem Pace_any (f : Fir) (w : World) :
    Calls Tryz.prog 44 #[.agg #[.int .i64 f.start, .int .i64 f.every, .int .i64 f.srcs, .int .i64 f.shots, .int .i64 f.charge]] w fun e w' => e = .returned (.tuple #[.int .i64 (paceR f).1, .int .i64 (paceR f).2]) ∧ Below w.heap.size w w' := by
  have h1 := fun W => sCheckFiring_any f W
  obtain ⟨w1, hw1⟩ : ∃ w1, w1 = w.alloc (.cells #[.int .i64 f.start, .int .i64 f.every, .int .i64 f.srcs, .int .i64 f.shots, .int .i64 f.charge] 47) := ⟨_, rfl⟩
  have k3 : Blk w1 w.heap.size 47 #[.int .i64 f.start, .int .i64 f.every, .int .i64 f.srcs, .int .i64 f.shots, .int .i64 f.charge] := by rw [hw1]; exact Blk.new _ _ _
  have b : Below w.heap.size w w1 := by rw [hw1]; exact (Below.refl _ _).alloc (Nat.le_refl _) _
  unfold chkFir at h1
  unfold paceR
  by_cases hf : okFir f = true
  · rw [if_pos hf] at *
    have hfi := Lib.hid (fun l A n c B W h => fire_any f (okFir_is hf) l A n c B W h)
    have hcf := Lib.hid (fun xs A n c B W h => contains_sht (fun x => x.weak) A n c B 99 #[] eg_pace1 xs W (pace1_any W) h)
    obtain ⟨i0, hi0, hz0, hz1, hz2⟩ := info_parts Tryz.infoInt
    have hc1 := Lib.hid (show i0.bytes * 512 ≤ 281474976710656 by rw [hz2]; omega)
    have hc2 := Lib.hid (show 512 ≤ maxLen by unfold maxLen; omega)
    go_enter Tryz.func44, Tryz.ntmps44
    go_wp2_with fail
    rw [← hw1]
    clear hw1
    obtain ⟨c3, f3, l3⟩ := k3.rules
    go_wp2_with fail
    refine (h1 _).mono ?_
    rintro e W ⟨rfl, hb⟩
    clear c3 f3 l3 h1
    replace k3 := k3.below hb
    replace b := b.trans (hb.mono b.size)
    clear hb
    go_wp2_with fail
    go_loopw [5] (fun i wr => ∃ v : Nat, i = .int .i64 (v : Int) ∧ v ≤ 1000 ∧ paceTo f 1000 = paceTo f v ∧ Below W.heap.size W wr) (fun i wr => (intOf i).toNat)
    case atStart => exact ⟨1000, rfl, Nat.le_refl _, rfl, Below.refl _ _⟩
    case round =>
      obtain ⟨v, rfl, hv, hpt, hb⟩ := hrel
      replace hpt := Lib.hid hpt
      cases v with
      | zero =>
        have hz : ¬ (((0 : Nat) : Int) ≥ 1) := by omega
        go_wp2_with fail
        go_ret2
        exact ⟨by rw [hpt.out]; rfl, b.trans (hb.mono b.size)⟩
      | succ v =>
        rw [paceTo_succ f v] at hpt
        have hx1 : ((v + 1 : Nat) : Int) = (v : Int) + 1 := by omega
        rw [hx1]
        have hge : (v : Int) + 1 ≥ 1 := by omega
        obtain ⟨wv, hwv⟩ : ∃ x, x = wr := ⟨_, rfl⟩
        rw [← hwv] at hb
        rw [← hwv]
        clear hwv
        go_wp2_with (at_make; refine wpList_make_full _ rfl _ _ 36 rfl wv.heap.size 3 i0 (.int .i64 0) 1 Tryz.underlying36 hi0 hz0 hz1 _ _ _ _ 512 rfl rfl rfl rfl hc1.out hc2.out (Nat.le_refl _) ?_; intro w1 hown hgrow)
        have hown0 : w1.ownsRow wv.heap.size 3 1 (.slice (some ⟨wv.heap.size, 0, none⟩) 512 512) 512 ((fillTo (paceW ((v : Int) + 1)) 0 0).map (Value.int .i64)) := by
          rw [fillTo_zero, paceW_len, List.map_replicate]
          rw [madeCells_int] at hown
          exact hown
        have hb1 : Below wv.heap.size wv w1 := (Below.refl _ _).grown hgrow (Nat.le_refl _) (fun k e => by cases e)
        clear hown hgrow
        go_loopw [20] (fun i wr => ∃ k : Nat, i = .int .i64 (k : Int) ∧ k ≤ 512 ∧ wr.ownsRow wv.heap.size 3 1 (.slice (some ⟨wv.heap.size, 0, none⟩) 512 512) 512 ((fillTo (paceW ((v : Int) + 1)) k 0).map (Value.int .i64)) ∧ Below wv.heap.size wv wr) (fun i wr => 512 - (intOf i).toNat)
        case atStart => exact ⟨0, rfl, Nat.zero_le _, hown0, hb1⟩
        case round =>
          clear hown0 hb1
          obtain ⟨k, rfl, hk, hown, hb2⟩ := hrel
          by_cases hlt : k < 512
          · have hk0 : (0 : Int) ≤ (k : Int) := by omega
            have hk1 : (k : Int) < 512 := by omega
            have hget : (paceW ((v : Int) + 1))[k]? = some (((v : Int) + 1) * (k : Int)) := mapRange_at _ hlt
            have hmb := mul_bd ((v : Int) + 1) (k : Int) 1000 512 (by omega) (by omega) (by omega) (by omega) (by omega)
            have u1 := IntWalk.i64_in (((v : Int) + 1) * (k : Int)) (by omega)
            obtain ⟨v0, hcc⟩ := own_cell hown (j := k) (by omega)
            have hfr := hown.frozenAt k
            have hown3 := Lib.hid ((hown.stored k (.int .i64 (((v : Int) + 1) * (k : Int)))).1)
            rw [← List.map_set, fillTo_set hget] at hown3
            have hbz := hb2.setCell (p := ⟨wv.heap.size, k, none⟩) (Nat.le_refl _) (.int .i64 (((v : Int) + 1) * (k : Int)))
            clear hmb hget
            go_wp2_with fail
            go_roundw
            case rel => exact ⟨k + 1, by go_num, by omega, hown3.out, hbz⟩
            case measure => simp [intOf]; omega
          · obtain rfl : k = 512 := by omega
            have hL' := paceW_len ((v : Int) + 1)
            obtain ⟨O, co, e1, hO⟩ := SlAt.of_own (enc := ivs) hown (by omega) (paceW ((v : Int) + 1)) (by rw [flatMap_ivs, fillTo_len 0 hL']) (fun _ => rfl) hL'
            simp only [Value.slice.injEq, true_and] at e1
            obtain ⟨rfl, rfl⟩ := e1
            have hb3 := hb.trans (hb2.mono hb.size)
            have k3r := k3.below hb3
            have hfv := fun W h => hfi.out (paceW ((v : Int) + 1)) (some ⟨wv.heap.size, 0, none⟩) 512 512 wv.heap.size W h
            obtain ⟨c3, f3, l3⟩ := k3r.rules
            clear hown hL'
            go_wp2_with fail
            refine (hfv _ hO).mono ?_
            rintro e Wf ⟨P, pc, rfl, hP, hbf⟩
            clear hfv hO c3 f3 l3
            have hb4 := hb3.trans (hbf.mono hb3.size)
            have hcv := fun W h => hcf.out (shotL f (paceW ((v : Int) + 1))) P f.shots.toNat pc wr.heap.size W h
            rw [show (shotL f (paceW ((v : Int) + 1))).any (fun x => x.weak) = anyWeak f ((v : Int) + 1) from rfl] at hcv
            have hdec := IntWalk.i64_in ((v : Int) + 1 - 1) (by omega)
            cases hw : anyWeak f ((v : Int) + 1) with
            | true =>
              rw [hw] at hpt
              simp only [if_true] at hpt
              simp only [hw] at hcv
              go_wp2_with fail
              refine (hcv _ hP).mono ?_
              rintro e Wg ⟨rfl, hbg⟩
              clear hcv hP
              go_wp2_with fail
              go_roundw
              case rel => exact ⟨v, by go_num, by omega, hpt.out, hb4.trans (hbg.mono hb4.size)⟩
              case measure => simp [intOf]
            | false =>
              rw [hw] at hpt
              simp only [Bool.false_eq_true, if_false] at hpt
              simp only [hw] at hcv
              go_wp2_with fail
              refine (hcv _ hP).mono ?_
              rintro e Wg ⟨rfl, hbg⟩
              clear hcv hP
              go_wp2_with fail
              go_ret2
              exact ⟨by rw [hpt.out]; rfl, b.trans ((hb4.trans (hbg.mono hb4.size)).mono b.size)⟩
  · rw [if_neg hf] at *
    go_enter Tryz.func44, Tryz.ntmps44
    go_wp2_with fail
    rw [← hw1]
    clear hw1
    obtain ⟨c3, f3, l3⟩ := k3.rules
    go_wp2_with fail
    refine (h1 _).mono ?_
    rintro e W ⟨rfl, hb⟩
    go_wp2_with fail
    go_ret2
    exact ⟨rfl, b.trans (hb.mono b.size)⟩
end Go.Proofs.YtfengddpfeneiaaGreat
