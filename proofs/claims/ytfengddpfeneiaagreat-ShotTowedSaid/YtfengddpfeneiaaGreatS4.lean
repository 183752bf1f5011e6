/-
  Shots, walks: signatures and misfits.
-/
import Derived.Test.YtfengddpfeneiaaGreatS3
namespace Go.Proofs.YtfengddpfeneiaaGreat
open Go.RowKit Go.Shelf
set_option linter.unusedSimpArgs false
set_option linter.unusedVariables false

def noneEq (v : Int) (xs : List Int) (k : Nat) : Prop := (xs.take k).contains v = false
theorem noneEq_succ {v : Int} {xs : List Int} {k : Nat} {x : Int} (h : noneEq v xs k) (hx : xs[k]? = some x) (hne : v ≠ x) : noneEq v xs (k + 1) := by
  unfold noneEq at *
  rw [List.take_add_one, hx]
  rw [List.contains_eq_mem] at *
  simp only [decide_eq_false_iff_not] at *
  simp [h, hne]
def IdxRes (v : Int) (xs : List Int) (w : World) (e : Ending) (w' : World) : Prop := (∃ i : Int, e = .returned (.int .i64 i) ∧ decide (0 ≤ i) = xs.contains v) ∧ w = w'
set_option maxHeartbeats 1000000 in
theorem sContains_any (v : Int) (A : Option Addr) (n c B : Nat) (xs : List Int) (w : World) (hs : SlAt w B 1 ivs A n c xs) :
    Calls Tryz.prog 96 #[.slice A n c, .int .i64 v] w fun e w' => e = .returned (.bool (xs.contains v)) ∧ w = w' := by
  have hI : Calls Tryz.prog 136 #[.slice A n c, .int .i64 v] w (IdxRes v xs w) := by
    have hn := hs.le
    have hl := Lib.hid hs.len
    go_enter Tryz.func136, Tryz.ntmps136
    go_wp2
    go_loop [8] (fun i => ∃ k : Nat, i = .int .i64 k ∧ k ≤ n ∧ noneEq v xs k) (fun i => n - (intOf i).toNat)
    case atStart => exact ⟨0, rfl, Nat.zero_le _, rfl⟩
    case round =>
      obtain ⟨k, rfl, hk, hno⟩ := hrel
      by_cases hlt : k < n
      · obtain ⟨x, hx⟩ := some_of_lt hl.out hlt
        obtain ⟨b, off, rfl, -, hbl, c0⟩ := hs.int hx
        replace hx := Lib.hid hx
        replace hno := Lib.hid hno
        have hk0 : (0 : Int) ≤ (k : Int) := by omega
        have hk1 : (k : Int) < (n : Int) := by omega
        by_cases hq : v = x
        · have hq2 := Lib.hid hq
          subst hq
          go_wp2_with fail
          go_ret
          refine ⟨⟨k, rfl, ?_⟩, rfl⟩
          rw [decide_eq_true hk0, List.contains_eq_mem]
          exact (decide_eq_true (List.mem_of_getElem? hx.out)).symm
        · have hq1 : (v == x) = false := by rw [beq_eq_false_iff_ne]; exact hq
          have hq2 := Lib.hid hq
          clear hq
          go_wp2_with fail
          go_round
          case rel => exact ⟨k + 1, by go_num, by omega, noneEq_succ hno.out hx.out hq2.out⟩
          case measure => simp [intOf]; omega
      · obtain rfl : k = n := by omega
        have hv : xs.contains v = false := by unfold noneEq at hno; rw [List.take_of_length_le (by rw [hl.out]; exact Nat.le_refl _)] at hno; exact hno
        replace hv := Lib.hid hv
        clear hno
        go_wp2_with fail
        go_ret
        exact ⟨⟨-1, rfl, by rw [hv.out]; rfl⟩, rfl⟩
  go_enter Tryz.func96, Tryz.ntmps96
  go_wp2_with fail
  refine hI.mono ?_
  rintro e w' ⟨⟨i, rfl, hi⟩, rfl⟩
  clear hI
  replace hi := Lib.hid hi
  go_wp2_with fail
  go_ret
  exact ⟨ret_bool hi.out, rfl⟩
def isDel (ds : List Int) : Prop := ∀ k : Nat, -16 ≤ ds.getD k 0 ∧ ds.getD k 0 ≤ 16
set_option maxRecDepth 100000 in
set_option maxHeartbeats 2000000 in
theorem sig1_any (a : Arr) (ha : okArr a = true) (ds loss : List Int) (hds : isDel ds) (A S D L : Option Addr) (n c ns cs cd nl cl B1 B2 B3 B4 g1 g2 g3 : Nat) (w : World)
    (k1 : Blk w g1 159 #[.slice A n c]) (k2 : Blk w g2 36 #[.slice L nl cl]) (k3 : Blk w g3 36 #[.slice D n cd])
    (hA : SlAt w B1 5 (plc S ns cs) A n c a.gs) (hS : SlAt w B2 1 ivs S ns cs a.sh) (hD : SlAt w B3 1 ivs D n cd ds) (hL : SlAt w B4 1 ivs L nl cl loss) :
    FunT 133 #[.pointer (some ⟨g1, 0, none⟩), .pointer (some ⟨g2, 0, none⟩), .pointer (some ⟨g3, 0, none⟩)] (fun t => .int .i64 (sigAt a ds loss t)) 1000 w := by
  intro W t hb ht
  replace k1 := k1.below hb
  replace k2 := k2.below hb
  replace k3 := k3.below hb
  replace hA := hA.below hb
  replace hS := hS.below hb
  replace hD := hD.below hb
  replace hL := hL.below hb
  clear hb
  show Calls Tryz.prog 133 #[.int .i64 t, .pointer (some ⟨g1, 0, none⟩), .pointer (some ⟨g2, 0, none⟩), .pointer (some ⟨g3, 0, none⟩)] W _
  have hnl := Lib.hid hA.len
  have hdl := Lib.hid hD.len
  have hn := hA.le
  have hal : n ≤ 8 := by have := okArr_len ha; unfold arrLen at this; have := hA.len; omega
  have hgv := Lib.hid (fun (g : Gun) (hg : gunOk g) d (hd : -16 ≤ d ∧ d ≤ 16) V (h : SlAt V B2 1 ivs S ns cs a.sh) => gives_any a ha g hg S ns cs B2 t d V (by omega) hd h)
  have hbd := Lib.hid (fun k hk => sigTo_bd ha ds loss t k hk)
  have hgo := Lib.hid (fun (g : Gun) (h : g ∈ a.gs) => okArr_gun ha h)
  have hct := fun (i : Int) V (h : SlAt V B4 1 ivs L nl cl loss) => sContains_any i L nl cl B4 loss V h
  replace hct := Lib.hid hct
  replace hds := Lib.hid hds
  have hfin : Hid (sigAt a ds loss t = sigTo a ds loss t n) := by show _ = _; unfold sigAt; rw [hnl.out]
  obtain ⟨c1, f1, l1⟩ := k1.rules
  go_enter Tryz.func133, Tryz.ntmps133
  go_wp2_with fail
  clear c1 f1 l1
  go_loopw [6, 11] (fun v i wr => ∃ k : Nat, i = .int .i64 k ∧ k ≤ n ∧ v = .int .i64 (sigTo a ds loss t k) ∧ Below W.heap.size W wr) (fun v i wr => n - (intOf i).toNat)
  case atStart => exact ⟨0, rfl, Nat.zero_le _, rfl, Below.refl _ _⟩
  case round =>
    obtain ⟨k, rfl, hk, rfl, hb⟩ := hrel
    by_cases hlt : k < n
    · obtain ⟨x, hx⟩ := some_of_lt hnl.out hlt
      have hdk := get_getD (l := ds) (i := k) 0 (by have := hdl.out; omega)
      obtain ⟨bb, off, rfl, -, hbl, x0, x1, x2, x3, x4⟩ := (hA.below hb).pln hx
      obtain ⟨bD, oD, rfl, -, hbD, y0⟩ := (hD.below hb).int hdk
      have hxo := hgo.out x (List.mem_of_getElem? hx)
      have hd16 := hds.out k
      have hsx : Hid (sigTo a ds loss t (k + 1) = sigTo a ds loss t k + (if loss.contains (k : Int) = true then 0 else giveS a.sh x t (ds.getD k 0))) := by
        show _ = _
        rw [sigTo, show a.gs.getD k gun0 = x from by rw [List.getD_eq_getElem?_getD, hx]; rfl]
      have hb1 := hbd.out k (by have := hnl.out; omega)
      have hgi := giveS_bd ha ⟨hxo.1, hxo.2.1⟩ t (ds.getD k 0)
      have hgx := fun V h => hgv.out x hxo (ds.getD k 0) hd16 V h
      have hcx := fun V h => hct.out (k : Int) V h
      generalize giveS a.sh x t (ds.getD k 0) = y at hgx hsx hgi
      generalize ds.getD k 0 = d at *
      generalize sigTo a ds loss t k = m at *
      clear hdk
      replace hx := Lib.hid hx
      have u1 := IntWalk.i64_in (m + y) (by omega)
      have hk0 : (0 : Int) ≤ (k : Int) := by omega
      have hk1 : (k : Int) < (n : Int) := by omega
      clear hb1 hgi hxo hd16
      obtain ⟨W1, hW1⟩ : ∃ W1, W1 = wr.alloc (.cells #[.int .i64 x.vol, .int .i64 x.time, .int .i64 x.late.lo, .int .i64 x.late.hi, .slice S ns cs] 168) := ⟨_, rfl⟩
      have k8 : Blk W1 wr.heap.size 168 #[.int .i64 x.vol, .int .i64 x.time, .int .i64 x.late.lo, .int .i64 x.late.hi, .slice S ns cs] := by rw [hW1]; exact Blk.new _ _ _
      have hbn : Below wr.heap.size wr W1 := by rw [hW1]; exact (Below.refl _ _).alloc (Nat.le_refl _) _
      have hb2 := hb.trans (hbn.mono hb.size)
      have k2w := k2.below hb2
      have k3w := k3.below hb2
      replace y0 := (hbn.cell (p := ⟨bD, oD + k, none⟩) hbD).trans y0
      have hSw := hS.below hb2
      have hLw := hL.below hb2
      cases hin : loss.contains (k : Int) with
      | true =>
        rw [hin] at hsx hcx
        simp only [if_true, Int.add_zero] at hsx
        replace hin := Lib.hid hin
        clear hgx u1
        obtain ⟨c2, f2, l2⟩ := (k2.below hb).rules
        go_wp2_with fail
        rw [← hW1]
        clear hW1
        refine (hcx _ hLw).mono ?_
        rintro e w' ⟨rfl, rfl⟩
        clear hcx c2 f2 l2
        go_wp2_with fail
        go_roundw
        case rel => exact ⟨k + 1, by go_num, by omega, by rw [hsx.out], hb2⟩
        case measure => simp [intOf]; omega
      | false =>
        rw [hin] at hsx hcx
        simp only [Bool.false_eq_true, if_false] at hsx
        replace hin := Lib.hid hin
        obtain ⟨c2, f2, l2⟩ := (k2.below hb).rules
        go_wp2_with fail
        rw [← hW1]
        clear hW1
        refine (hcx _ hLw).mono ?_
        rintro e w' ⟨rfl, rfl⟩
        clear hcx c2 f2 l2
        go_wp2_with fail
        have hbd9 : Below W1.heap.size W1 W1.drew := (Below.refl _ _).drew
        refine wp_held_np (fun w' : World => (∀ j, w'.cell? ⟨wr.heap.size, j, none⟩ = #[Value.int .i64 x.vol, .int .i64 x.time, .int .i64 x.late.lo, .int .i64 x.late.hi, .slice S ns cs][j]?) ∧ (∀ j, w'.cell? ⟨g3, j, none⟩ = #[Value.slice (some ⟨bD, oD, none⟩) n cd][j]?) ∧ w'.cell? ⟨bD, oD + k, none⟩ = some (.int .i64 d)) (by kernel_rfl) ?_
        have hSb : Hid (∀ W', Below W1.heap.size W1 W' → (fun w' : World => (∀ j, w'.cell? ⟨wr.heap.size, j, none⟩ = #[Value.int .i64 x.vol, .int .i64 x.time, .int .i64 x.late.lo, .int .i64 x.late.hi, .slice S ns cs][j]?) ∧ (∀ j, w'.cell? ⟨g3, j, none⟩ = #[Value.slice (some ⟨bD, oD, none⟩) n cd][j]?) ∧ w'.cell? ⟨bD, oD + k, none⟩ = some (.int .i64 d)) W') := by
          show ∀ _, _
          intro W' hb9
          exact ⟨(k8.below hb9).cell, (k3w.below hb9).cell, (hb9.cell (p := ⟨bD, oD + k, none⟩) (by dsimp only; have := hbn.size; omega)).trans y0⟩
        have hSx := hSb.out _ hbd9
        generalize W1.drew = wd at *
        refine held_take (i := 0) (v := ?_) 20 rfl rfl (by kernel_rfl) (by kernel_rfl) (by kernel_rfl) (fun _ _ _ h => h) (Or.inl ⟨by rfl, ?_⟩) hSx ?_
        rotate_left 1
        · intro w' hSw
          try dsimp only at hSw
          obtain ⟨q1, q2, q3⟩ := hSw
          go_simp
          all_goals with_reducible rfl
        try simp only [Act.put, List.setIfInBounds_toArray, List.set_cons_zero, List.set_cons_succ]
        refine held_take (i := 1) (v := ?_) 21 rfl rfl (by kernel_rfl) (by kernel_rfl) (by kernel_rfl) (fun _ _ _ h => h) (Or.inl ⟨by rfl, ?_⟩) hSx ?_
        rotate_left 1
        · intro w' hSw
          try dsimp only at hSw
          obtain ⟨q1, q2, q3⟩ := hSw
          go_simp
          all_goals with_reducible rfl
        try simp only [Act.put, List.setIfInBounds_toArray, List.set_cons_zero, List.set_cons_succ]
        refine held_take (i := 2) (v := ?_) 22 rfl rfl (by kernel_rfl) (by kernel_rfl) (by kernel_rfl) (fun _ _ _ h => h) (Or.inl ⟨by rfl, ?_⟩) hSx ?_
        rotate_left 1
        · intro w' hSw
          try dsimp only at hSw
          obtain ⟨q1, q2, q3⟩ := hSw
          go_simp
          all_goals with_reducible rfl
        try simp only [Act.put, List.setIfInBounds_toArray, List.set_cons_zero, List.set_cons_succ]
        refine held_take (i := 3) (v := ?_) 23 rfl rfl (by kernel_rfl) (by kernel_rfl) (by kernel_rfl) (fun _ _ _ h => h) (Or.inl ⟨by rfl, ?_⟩) hSx ?_
        rotate_left 1
        · intro w' hSw
          try dsimp only at hSw
          obtain ⟨q1, q2, q3⟩ := hSw
          go_simp
          all_goals with_reducible rfl
        try simp only [Act.put, List.setIfInBounds_toArray, List.set_cons_zero, List.set_cons_succ]
        refine held_take (i := 4) (v := ?_) 24 rfl rfl (by kernel_rfl) (by kernel_rfl) (by kernel_rfl) (fun _ _ _ h => h) (Or.inl ⟨by rfl, ?_⟩) hSx ?_
        rotate_left 1
        · intro w' hSw
          try dsimp only at hSw
          obtain ⟨q1, q2, q3⟩ := hSw
          go_simp
          all_goals with_reducible rfl
        try simp only [Act.put, List.setIfInBounds_toArray, List.set_cons_zero, List.set_cons_succ]
        refine held_take (i := 5) (v := ?_) 25 rfl rfl (by kernel_rfl) (by kernel_rfl) (by kernel_rfl) (fun _ _ _ h => h) (Or.inl ⟨by rfl, ?_⟩) hSx ?_
        rotate_left 1
        · intro w' hSw
          try dsimp only at hSw
          obtain ⟨q1, q2, q3⟩ := hSw
          go_simp
          all_goals with_reducible rfl
        try simp only [Act.put, List.setIfInBounds_toArray, List.set_cons_zero, List.set_cons_succ]
        refine held_take (i := 6) (v := ?_) 26 rfl rfl (by kernel_rfl) (by kernel_rfl) (by kernel_rfl) (fun _ _ _ h => h) (Or.inl ⟨by rfl, ?_⟩) hSx ?_
        rotate_left 1
        · intro w' hSw
          try dsimp only at hSw
          obtain ⟨q1, q2, q3⟩ := hSw
          go_simp
          all_goals with_reducible rfl
        try simp only [Act.put, List.setIfInBounds_toArray, List.set_cons_zero, List.set_cons_succ]
        refine held_one (i := 7) (by kernel_rfl) rfl rfl (fun K hK => ?_)
        go_simp
        refine (hgx _ (hSw.below hbd9)).mono ?_
        rintro e W2 ⟨rfl, hbel⟩
        clear hSx
        replace hbd9 := hbd9.trans (hbel.mono hbd9.size)
        have hSx := hSb.out _ hbd9
        refine hK _ _ hSx ?_
        clear hK K hgx hbel
        try simp only [Act.put, List.setIfInBounds_toArray, List.set_cons_zero, List.set_cons_succ]
        refine held_take (i := 8) (v := ?_) 28 rfl rfl (by kernel_rfl) (by kernel_rfl) (by kernel_rfl) (fun _ _ _ h => h) (Or.inl ⟨by rfl, ?_⟩) hSx ?_
        rotate_left 1
        · intro w' hSw
          try dsimp only at hSw
          obtain ⟨q1, q2, q3⟩ := hSw
          go_simp
          all_goals with_reducible rfl
        try simp only [Act.put, List.setIfInBounds_toArray, List.set_cons_zero, List.set_cons_succ]
        refine held_take (i := 9) (v := ?_) 6 rfl rfl (by kernel_rfl) (by kernel_rfl) (by kernel_rfl) (fun _ _ _ h => h) (Or.inl ⟨by rfl, ?_⟩) hSx ?_
        rotate_left 1
        · intro w' hSw
          try dsimp only at hSw
          obtain ⟨q1, q2, q3⟩ := hSw
          go_simp
          all_goals with_reducible rfl
        try simp only [Act.put, List.setIfInBounds_toArray, List.set_cons_zero, List.set_cons_succ]
        refine wpAnyH_done (by kernel_rfl) (noPanic_normal ?_) _
        clear hSx hSb
        go_wp2_with fail
        go_roundw
        case rel => exact ⟨k + 1, by go_num, by omega, by rw [hsx.out], hb2.trans (hbd9.mono hb2.size)⟩
        case measure => simp [intOf]; omega
    · obtain rfl : k = n := by omega
      go_wp2_with fail
      go_ret
      exact ⟨ret_int hfin.out.symm, hb⟩
theorem eg_sig1 : Enters Tryz.prog 133 := enters_of Tryz.func133 (by kernel_rfl) rfl
theorem FunT.cut {g : Nat} {lb : Array Value} {f : Nat → Value} {n m : Nat} {w : World} (h : FunT g lb f n w) (hm : m ≤ n) : FunT g lb f m w := fun W t hb ht => h W t hb (by omega)
set_option maxRecDepth 100000 in
set_option maxHeartbeats 1000000 in
theorem signature_any (a : Arr) (ha : okArr a = true) (ds loss : List Int) (hds : isDel ds) (A S D L : Option Addr) (n c ns cs cd nl cl B1 B2 B3 B4 : Nat) (w : World)
    (hA : SlAt w B1 5 (plc S ns cs) A n c a.gs) (hS : SlAt w B2 1 ivs S ns cs a.sh) (hD : SlAt w B3 1 ivs D n cd ds) (hL : SlAt w B4 1 ivs L nl cl loss) :
    Calls Tryz.prog 88 #[.slice A n c, .slice D n cd, .slice L nl cl] w fun e w' => ∃ O co, e = .returned (.slice O (ns + 48) co) ∧ SlAt w' w.heap.size 1 ivs O (ns + 48) co (sigL a ds loss) ∧ Below w.heap.size w w' := by
  have hal := okArr_len ha
  unfold arrLen at hal
  have hn := hA.len
  have hsl := hS.len
  obtain ⟨w1, hw1⟩ : ∃ w1, w1 = ((w.alloc (.cells #[.slice A n c] 159)).alloc (.cells #[.slice D n cd] 36)).alloc (.cells #[.slice L nl cl] 36) := ⟨_, rfl⟩
  have k1 : Blk w1 w.heap.size 159 #[.slice A n c] := by rw [hw1]; exact ((Blk.new _ _ _).alloc _).alloc _
  have k3 : Blk w1 (w.heap.size + 1) 36 #[.slice D n cd] := by rw [hw1]; exact (Blk.newAt (by simp)).alloc _
  have k2 : Blk w1 (w.heap.size + 1 + 1) 36 #[.slice L nl cl] := by rw [hw1]; exact Blk.newAt (by simp)
  have b : Below w.heap.size w w1 := by rw [hw1]; exact (((Below.refl _ _).alloc (Nat.le_refl _) _).alloc (by simp) _).alloc (by simp; omega) _
  replace hA := hA.below b
  replace hS := hS.below b
  replace hD := hD.below b
  replace hL := hL.below b
  have hF := (sig1_any a ha ds loss hds A S D L n c ns cs cd nl cl B1 B2 B3 B4 _ _ _ w1 k1 k2 k3 hA hS hD hL).cut (m := ns + 48) (by omega)
  have hsam := sampledI_any (sigAt a ds loss) a.gs A S n c ns cs B1 133 _ eg_sig1 w1 (by omega) (by omega) hF hA
  have hval : Hid ((List.range (ns + 48)).map (sigAt a ds loss) = sigL a ds loss) := by show _ = _; unfold sigL; rw [hsl]
  clear hal hn hsl hF
  go_enter Tryz.func88, Tryz.ntmps88
  go_wp2_with fail
  rw [← hw1]
  clear hw1
  obtain ⟨c1, f1, l1⟩ := k1.rules
  go_wp2_with fail
  refine hsam.mono ?_
  rintro e W ⟨O, co, rfl, hr, hbel⟩
  clear c1 f1 l1 hsam
  go_wp2_with fail
  go_ret
  exact ⟨O, co, rfl, by rw [← hval.out]; exact hr.mono b.size, b.trans (hbel.mono b.size)⟩
theorem magI_max (x y : Int) : max (x - y) (y - x) = magI (x - y) := by unfold magI; omega
theorem onL_isDel (a : Arr) : isDel (onL a) := fun k => by rw [onL_at]; omega
def isSig (l : List Int) : Prop := ∀ k : Nat, -8000000 ≤ l.getD k 0 ∧ l.getD k 0 ≤ 8000000
theorem ownsOf {w w1 : World} {n : Nat} (hown : w1.ownsRow w.heap.size 3 1 (.slice (some ⟨w.heap.size, 0, none⟩) n n) n (madeCells (Value.int .i64 0).cells (n * 1)).toList) (hn : n ≤ 1000000) :
    ∃ O co, (Value.slice (some ⟨w.heap.size, 0, none⟩) n n) = .slice O n co ∧ SlAt w1 w.heap.size 1 ivs O n co (List.replicate n 0) := by
  rw [madeCells_int] at hown
  exact SlAt.of_own (enc := ivs) hown (by omega) (List.replicate n 0) (by rw [flatMap_ivs, List.map_replicate]) (fun _ => rfl) (by simp)
set_option maxRecDepth 100000 in
set_option maxHeartbeats 1000000 in
theorem misfit_any (a : Arr) (ha : okArr a = true) (l : List Int) (hl : isSig l) (A S M : Option Addr) (n c ns cs cm B1 B2 B3 : Nat) (w : World)
    (hA : SlAt w B1 5 (plc S ns cs) A n c a.gs) (hS : SlAt w B2 1 ivs S ns cs a.sh) (hM : SlAt w B3 1 ivs M (ns + 48) cm l) :
    Calls Tryz.prog 92 #[.slice A n c, .slice M (ns + 48) cm] w fun e w' => e = .returned (.int .i64 (misL a l)) ∧ Below w.heap.size w w' := by
  have hal := okArr_len ha
  unfold arrLen at hal
  have hn := hA.len
  have hsl := hS.len
  have hml := Lib.hid hM.len
  have hn8 : n ≤ 8 := by omega
  have hn32 : ns ≤ 32 := by omega
  have hbm := Lib.hid (fun k => misTo_bd (B := 8000000) hl (fun t => sigL_bd ha (onL a) [] t) k)
  have hval : Hid (misTo l (sigL a (onL a) []) (ns + 48) = misL a l) := by show _ = _; unfold misL; rw [hsl]
  have hsll : Hid ((sigL a (onL a) []).length = ns + 48) := by show _ = _; rw [sigL_len, hsl]
  have hon : Hid (onL a = List.replicate n 0) := by show _ = _; unfold onL; rw [hn]
  have hsg := Lib.hid (fun W D cd h1 h2 h3 => signature_any a ha (onL a) [] (onL_isDel a) A S D none n c ns cs cd 0 0 B1 B2 w.heap.size 0 W h1 h2 h3 (SlAt.nil _ _ _ _))
  have hsb := Lib.hid (fun k => sigL_bd ha (onL a) [] k)
  have hlb := Lib.hid hl
  have hmax := max2_int
  obtain ⟨i0, hi0, hz0, hz1, hz2⟩ := info_parts Tryz.infoInt
  have hc1 := Lib.hid (show i0.bytes * n ≤ 281474976710656 by rw [hz2]; omega)
  have hc2 := Lib.hid (show n ≤ maxLen by unfold maxLen; omega)
  generalize sigL a (onL a) [] = y at *
  clear hal hn hsl hl
  go_enter Tryz.func92, Tryz.ntmps92
  go_wp2_with (first | (at_make; refine wpList_make_full _ rfl _ _ 36 rfl w.heap.size 3 i0 (.int .i64 0) 1 Tryz.underlying36 hi0 hz0 hz1 _ _ _ _ n rfl rfl rfl rfl hc1.out hc2.out (Nat.le_refl _) ?_; intro w1 hown hgrow) | fail)
  have hb1 : Below w.heap.size w w1 := (Below.refl _ _).grown hgrow (Nat.le_refl _) (fun k e => by cases e)
  obtain ⟨O, co, e1, hO⟩ := ownsOf hown (by omega)
  rw [e1]
  rw [← hon.out] at hO
  refine (hsg.out w1 O co (hA.below hb1) (hS.below hb1) hO).mono ?_
  rintro e W ⟨P, pc, rfl, hP, hbel⟩
  clear hsg hO hown hgrow hz0 hz1 hz2 hi0 e1
  have hb := hb1.trans (hbel.mono hb1.size)
  clear hbel hb1
  go_wp2_with fail
  go_loopw [5, 14] (fun v i wr => ∃ k : Nat, i = .int .i64 k ∧ k ≤ ns + 48 ∧ v = .int .i64 (misTo l y k) ∧ Below W.heap.size W wr) (fun v i wr => ns + 48 - (intOf i).toNat)
  case atStart => exact ⟨0, rfl, Nat.zero_le _, rfl, Below.refl _ _⟩
  case round =>
    obtain ⟨k, rfl, hk, rfl, hb9⟩ := hrel
    by_cases hlt : k < ns + 48
    · have hy := get_getD (l := y) (i := k) 0 (by rw [hsll.out]; exact hlt)
      have hx := get_getD (l := l) (i := k) 0 (by rw [hml.out]; exact hlt)
      obtain ⟨bP, oP, rfl, -, hbP, y0⟩ := (hP.below hb9).int hy
      obtain ⟨bM, oM, rfl, -, hbM, x0⟩ := (hM.below (hb.trans (hb9.mono hb.size))).int hx
      have hms : Hid (misTo l y (k + 1) = misTo l y k + magI (l.getD k 0 - y.getD k 0)) := rfl
      have b1 := hsb.out k
      have b2 := hlb.out k
      have b3 := hbm.out k
      have hmg := magI_bd (n := l.getD k 0 - y.getD k 0) (B := 16000000) (by omega) (by omega)
      have hmm := Lib.hid (magI_max (l.getD k 0) (y.getD k 0))
      generalize l.getD k 0 = p at *
      generalize y.getD k 0 = q at *
      generalize misTo l y k = m at *
      clear hx hy
      have u1 := IntWalk.i64_in (p - q) (by omega)
      have u2 := IntWalk.i64_in (q - p) (by omega)
      have hmm2 : max (p - q) (q - p) = magI (p - q) := hmm.out
      have hk0 : (0 : Int) ≤ (k : Int) := by omega
      have hk1 : (k : Int) < (ns : Int) + 48 := by omega
      have u3 := IntWalk.i64_in (m + magI (p - q)) (by omega)
      generalize hg : magI (p - q) = g at *
      clear hg hmg
      go_wp2_with fail
      go_quiet (fail)
      go_wp2_with fail
      go_roundw
      case rel => exact ⟨k + 1, by go_num, by omega, by rw [hms.out], below_drewN hb9 _⟩
      case measure => simp [intOf]; omega
    · obtain rfl : k = ns + 48 := by omega
      go_wp2_with fail
      go_ret
      exact ⟨ret_int hval.out, hb.trans (hb9.mono hb.size)⟩
end Go.Proofs.YtfengddpfeneiaaGreat
