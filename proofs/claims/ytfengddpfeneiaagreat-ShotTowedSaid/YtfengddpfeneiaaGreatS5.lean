/-
  Shots, walks: Enclose, Signature, Misfit.
-/
import Derived.Test.YtfengddpfeneiaaGreatS4
namespace Go.Proofs.YtfengddpfeneiaaGreat
open Go.RowKit Go.Shelf
set_option linter.unusedSimpArgs false
set_option linter.unusedVariables false

set_option maxRecDepth 100000 in
set_option maxHeartbeats 2000000 in
theorem enc1_any (a : Arr) (ha : okArr a = true) (A S : Option Addr) (n c ns cs B1 B2 g1 : Nat) (w : World)
    (k1 : Blk w g1 159 #[.slice A n c]) (hA : SlAt w B1 5 (plc S ns cs) A n c a.gs) (hS : SlAt w B2 1 ivs S ns cs a.sh) :
    FunT 90 #[.pointer (some ⟨g1, 0, none⟩)] (fun t => .agg #[.int .i64 (encAtS a t).lo, .int .i64 (encAtS a t).hi]) 1000 w := by
  intro w0 t hb ht
  replace k1 := k1.below hb
  replace hA := hA.below hb
  replace hS := hS.below hb
  clear hb
  show Calls Tryz.prog 90 #[.int .i64 t, .pointer (some ⟨g1, 0, none⟩)] w0 _
  have hnl := Lib.hid hA.len
  have hn := hA.le
  have hal : n ≤ 8 := by have := okArr_len ha; unfold arrLen at this; have := hA.len; omega
  have hbt := Lib.hid (fun (g : Gun) (hg : gunOk g) V (h : SlAt V B2 1 ivs S ns cs a.sh) => between_any a ha g hg S ns cs B2 t V (by omega) h)
  have hbd := Lib.hid (fun k hk => encTo_bd ha t k hk)
  have hgo := Lib.hid (fun (g : Gun) (h : g ∈ a.gs) => okArr_gun ha h)
  have hbb := Lib.hid (fun (g : Gun) (hg : gunOk g) => betTo_bd ha (g := g) ⟨hg.1, hg.2.1⟩ t (widS g))
  have hfin : Hid (encAtS a t = encTo a t n) := by show _ = _; unfold encAtS; rw [hnl.out]
  obtain ⟨w1, hw1⟩ : ∃ w1, w1 = (w0.alloc (.cells #[.int .i64 0, .int .i64 0] 40)).alloc (.cells #[.int .i64 0, .int .i64 0] 40) := ⟨_, rfl⟩
  have k3 : Blk w1 w0.heap.size 40 #[.int .i64 0, .int .i64 0] := by rw [hw1]; exact (Blk.new _ _ _).alloc _
  have k4 : Blk w1 (w0.heap.size + 1) 40 #[.int .i64 0, .int .i64 0] := by rw [hw1]; exact Blk.newAt (by simp)
  have b : Below w0.heap.size w0 w1 := by rw [hw1]; exact ((Below.refl _ _).alloc (Nat.le_refl _) _).alloc (by simp) _
  have k1w := k1.below b
  obtain ⟨c0, f0, l0⟩ := k1.rules
  go_enter Tryz.func90, Tryz.ntmps90
  go_wp2_with fail
  rw [← hw1]
  clear hw1 c0 f0 l0
  try obtain ⟨c1, f1, l1⟩ := k1w.rules
  try go_wp2_with fail
  try clear c1 f1 l1
  go_loopw [10] (fun i wr => ∃ k : Nat, i = .int .i64 k ∧ k ≤ n ∧ Blk wr (w0.heap.size + 1) 40 #[.int .i64 (encTo a t k).lo, .int .i64 (encTo a t k).hi] ∧ Blk wr w0.heap.size 40 #[.int .i64 0, .int .i64 0] ∧ Below w0.heap.size w0 wr) (fun i wr => n - (intOf i).toNat)
  case atStart => exact ⟨0, rfl, Nat.zero_le _, k4, k3, b⟩
  case round =>
    clear k3 k4 b k1w
    obtain ⟨k, rfl, hk, k4, k3, b⟩ := hrel
    by_cases hlt : k < n
    · obtain ⟨x, hx⟩ := some_of_lt hnl.out hlt
      obtain ⟨bb, off, rfl, -, hbl, x0, x1, x2, x3, x4⟩ := (hA.below b).pln hx
      have hxo := hgo.out x (List.mem_of_getElem? hx)
      have hsx : Hid (encTo a t (k + 1) = plusB (encTo a t k) (betS a.sh x t)) := by
        show _ = _
        rw [encTo, show a.gs.getD k gun0 = x from by rw [List.getD_eq_getElem?_getD, hx]; rfl]
      have hb1 := hbd.out k (by have := hnl.out; omega)
      have hb2 : -1000000 ≤ (betS a.sh x t).lo ∧ (betS a.sh x t).lo ≤ (betS a.sh x t).hi ∧ (betS a.sh x t).hi ≤ 1000000 := hbb.out x hxo
      have hgx := fun V h => hbt.out x hxo V h
      generalize betS a.sh x t = y at hgx hsx hb2
      generalize encTo a t k = m at *
      replace hx := Lib.hid hx
      have u1 := IntWalk.i64_in (m.lo + y.lo) (by omega)
      have u2 := IntWalk.i64_in (m.hi + y.hi) (by omega)
      have hk0 : (0 : Int) ≤ (k : Int) := by omega
      have hk1 : (k : Int) < (n : Int) := by omega
      clear hb1 hb2 hxo
      obtain ⟨W1, hW1⟩ : ∃ W1, W1 = wr.alloc (.cells #[.int .i64 x.vol, .int .i64 x.time, .int .i64 x.late.lo, .int .i64 x.late.hi, .slice S ns cs] 168) := ⟨_, rfl⟩
      have k8 : Blk W1 wr.heap.size 168 #[.int .i64 x.vol, .int .i64 x.time, .int .i64 x.late.lo, .int .i64 x.late.hi, .slice S ns cs] := by rw [hW1]; exact Blk.new _ _ _
      have hbn : Below wr.heap.size wr W1 := by rw [hW1]; exact (Below.refl _ _).alloc (Nat.le_refl _) _
      have l3 := k3.lt
      have l4 := k4.lt
      replace k3 := k3.below hbn
      replace k4 := k4.below hbn
      have b2 := b.trans (hbn.mono b.size)
      have hSw := hS.below b2
      go_wp2_with fail
      rw [← hW1]
      clear hW1
      refine (hgx _ hSw).mono ?_
      rintro e W2 ⟨rfl, hbel⟩
      clear hgx
      have hb0 := hbn.size
      replace k3 := k3.below hbel
      replace k4 := (k4.below hbel)
      have b3 := b2.trans (hbel.mono b2.size)
      have b4 := b3.alloc b3.size (.cells #[.int .i64 y.lo, .int .i64 y.hi] 40)
      have k4a := k4.alloc (.cells #[.int .i64 y.lo, .int .i64 y.hi] 40)
      obtain ⟨W3, hW3⟩ : ∃ W3, W3 = W2.alloc (.cells #[.int .i64 y.lo, .int .i64 y.hi] 40) := ⟨_, rfl⟩
      have k7 : Blk W3 W2.heap.size 40 #[.int .i64 y.lo, .int .i64 y.hi] := by rw [hW3]; exact Blk.new _ _ _
      rw [← hW3] at k4a b4
      have hb5 := b3.size
      have hb6 := hbel.size
      obtain ⟨c4, f4, l4'⟩ := k4.rules
      go_wp2_with fail
      try rw [← hW3]
      clear c4 f4
      try obtain ⟨c4, f4, l4''⟩ := k4a.rules
      try obtain ⟨c7, f7, l7⟩ := k7.rules
      try go_wp2_with fail
      try clear c4 f4 c7 f7
      go_roundw
      case rel =>
        refine ⟨k + 1, by go_num, by omega, ?_, ?_, ?_⟩
        · have kz := ((k4.set_ 0 (.int .i64 (m.lo + y.lo))).set_ 1 (.int .i64 (m.hi + y.hi))).alloc (.cells #[.int .i64 y.lo, .int .i64 y.hi] 40)
          simp only [List.setIfInBounds_toArray, List.set_cons_zero, List.set_cons_succ] at kz
          rw [hsx.out]
          exact kz
        · exact ((k3.far (by dsimp only; omega) _).far (by dsimp only; omega) _).alloc _
        · exact ((b3.setCell (p := ⟨w0.heap.size + 1, 0, none⟩) (by dsimp only; omega) _).setCell (p := ⟨w0.heap.size + 1, 1, none⟩) (by dsimp only; omega) _).alloc (by simp [World.setCell]; omega) _
      case measure => simp [intOf]; omega
    · obtain rfl : k = n := by omega
      rw [← hfin.out] at k4
      have kz := (k3.set_ 0 (.int .i64 (encAtS a t).lo)).set_ 1 (.int .i64 (encAtS a t).hi)
      simp only [List.setIfInBounds_toArray, List.set_cons_zero, List.set_cons_succ] at kz
      have bz := (b.setCell (p := ⟨w0.heap.size, 0, none⟩) (by dsimp only; omega) (.int .i64 (encAtS a t).lo)).setCell (p := ⟨w0.heap.size, 1, none⟩) (by dsimp only; omega) (.int .i64 (encAtS a t).hi)
      obtain ⟨wz, hwz⟩ : ∃ x, x = (wr.setCell ⟨w0.heap.size, 0, none⟩ (.int .i64 (encAtS a t).lo)).setCell ⟨w0.heap.size, 1, none⟩ (.int .i64 (encAtS a t).hi) := ⟨_, rfl⟩
      rw [← hwz] at kz bz
      obtain ⟨c3, f3, l3⟩ := k3.rules
      obtain ⟨c4, f4, l4⟩ := k4.rules
      go_wp2
      rw [← hwz]
      clear hwz c3 f3 l3 c4 f4 l4
      obtain ⟨c4, f4, l4⟩ := kz.rules
      exact bodyPost_ret (v := .agg #[.int .i64 (encAtS a t).lo, .int .i64 (encAtS a t).hi]) (by simp [results, Tryz.results90, go_sem, c4]) rfl ⟨rfl, bz⟩
theorem eg_enc1 : Enters Tryz.prog 90 := enters_of Tryz.func90 (by kernel_rfl) rfl
theorem chkArr_ok {a : Arr} (h : chkArr a = 0) : okArr a = true := by unfold chkArr at h; split at h; assumption; cases h
theorem chkArr_no {a : Arr} (h : okArr a = false) : chkArr a = 50 := by unfold chkArr; rw [h]; rfl
set_option maxRecDepth 100000 in
set_option maxHeartbeats 1000000 in
theorem sEnclose_any (a : Arr) (S G : Option Addr) (ns cs ng cg : Nat) (w : World) (hS : SlAt w 0 1 ivs S ns cs a.sh) (hG : SlAt w 0 4 Gun.cells G ng cg a.gs) :
    Calls Tryz.prog 37 #[.agg #[.slice S ns cs, .slice G ng cg]] w (RetSl 2 Bnd.cells (encAR a) w) := by
  have hck := fun W h1 h2 => sCheck_any a S G ns cs ng cg W h1 h2
  have hS0 := Lib.hid hS
  have hG0 := Lib.hid hG
  have hsl := hS.len
  have hgl := hG.len
  obtain ⟨w1, hw1⟩ : ∃ w1, w1 = w.alloc (.cells #[.slice S ns cs, .slice G ng cg] 83) := ⟨_, rfl⟩
  have k3 : Blk w1 w.heap.size 83 #[.slice S ns cs, .slice G ng cg] := by rw [hw1]; exact Blk.new _ _ _
  have b : Below w.heap.size w w1 := by rw [hw1]; exact (Below.refl _ _).alloc (Nat.le_refl _) _
  cases ho : okArr a with
  | false =>
    have hv : Hid (encAR a = ([], 50)) := by show _ = _; unfold encAR; rw [ho]; rfl
    rw [chkArr_no ho] at hck
    replace ho := Lib.hid ho
    go_enter Tryz.func37, Tryz.ntmps37
    go_wp2_with fail
    rw [← hw1]
    clear hw1
    obtain ⟨c3, f3, l3⟩ := k3.rules
    go_wp2_with fail
    refine (hck _ (hS0.out.below b) (hG0.out.below b)).mono ?_
    rintro e W ⟨rfl, hbel⟩
    clear c3 f3 l3 hck
    replace k3 := k3.below hbel
    replace b := b.trans (hbel.mono b.size)
    clear hbel
    go_wp2_with fail
    go_ret2
    rw [hv.out]
    exact RetSl.none_ b
  | true =>
    have hv : Hid (encAR a = (encA a, 0)) := by show _ = _; unfold encAR; rw [ho]; rfl
    have hck0 : chkArr a = 0 := by unfold chkArr; rw [ho]; rfl
    rw [hck0] at hck
    clear hck0
    have hal := okArr_len ho
    unfold arrLen at hal
    have hval : Hid ((List.range (ns + 48)).map (encAtS a) = encA a) := by show _ = _; unfold encA; rw [hsl]
    have hgu := fun W h => guns_any a S G ns cs ng cg 0 W (by omega) h
    have hsm := Lib.hid (fun A c g1 W (k1 : Blk W g1 159 #[.slice A ng c]) (hA : SlAt W 0 5 (plc S ns cs) A ng c a.gs) (hS : SlAt W 0 1 ivs S ns cs a.sh) => sampledB_any (encAtS a) a.gs A S ng c ns cs 0 90 _ eg_enc1 W (by omega) (by omega) ((enc1_any a ho A S ng c ns cs 0 0 g1 W k1 hA hS).cut (m := ns + 48) (by omega)) hA)
    replace ho := Lib.hid ho
    clear hal hsl hgl
    go_enter Tryz.func37, Tryz.ntmps37
    go_wp2_with fail
    rw [← hw1]
    clear hw1
    obtain ⟨c3, f3, l3⟩ := k3.rules
    go_wp2_with fail
    refine (hck _ (hS0.out.below b) (hG0.out.below b)).mono ?_
    rintro e W ⟨rfl, hbel⟩
    clear c3 f3 l3 hck
    replace k3 := k3.below hbel
    replace b := b.trans (hbel.mono b.size)
    clear hbel
    obtain ⟨c3, f3, l3⟩ := k3.rules
    go_wp2_with fail
    refine (hgu _ (hG0.out.below b)).mono ?_
    rintro e W1 ⟨A, ac, rfl, hA, hbel⟩
    clear c3 f3 l3 hgu
    replace k3 := k3.below hbel
    replace b := b.trans (hbel.mono b.size)
    clear hbel
    replace hA := (hA.mono (Nat.zero_le _)).alloc (.cells #[.slice A ng ac] 159)
    replace b := b.alloc b.size (.cells #[.slice A ng ac] 159)
    have k5 := Blk.new W1 159 #[.slice A ng ac]
    have hsx := hsm.out A ac _ _ k5 hA (hS0.out.below b)
    obtain ⟨W2, hW2⟩ : ∃ W2, W2 = W1.alloc (.cells #[.slice A ng ac] 159) := ⟨_, rfl⟩
    rw [← hW2] at hsx k5 b
    clear hsm hA
    obtain ⟨c5, f5, l5⟩ := k5.rules
    go_wp2_with fail
    rw [← hW2]
    clear hW2
    try go_wp2_with fail
    refine hsx.mono ?_
    rintro e W3 ⟨O, co, rfl, hr, hbel⟩
    clear c5 f5 l5 hsx
    go_wp2_with fail
    go_ret2
    rw [hv.out]
    exact ⟨O, ns + 48, co, rfl, by rw [← hval.out]; exact hr.mono b.size, b.trans (hbel.mono b.size)⟩
set_option maxHeartbeats 400000 in
theorem delayed1_any (w : World) : PredB 131 #[] (fun n => Value.int .i64 n) (fun n => !okNum 16 n) w := by
  intro W x _
  show Calls Tryz.prog 131 #[.int .i64 x] W _
  go_enter Tryz.func131, Tryz.ntmps131
  go_wp2_with (go_at_call 25; refine (sWithin_any _ _ _ _).mono ?_; rintro e w' ⟨rfl, rfl⟩)
  go_ret
  exact ⟨ret_bool (by simp [okNum]), Below.refl _ _⟩
theorem eg_delayed1 : Enters Tryz.prog 131 := enters_of Tryz.func131 (by kernel_rfl) rfl
set_option maxRecDepth 100000 in
set_option maxHeartbeats 1000000 in
theorem delayed_any (a : Arr) (S G D : Option Addr) (ns cs ng cg nd cd : Nat) (ds : List Int) (w : World) (hG : SlAt w 0 4 Gun.cells G ng cg a.gs) (hD : SlAt w 0 1 ivs D nd cd ds) :
    Calls Tryz.prog 86 #[.agg #[.slice S ns cs, .slice G ng cg], .slice D nd cd] w fun e w' => e = .returned (.bool (okDel a ds)) ∧ Below w.heap.size w w' := by
  have hgl := Lib.hid hG.len
  have hdl := Lib.hid hD.len
  by_cases he : nd = ng
  · subst he
    go_enter Tryz.func86, Tryz.ntmps86
    go_wp2_with (go_at_call 130; refine (contains_int (fun n => !okNum 16 n) D nd cd 0 _ _ eg_delayed1 ds _ (delayed1_any _) (hD.alloc _)).mono ?_; rintro e w' ⟨rfl, hb⟩)
    go_ret
    exact ⟨ret_bool (by simp [okDel, any_not, hgl.out, hdl.out]), ((Below.refl _ _).alloc (Nat.le_refl _) _).trans (hb.mono (by simp))⟩
  · have he' : ((nd : Int) == (ng : Int)) = false := by rw [beq_eq_false_iff_ne]; omega
    have hx : okDel a ds = false := by simp [okDel, hgl.out, hdl.out, he]
    replace he := Lib.hid he
    go_enter Tryz.func86, Tryz.ntmps86
    go_wp2
    go_ret
    exact ⟨ret_bool hx.symm, ((Below.refl _ _).alloc (Nat.le_refl _) _)⟩
theorem okDel_is {a : Arr} {ds : List Int} (h : okDel a ds = true) : ds.length = a.gs.length ∧ isDel ds := by
  unfold okDel at h
  rw [Bool.and_eq_true] at h
  refine ⟨of_decide_eq_true h.1, fun k => getD_bd h.2 (by omega) k⟩
set_option maxRecDepth 100000 in
set_option maxHeartbeats 1000000 in
theorem Signature_any (a : Arr) (S G D : Option Addr) (ns cs ng cg nd cd : Nat) (ds : List Int) (w : World) (hS : SlAt w 0 1 ivs S ns cs a.sh) (hG : SlAt w 0 4 Gun.cells G ng cg a.gs) (hD : SlAt w 0 1 ivs D nd cd ds) :
    Calls Tryz.prog 35 #[.agg #[.slice S ns cs, .slice G ng cg], .slice D nd cd] w (RetSl 1 ivs (sigR a ds) w) := by
  have hck := fun W h1 h2 => sCheck_any a S G ns cs ng cg W h1 h2
  have hS0 := Lib.hid hS
  have hG0 := Lib.hid hG
  have hD0 := Lib.hid hD
  have hsl := hS.len
  have hgl := hG.len
  have hdl := hD.len
  obtain ⟨w1, hw1⟩ : ∃ w1, w1 = w.alloc (.cells #[.slice S ns cs, .slice G ng cg] 83) := ⟨_, rfl⟩
  have k3 : Blk w1 w.heap.size 83 #[.slice S ns cs, .slice G ng cg] := by rw [hw1]; exact Blk.new _ _ _
  have b : Below w.heap.size w w1 := by rw [hw1]; exact (Below.refl _ _).alloc (Nat.le_refl _) _
  cases ho : okArr a with
  | false =>
    have hv : Hid (sigR a ds = ([], 50)) := by show _ = _; unfold sigR errA; rw [ho]; rfl
    rw [chkArr_no ho] at hck
    replace ho := Lib.hid ho
    go_enter Tryz.func35, Tryz.ntmps35
    go_wp2_with fail
    rw [← hw1]
    clear hw1
    obtain ⟨c3, f3, l3⟩ := k3.rules
    go_wp2_with fail
    refine (hck _ (hS0.out.below b) (hG0.out.below b)).mono ?_
    rintro e W ⟨rfl, hbel⟩
    clear c3 f3 l3 hck
    replace k3 := k3.below hbel
    replace b := b.trans (hbel.mono b.size)
    clear hbel
    go_wp2_with fail
    go_ret2
    rw [hv.out]
    exact RetSl.none_ b
  | true =>
    have hck0 : chkArr a = 0 := by unfold chkArr; rw [ho]; rfl
    rw [hck0] at hck
    clear hck0
    have hal := okArr_len ho
    unfold arrLen at hal
    have hde := fun W h1 h2 => delayed_any a S G D ns cs ng cg nd cd ds W h1 h2
    cases hod : okDel a ds with
    | false =>
      have hv : Hid (sigR a ds = ([], 51)) := by show _ = _; unfold sigR errA; rw [ho, hod]; rfl
      rw [hod] at hde
      replace ho := Lib.hid ho
      replace hod := Lib.hid hod
      clear hal hsl hgl hdl
      go_enter Tryz.func35, Tryz.ntmps35
      go_wp2_with fail
      rw [← hw1]
      clear hw1
      obtain ⟨c3, f3, l3⟩ := k3.rules
      go_wp2_with fail
      refine (hck _ (hS0.out.below b) (hG0.out.below b)).mono ?_
      rintro e W ⟨rfl, hbel⟩
      clear c3 f3 l3 hck
      replace k3 := k3.below hbel
      replace b := b.trans (hbel.mono b.size)
      clear hbel
      obtain ⟨c3, f3, l3⟩ := k3.rules
      go_wp2_with fail
      refine (hde _ (hG0.out.below b) (hD0.out.below b)).mono ?_
      rintro e W1 ⟨rfl, hbel⟩
      clear c3 f3 l3 hde
      replace k3 := k3.below hbel
      replace b := b.trans (hbel.mono b.size)
      clear hbel
      go_wp2_with fail
      go_ret2
      rw [hv.out]
      exact RetSl.none_ b
    | true =>
      have hv : Hid (sigR a ds = (sigL a ds [], 0)) := by show _ = _; unfold sigR errA; rw [ho, hod]; rfl
      rw [hod] at hde
      have hgu := fun W h => guns_any a S G ns cs ng cg 0 W (by omega) h
      obtain ⟨hdn, hdi⟩ := okDel_is hod
      obtain rfl : nd = ng := by omega
      have hsg := Lib.hid (fun A c W h1 h2 h3 => signature_any a ho ds [] hdi A S D none nd c ns cs cd 0 0 0 0 0 0 W h1 h2 h3 (SlAt.nil _ _ _ _))
      replace ho := Lib.hid ho
      replace hod := Lib.hid hod
      clear hal hsl hgl hdl hdn hdi
      go_enter Tryz.func35, Tryz.ntmps35
      go_wp2_with fail
      rw [← hw1]
      clear hw1
      obtain ⟨c3, f3, l3⟩ := k3.rules
      go_wp2_with fail
      refine (hck _ (hS0.out.below b) (hG0.out.below b)).mono ?_
      rintro e W ⟨rfl, hbel⟩
      clear c3 f3 l3 hck
      replace k3 := k3.below hbel
      replace b := b.trans (hbel.mono b.size)
      clear hbel
      obtain ⟨c3, f3, l3⟩ := k3.rules
      go_wp2_with fail
      refine (hde _ (hG0.out.below b) (hD0.out.below b)).mono ?_
      rintro e W1 ⟨rfl, hbel⟩
      clear c3 f3 l3 hde
      replace k3 := k3.below hbel
      replace b := b.trans (hbel.mono b.size)
      clear hbel
      obtain ⟨c3, f3, l3⟩ := k3.rules
      go_wp2_with fail
      refine (hgu _ (hG0.out.below b)).mono ?_
      rintro e W2 ⟨A, ac, rfl, hA, hbel⟩
      clear c3 f3 l3 hgu
      replace k3 := k3.below hbel
      replace b := b.trans (hbel.mono b.size)
      clear hbel
      replace hA := hA.mono (Nat.zero_le _)
      go_wp2_with fail
      refine (hsg.out A ac _ hA (hS0.out.below b) (hD0.out.below b)).mono ?_
      rintro e W3 ⟨O, co, rfl, hr, hbel⟩
      clear hsg
      go_wp2_with fail
      go_ret2
      rw [hv.out]
      exact ⟨O, ns + 48, co, rfl, hr.mono b.size, b.trans (hbel.mono b.size)⟩
end Go.Proofs.YtfengddpfeneiaaGreat
