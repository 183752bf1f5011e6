/-
  The law ShotReached.
-/
import Derived.Test.YtfengddpfeneiaaS28
import Derived.Test.YtfengddpfeneiaaS45
namespace Go.Proofs.Ytfengddpfeneiaa
open Go.RowKit Go.Shelf
set_option linter.unusedSimpArgs false
set_option linter.unusedVariables false

/-- The two lists of delays. -/
structure TwoR (W : World) (B gl gh n cl ch : Nat) (ls hs : List Int) : Prop where
  ne : gl ≠ gh
  bl : B ≤ gl
  bh : B ≤ gh
  l : W.ownsRow B 3 1 (.slice (some ⟨gl, 0, none⟩) n cl) n (ls.map (Value.int .i64 ·))
  h : W.ownsRow B 3 1 (.slice (some ⟨gh, 0, none⟩) n ch) n (hs.map (Value.int .i64 ·))
theorem TwoR.storeL {W : World} {B gl gh n cl ch : Nat} {ls hs : List Int} (t : TwoR W B gl gh n cl ch ls hs) {k : Nat} (hk : k < n) (x : Int) :
    (∃ v0, W.cell? ⟨gl, k, none⟩ = some v0) ∧ W.frozen? ⟨gl, k, none⟩ = false ∧ TwoR (W.setCell ⟨gl, k, none⟩ (.int .i64 x)) B gl gh n cl ch (ls.set k x) hs := by
  have h2 := (t.l.stored k (.int .i64 x)).1
  rw [← List.map_set] at h2
  exact ⟨own_cell t.l (by omega), t.l.frozenAt k, t.ne, t.bl, t.bh, h2, ownsRow_setCell t.h (p := ⟨gl, k, none⟩) (fun e => by simp only [Value.ownBlock, Option.some.injEq] at e; exact t.ne e.symm) (.int .i64 x)⟩
theorem TwoR.storeH {W : World} {B gl gh n cl ch : Nat} {ls hs : List Int} (t : TwoR W B gl gh n cl ch ls hs) {k : Nat} (hk : k < n) (x : Int) :
    (∃ v0, W.cell? ⟨gh, k, none⟩ = some v0) ∧ W.frozen? ⟨gh, k, none⟩ = false ∧ TwoR (W.setCell ⟨gh, k, none⟩ (.int .i64 x)) B gl gh n cl ch ls (hs.set k x) := by
  have h2 := (t.h.stored k (.int .i64 x)).1
  rw [← List.map_set] at h2
  exact ⟨own_cell t.h (by omega), t.h.frozenAt k, t.ne, t.bl, t.bh, ownsRow_setCell t.l (p := ⟨gh, k, none⟩) (fun e => by simp only [Value.ownBlock, Option.some.injEq] at e; exact t.ne e) (.int .i64 x), h2⟩
theorem TwoR.below {W W' : World} {B gl gh n cl ch : Nat} {ls hs : List Int} (t : TwoR W B gl gh n cl ch ls hs) (hb : Below W.heap.size W W') : TwoR W' B gl gh n cl ch ls hs := ⟨t.ne, t.bl, t.bh, ownsRow_below t.l hb, ownsRow_below t.h hb⟩
/-- What a list of delays holds once j delays of gun i have been looked at. -/
def setJ (ls : List Int) (i j : Nat) (d : Int) : List Int := if j = 0 then ls else ls.set i d
theorem setJ_set (ls : List Int) (i j : Nat) (d e : Int) : (setJ ls i j d).set i e = setJ ls i (j + 1) e := by
  unfold setJ
  rw [if_neg (show ¬ j + 1 = 0 by omega)]
  split
  · rfl
  · exact set_set _ _ _ _
theorem setJ_keep (ls : List Int) (i : Nat) {j : Nat} (d : Int) (hj : ¬ j = 0) : setJ ls i j d = setJ ls i (j + 1) d := by
  unfold setJ
  rw [if_neg hj, if_neg (show ¬ j + 1 = 0 by omega)]
theorem setJ_end (ls : List Int) (i : Nat) {j : Nat} (d : Int) (hj : 0 < j) : setJ ls i j d = ls.set i d := by unfold setJ; rw [if_neg (show ¬ j = 0 by omega)]
theorem low_start (a : Arr) (t : Int) (ha : okArr a = true) : lowTo a t (lateL a.gs []) 0 := ⟨late_in [] (fun g hg => (okArr_gun ha hg).2.2.2.2.2.1), fun k g d h => by omega⟩
theorem high_start (a : Arr) (t : Int) (ha : okArr a = true) : highTo a t (lateL a.gs []) 0 := ⟨late_in [] (fun g hg => (okArr_gun ha hg).2.2.2.2.2.1), fun k g d h => by omega⟩
theorem btL_yes {n lo hi : Int} (h : lo ≤ n ∧ n ≤ hi) (w : World) : Calls Try.prog 54 #[.int .i64 n, .int .i64 lo, .int .i64 hi] w fun e w' => e = .returned (.bool true) ∧ w = w' := by
  have := Between_any n lo hi w
  rwa [decide_eq_true h] at this
theorem btL_no {n lo hi : Int} (h : ¬ (lo ≤ n ∧ n ≤ hi)) (w : World) : Calls Try.prog 54 #[.int .i64 n, .int .i64 lo, .int .i64 hi] w fun e w' => e = .returned (.bool false) ∧ w = w' := by
  have := Between_any n lo hi w
  rwa [decide_eq_false h] at this
theorem val_int {a b : Int} (h : a = b) : Value.int .i64 a = .int .i64 b := by rw [h]
theorem TwoR.drewN {W : World} {B gl gh n cl ch : Nat} {ls hs : List Int} (t : TwoR W B gl gh n cl ch ls hs) (k : Nat) : TwoR (W.drewN k) B gl gh n cl ch ls hs := ⟨t.ne, t.bl, t.bh, t.l, t.h⟩
theorem TwoR.ltl {W : World} {B gl gh n cl ch : Nat} {ls hs : List Int} (t : TwoR W B gl gh n cl ch ls hs) : gl < W.heap.size := (t.l.lt gl rfl).2
theorem TwoR.lth {W : World} {B gl gh n cl ch : Nat} {ls hs : List Int} (t : TwoR W B gl gh n cl ch ls hs) : gh < W.heap.size := (t.h.lt gh rfl).2
theorem own_some {w : World} {B n : Nat} {v : Value} {xs : List Value} (h : w.ownsRow B 3 1 v n xs) (hn : 0 < n) : ∃ g c, v = .slice (some ⟨g, 0, none⟩) n c ∧ B ≤ g := by
  rcases h.2 with h2 | ⟨g, cap, cur, hv, hg, r⟩
  · omega
  · exact ⟨g, cap, hv, hg⟩
set_option maxRecDepth 100000 in
set_option maxHeartbeats 8000000 in
theorem ShotReached_any (a : Arr) (S G : Option Addr) (ns cs ng cg : Nat) (t : Int) (w : World) (hS : SlAt w 0 1 ivs S ns cs a.sh) (hG : SlAt w 0 4 Gun.cells G ng cg a.gs) :
    Calls Try.prog 9 #[.agg #[.slice S ns cs, .slice G ng cg], .int .i64 t] w fun e w' => e = .returned (.bool true) ∧ Below w.heap.size w w' := by
  have h1 := fun W h h' => sEnclose_any a S G ns cs ng cg W h h'
  have hsl := Lib.hid hS.len
  have hgl := Lib.hid hG.len
  unfold RetSl at h1
  obtain ⟨w1, hw1⟩ : ∃ w1, w1 = w.alloc (.cells #[.slice S ns cs, .slice G ng cg] 25) := ⟨_, rfl⟩
  have k3 : Blk w1 w.heap.size 25 #[.slice S ns cs, .slice G ng cg] := by rw [hw1]; exact Blk.new _ _ _
  have b : Below w.heap.size w w1 := by rw [hw1]; exact (Below.refl _ _).alloc (Nat.le_refl _) _
  have hS1 : SlAt w1 0 1 ivs S ns cs a.sh := by rw [hw1]; exact hS.alloc _
  have hG1 : SlAt w1 0 4 Gun.cells G ng cg a.gs := by rw [hw1]; exact hG.alloc _
  clear hS hG
  by_cases ha : okArr a = true
  · have hv1 : encAR a = (encA a, 0) := by unfold encAR; rw [if_pos ha]
    simp only [hv1] at h1
    have har := okArr_len ha
    unfold arrLen at har
    rw [hsl.out, hgl.out] at har
    obtain ⟨r1, r2, r3, r4⟩ := har
    have hR := fun W => Rest_any t ((ns : Int) + 48) W (by omega)
    have hrb := restS_bd t (many := (ns : Int) + 48) (by omega)
    obtain ⟨q, hq⟩ : ∃ q : Nat, restS t ((ns : Int) + 48) = (q : Int) := ⟨_, (Int.toNat_of_nonneg hrb.1).symm⟩
    rw [hq] at hR hrb
    have hq1 : q < ns + 48 := by omega
    have hq2 : (0 : Int) ≤ (q : Int) := by omega
    have hq3 : (q : Int) < (ns : Int) + 48 := by omega
    have hL := fun W h h' h'' => late_own a ha [] S G none ns cs ng cg 0 0 0 0 0 W h h' h''
    have h3 := fun P pc ds W h h' h'' => Signature_any a S G P ns cs ng cg ng pc ds W h h' h''
    unfold RetSl at h3
    have hsg := Lib.hid (fun ds (hd : okDel a ds = true) => show sigR a ds = (sigL a ds [], 0) by unfold sigR; rw [if_pos (errA_ok ha hd)])
    have hsat := Lib.hid (fun ds t h => sigL_at a ds [] (t := t) h)
    have heat : (encA a)[q]? = some (encAtS a q) := mapRange_at _ (by rw [hsl.out]; exact hq1)
    have hsll := Lib.hid (fun ds => show (sigL a ds []).length = ns + 48 by rw [sigL_len, hsl.out])
    have hell : Hid ((encA a).length = ns + 48) := by show _ = _; simp [encA, hsl.out]
    have hgo := Lib.hid (fun (g : Gun) (h : g ∈ a.gs) => okArr_gun ha h)
    have hsb := Lib.hid (fun k => okArr_sh ha k)
    have hls := Lib.hid (low_start a q ha)
    have hhs := Lib.hid (high_start a q ha)
    have hido := Lib.hid (fun ds (h : inD a.gs ds) => inD_ok ha h)
    have u0 := IntWalk.i64_in ((ns : Int) + 48) (by omega)
    have u1 := IntWalk.i64_in ((ns : Int) - 1) (by omega)
    have u2 := IntWalk.i64_in ((q : Int) - 16) (by omega)
    clear hv1 hrb
    replace hq := Lib.hid hq
    go_enter Try.func9, Try.ntmps9
    go_wp2_with fail
    rw [← hw1]
    clear hw1
    obtain ⟨c3, f3, l3⟩ := k3.rules
    go_wp2_with fail
    refine (h1 _ hS1 hG1).mono ?_
    rintro e W ⟨T, n1, ct, rfl, hT, hb⟩
    clear c3 f3 l3
    (replace hT := hT.mono (Nat.zero_le _))
    replace k3 := k3.below hb
    replace b := b.trans (hb.mono b.size)
    replace hS1 := hS1.below hb
    replace hG1 := hG1.below hb
    clear hb
    obtain rfl : ns + 48 = n1 := hell.out.symm.trans hT.len
    obtain ⟨c3, f3, l3⟩ := k3.rules
    go_wp2_with fail
    refine (hR _).mono ?_
    rintro e w' ⟨rfl, rfl⟩
    go_wp2_with fail
    clear c3 f3 l3 h1 hR
    refine wp_held_np (fun w' : World => (∀ j, w'.cell? ⟨w.heap.size, j, none⟩ = #[Value.slice S ns cs, .slice G ng cg][j]?) ∧ True) (by kernel_rfl) ?_
    replace k3 := k3.drew
    replace b := b.drew
    replace hS1 := hS1.drew
    replace hG1 := hG1.drew
    replace hT := hT.drew
    generalize W.drew = wd at *
    have hSx : (fun w' : World => (∀ j, w'.cell? ⟨w.heap.size, j, none⟩ = #[Value.slice S ns cs, .slice G ng cg][j]?) ∧ True) wd := ⟨k3.cell, trivial⟩
    refine held_take (i := 0) (v := ?_) 44 rfl rfl (by kernel_rfl) (by kernel_rfl) (by kernel_rfl) (fun _ _ _ h => h) (Or.inl ⟨by rfl, ?_⟩) hSx ?_
    rotate_left 1
    · intro w' hSw
      try dsimp only at hSw
      obtain ⟨q1, q2⟩ := hSw
      go_simp
      all_goals with_reducible rfl
    try simp only [Act.put, List.setIfInBounds_toArray, List.set_cons_zero, List.set_cons_succ]
    refine held_take (i := 2) (v := ?_) 46 rfl rfl (by kernel_rfl) (by kernel_rfl) (by kernel_rfl) (fun _ _ _ h => h) (Or.inl ⟨by rfl, ?_⟩) hSx ?_
    rotate_left 1
    · intro w' hSw
      try dsimp only at hSw
      obtain ⟨q1, q2⟩ := hSw
      go_simp
      all_goals with_reducible rfl
    try simp only [Act.put, List.setIfInBounds_toArray, List.set_cons_zero, List.set_cons_succ]
    clear hSx
    refine held_one (i := 1) (by kernel_rfl) rfl rfl (fun K hK => ?_)
    go_simp
    refine (hL _ hS1 hG1 (SlAt.nil _ _ _ _)).mono ?_
    rintro e W2 ⟨v, rfl, hown, hb⟩
    obtain ⟨gl, cl, rfl, hgb⟩ := own_some hown (by omega)
    refine hK _ _ ⟨(k3.below hb).cell, trivial⟩ ?_
    clear hK K
    try simp only [Act.put, List.setIfInBounds_toArray, List.set_cons_zero, List.set_cons_succ]
    refine held_one (i := 3) (by kernel_rfl) rfl rfl (fun K hK => ?_)
    go_simp
    refine (hL _ (hS1.below hb) (hG1.below hb) (SlAt.nil _ _ _ _)).mono ?_
    rintro e W3 ⟨v, rfl, hown2, hb2⟩
    obtain ⟨gh, ch, rfl, hgb2⟩ := own_some hown2 (by omega)
    have htr : TwoR W3 wd.heap.size gl gh ng cl ch (lateL a.gs []) (lateL a.gs []) := ⟨by have := (hown.lt gl rfl).2; omega, hgb, by have := (hown.lt gl rfl).2; omega, ownsRow_below hown hb2, ownsRow_base hown2 (by have := (hown.lt gl rfl).2; omega)⟩
    have hbt := hb.trans (hb2.mono hb.size)
    clear hb hb2 hown hown2 hgb hgb2 hL
    refine hK _ _ ⟨(k3.below hbt).cell, trivial⟩ ?_
    clear hK K
    try simp only [Act.put, List.setIfInBounds_toArray, List.set_cons_zero, List.set_cons_succ]
    have hSx : (fun w' : World => (∀ j, w'.cell? ⟨w.heap.size, j, none⟩ = #[Value.slice S ns cs, .slice G ng cg][j]?) ∧ True) W3 := ⟨(k3.below hbt).cell, trivial⟩
    refine held_take (i := 4) (v := ?_) 8 rfl rfl (by kernel_rfl) (by kernel_rfl) (by kernel_rfl) (fun _ _ _ h => h) (Or.inl ⟨by rfl, ?_⟩) hSx ?_
    rotate_left 1
    · intro w' hSw
      try dsimp only at hSw
      obtain ⟨q1, q2⟩ := hSw
      go_simp
      all_goals with_reducible rfl
    try simp only [Act.put, List.setIfInBounds_toArray, List.set_cons_zero, List.set_cons_succ]
    refine held_take (i := 5) (v := ?_) 9 rfl rfl (by kernel_rfl) (by kernel_rfl) (by kernel_rfl) (fun _ _ _ h => h) (Or.inl ⟨by rfl, ?_⟩) hSx ?_
    rotate_left 1
    · intro w' hSw
      try dsimp only at hSw
      obtain ⟨q1, q2⟩ := hSw
      go_simp
      all_goals with_reducible rfl
    try simp only [Act.put, List.setIfInBounds_toArray, List.set_cons_zero, List.set_cons_succ]
    refine wpAnyH_done (by kernel_rfl) (noPanic_normal ?_) _
    clear hSx
    try simp only [Act.put, List.setIfInBounds_toArray, List.set_cons_zero, List.set_cons_succ]
    go_wp2_with fail
    go_loopw [10] (fun i wr => ∃ k : Nat, ∃ ls hs : List Int, i = .int .i64 (k : Int) ∧ k ≤ ng ∧ TwoR wr wd.heap.size gl gh ng cl ch ls hs ∧ lowTo a q ls k ∧ highTo a q hs k ∧ Below wd.heap.size wd wr) (fun i wr => ng - (intOf i).toNat)
    case atStart => exact ⟨0, _, _, rfl, Nat.zero_le _, htr, hls.out, hhs.out, hbt⟩
    case round =>
      obtain ⟨i, ls, hs, rfl, hi, htr1, hlo, hhi, hb9⟩ := hrel
      have k3r := k3.below hb9
      obtain ⟨c3, f3, l3⟩ := k3r.rules
      by_cases hlt : i < ng
      · obtain ⟨x, hx⟩ := some_of_lt hgl.out hlt
        obtain ⟨bq, oq, hA, -, -, e0, e1, e2, e3⟩ := (hG1.below hb9).gun hx
        have hxo := hgo.out x (List.mem_of_getElem? hx)
        have hk0 : (0 : Int) ≤ (i : Int) := by omega
        have hk1 : (i : Int) < (ng : Int) := by omega
        obtain ⟨o1, o2, o3, o4, o5, o6, o7⟩ := hxo
        have kg := Blk.new wr 74 #[.int .i64 x.vol, .int .i64 x.time, .int .i64 x.late.lo, .int .i64 x.late.hi]
        have bg := hb9.alloc hb9.size (.cells #[.int .i64 x.vol, .int .i64 x.time, .int .i64 x.late.lo, .int .i64 x.late.hi] 74)
        have k3g := k3r.alloc (.cells #[.int .i64 x.vol, .int .i64 x.time, .int .i64 x.late.lo, .int .i64 x.late.hi] 74)
        have htg := htr1.below ((Below.refl wr.heap.size wr).alloc (Nat.le_refl _) (.cells #[.int .i64 x.vol, .int .i64 x.time, .int .i64 x.late.lo, .int .i64 x.late.hi] 74))
        have hll := Lib.hid htr1.ltl
        have hlh := Lib.hid htr1.lth
        subst hA
        clear htr htr1 hb9 k3r hbt
        go_upto_region 12 with fail
        clear c3 f3 l3 e0 e1 e2 e3
        generalize wr.heap.size = g11 at *
        generalize wr.alloc (.cells #[.int .i64 x.vol, .int .i64 x.time, .int .i64 x.late.lo, .int .i64 x.late.hi] 74) = V at *
        clear wr
        replace hlo := Lib.hid hlo
        replace hhi := Lib.hid hhi
        replace hx := Lib.hid hx
        have hin := Lib.hid hlt
        have hes := Lib.hid (ends_start a.sh o6 (q : Int))
        replace hll : Hid (¬ g11 = gl) := by show ¬ g11 = gl; have := hll.out; omega
        replace hlh : Hid (¬ g11 = gh) := by show ¬ g11 = gh; have := hlh.out; omega
        have h11l := hll
        have h11h := hlh
        have hbd := bg.size
        have hg3 : Hid (Blk wd w.heap.size 25 #[.slice S ns cs, .slice (some ⟨bq, oq, none⟩) ng cg]) := k3
        have hwi := Lib.hid (show widS x = (x.late.hi + 1 - x.late.lo).toNat from rfl)
        obtain ⟨c11, f11, l11⟩ := kg.rules
        go_wp2_with fail
        clear c11 f11 l11
        go_loopw [12, 13, 14] (fun lv mv dv wr => ∃ j : Nat, ∃ least most dl dh : Int, EndsAt a.sh x (q : Int) j least most dl dh ∧ dv = .int .i64 (x.late.lo + (j : Int)) ∧ j ≤ widS x ∧ lv = .int .i64 least ∧ mv = .int .i64 most ∧ TwoR wr wd.heap.size gl gh ng cl ch (setJ ls i j dl) (setJ hs i j dh) ∧ Blk wr g11 74 #[.int .i64 x.vol, .int .i64 x.time, .int .i64 x.late.lo, .int .i64 x.late.hi] ∧ Below wd.heap.size wd wr) (fun lv mv dv wr => (x.late.hi + 1 - intOf dv).toNat)
        case atStart => exact ⟨0, _, _, _, _, hes.out, val_int (by omega), Nat.zero_le _, rfl, rfl, htg, kg, bg⟩
        case round =>
          obtain ⟨j, least, most, dl, dh, hend, rfl, hj, rfl, rfl, htr, k11, hb12⟩ := hrel
          rw [hwi.out] at hj
          obtain ⟨e, he⟩ : ∃ e, e = x.late.lo + (j : Int) := ⟨_, rfl⟩
          rw [← he]
          have hej := Lib.hid he
          obtain ⟨c11, f11, l11⟩ := k11.rules
          have k3r := hg3.out.below hb12
          obtain ⟨c3, f3, l3⟩ := k3r.rules
          by_cases hle : e ≤ x.late.hi
          · have hj2 : Hid (j + 1 ≤ widS x) := by show _ ≤ _; rw [hwi.out]; omega
            have hN := fun R h => ends_next hend he hle (x := R) h
            have u3 := IntWalk.i64_in ((q : Int) - 16 - x.time) (by omega)
            have u4 := IntWalk.i64_in ((q : Int) - 16 - x.time - e) (by omega)
            have u5 := IntWalk.i64_in (e + 1) (by omega)
            have hel : Hid (elS x (q : Int) e = (q : Int) - 16 - x.time - e) := rfl
            clear he
            by_cases hqq : 0 ≤ elS x (q : Int) e ∧ elS x (q : Int) e ≤ (ns : Int) - 1
            · have hv : Hid (giveS a.sh x (q : Int) e = x.vol * a.sh.getD (elS x (q : Int) e).toNat 0) := by show _ = _; unfold giveS; rw [hsl.out, if_pos hqq]
              have hB := fun W => btL_yes hqq W
              obtain ⟨m, hm⟩ : ∃ m : Nat, elS x (q : Int) e = m := ⟨(elS x (q : Int) e).toNat, by omega⟩
              rw [hm] at hqq
              have hjl : m < a.sh.length := by rw [hsl.out]; omega
              have hxm := get_getD (l := a.sh) (i := m) 0 hjl
              obtain ⟨bs, os, hA, -, -, s0⟩ := (hS1.below hb12).int hxm
              have hxb := hsb.out m
              have hmb := mulBd (a := x.vol) (b := a.sh.getD m 0) (A := 1000) (B := 1000) (by omega) (by omega) (by omega) (by omega)
              have hv2 : giveS a.sh x (q : Int) e = x.vol * a.sh.getD m 0 := by rw [hv.out, hm, Int.toNat_natCast]
              replace hN := hN _ hv2.symm
              generalize hyy : a.sh.getD m 0 = y at *
              rw [hel.out] at hB hm
              have u6 := IntWalk.i64_in (x.vol * y) (by omega)
              have hm0 : (0 : Int) ≤ (m : Int) := by omega
              have hm1 : (m : Int) < (ns : Int) := by omega
              rw [hm] at hB u4
              subst hA
              clear hmb hxm hqq hv hv2 hyy
              generalize hRR : x.vol * y = R at *
              go_wp2_with fail
              try rw [hm]
              refine (hB _).mono ?_
              rintro e' w' ⟨rfl, rfl⟩
              go_wp2_with fail
              refine wp_region_quiet_lit (by kernel_rfl) (by kernel_rfl) ?_
              repeat (go_big_quiet_step (fail))
              apply quiet_end
              rintro _ ⟨nq, rfl⟩
              replace htr := htr.drewN nq
              replace k11 := k11.drewN nq
              replace hb12 := below_drewN hb12 nq
              replace k3r := k3r.drewN nq
              clear c3 f3 l3 c11 f11 l11 s0 hB hm
              generalize wr.drewN nq = V1 at *
              clear wr
              obtain ⟨c3, f3, l3⟩ := k3r.rules
              obtain ⟨c11, f11, l11⟩ := k11.rules
              by_cases hz : e = x.late.lo
              · have z1 : (e = x.late.lo) = True := eq_true hz
                have z1b : (e == x.late.lo) = true := by rw [beq_iff_eq]; exact hz
                have p1 : e = x.late.lo ∨ R < least := .inl hz
                have p2 : e = x.late.lo ∨ most < R := .inl hz
                simp only [p1, p2, if_true] at hN
                replace hN := Lib.hid hN
                clear p1 p2 hz
                obtain ⟨⟨v0, hcc⟩, hfr, htr2⟩ := htr.storeL hin.out e
                rw [setJ_set] at htr2
                have hbz := hb12.setCell (p := ⟨gl, i, none⟩) (by dsimp only; have := htr.bl; omega) (.int .i64 e)
                have k11z := k11.far (p := ⟨gl, i, none⟩) (by dsimp only; have := h11l.out; omega) (.int .i64 e)
                go_upto_region 21 with fail
                clear hcc hfr htr hb12 c3 f3 l3 c11 f11 l11 k11
                generalize V1.setCell ⟨gl, i, none⟩ (.int .i64 e) = V2 at *
                have htr := htr2
                have hb12 := hbz
                have k11 := k11z
                clear htr2 hbz k11z
                obtain ⟨c11, f11, l11⟩ := k11.rules
                obtain ⟨⟨v1, hcc⟩, hfr, htr2⟩ := htr.storeH hin.out e
                rw [setJ_set] at htr2
                have hbz := hb12.setCell (p := ⟨gh, i, none⟩) (by dsimp only; have := htr.bh; omega) (.int .i64 e)
                have k11z := k11.far (p := ⟨gh, i, none⟩) (by dsimp only; have := h11h.out; omega) (.int .i64 e)
                go_wp2_with fail
                go_roundw
                case rel => exact ⟨j + 1, _, _, _, _, hN.out, val_int (by rw [hej.out]; omega), hj2.out, rfl, rfl, htr2, k11z, hbz⟩
                case measure => simp [intOf]; omega
              · have z1 : (e = x.late.lo) = False := eq_false hz
                have z1b : (e == x.late.lo) = false := by rw [beq_eq_false_iff_ne]; exact hz
                have hj0 : ¬ j = 0 := fun h => hz (by rw [hej.out, h]; omega)
                by_cases y1 : R < least
                · have p1 : e = x.late.lo ∨ R < least := .inr y1
                  have y1e : (R < least) = True := eq_true y1
                  by_cases y2 : most < R
                  · have p2 : e = x.late.lo ∨ most < R := .inr y2
                    have y2e : (most < R) = True := eq_true y2
                    simp only [p1, p2, if_true] at hN
                    replace hN := Lib.hid hN
                    clear p1 p2 hz y1 y2
                    obtain ⟨⟨v0, hcc⟩, hfr, htr2⟩ := htr.storeL hin.out e
                    rw [setJ_set] at htr2
                    have hbz := hb12.setCell (p := ⟨gl, i, none⟩) (by dsimp only; have := htr.bl; omega) (.int .i64 e)
                    have k11z := k11.far (p := ⟨gl, i, none⟩) (by dsimp only; have := h11l.out; omega) (.int .i64 e)
                    go_upto_region 21 with fail
                    clear hcc hfr htr hb12 c3 f3 l3 c11 f11 l11 k11
                    generalize V1.setCell ⟨gl, i, none⟩ (.int .i64 e) = V2 at *
                    have htr := htr2
                    have hb12 := hbz
                    have k11 := k11z
                    clear htr2 hbz k11z
                    obtain ⟨c11, f11, l11⟩ := k11.rules
                    obtain ⟨⟨v1, hcc⟩, hfr, htr2⟩ := htr.storeH hin.out e
                    rw [setJ_set] at htr2
                    have hbz := hb12.setCell (p := ⟨gh, i, none⟩) (by dsimp only; have := htr.bh; omega) (.int .i64 e)
                    have k11z := k11.far (p := ⟨gh, i, none⟩) (by dsimp only; have := h11h.out; omega) (.int .i64 e)
                    go_wp2_with fail
                    go_roundw
                    case rel => exact ⟨j + 1, _, _, _, _, hN.out, val_int (by rw [hej.out]; omega), hj2.out, rfl, rfl, htr2, k11z, hbz⟩
                    case measure => simp [intOf]; omega
                  · have p2 : ¬ (e = x.late.lo ∨ most < R) := fun h => h.elim hz y2
                    have y2e : (most < R) = False := eq_false y2
                    simp only [p1, p2, if_true, if_false] at hN
                    replace hN := Lib.hid hN
                    clear p1 p2 hz y1 y2
                    obtain ⟨⟨v0, hcc⟩, hfr, htr2⟩ := htr.storeL hin.out e
                    rw [setJ_set] at htr2
                    have hbz := hb12.setCell (p := ⟨gl, i, none⟩) (by dsimp only; have := htr.bl; omega) (.int .i64 e)
                    have k11z := k11.far (p := ⟨gl, i, none⟩) (by dsimp only; have := h11l.out; omega) (.int .i64 e)
                    go_upto_region 21 with fail
                    clear hcc hfr htr hb12 c3 f3 l3 c11 f11 l11 k11
                    generalize V1.setCell ⟨gl, i, none⟩ (.int .i64 e) = V2 at *
                    have htr := htr2
                    have hb12 := hbz
                    have k11 := k11z
                    clear htr2 hbz k11z
                    obtain ⟨c11, f11, l11⟩ := k11.rules
                    rw [setJ_keep hs i dh hj0] at htr
                    go_wp2_with fail
                    go_roundw
                    case rel => exact ⟨j + 1, _, _, _, _, hN.out, val_int (by rw [hej.out]; omega), hj2.out, rfl, rfl, htr, k11, hb12⟩
                    case measure => simp [intOf]; omega
                · have p1 : ¬ (e = x.late.lo ∨ R < least) := fun h => h.elim hz y1
                  have y1e : (R < least) = False := eq_false y1
                  by_cases y2 : most < R
                  · have p2 : e = x.late.lo ∨ most < R := .inr y2
                    have y2e : (most < R) = True := eq_true y2
                    simp only [p1, p2, if_true, if_false] at hN
                    replace hN := Lib.hid hN
                    clear p1 p2 hz y1 y2
                    rw [setJ_keep ls i dl hj0] at htr
                    obtain ⟨⟨v1, hcc⟩, hfr, htr2⟩ := htr.storeH hin.out e
                    rw [setJ_set] at htr2
                    have hbz := hb12.setCell (p := ⟨gh, i, none⟩) (by dsimp only; have := htr.bh; omega) (.int .i64 e)
                    have k11z := k11.far (p := ⟨gh, i, none⟩) (by dsimp only; have := h11h.out; omega) (.int .i64 e)
                    go_wp2_with fail
                    go_roundw
                    case rel => exact ⟨j + 1, _, _, _, _, hN.out, val_int (by rw [hej.out]; omega), hj2.out, rfl, rfl, htr2, k11z, hbz⟩
                    case measure => simp [intOf]; omega
                  · have p2 : ¬ (e = x.late.lo ∨ most < R) := fun h => h.elim hz y2
                    have y2e : (most < R) = False := eq_false y2
                    simp only [p1, p2, if_false] at hN
                    replace hN := Lib.hid hN
                    clear p1 p2 hz y1 y2
                    rw [setJ_keep ls i dl hj0] at htr
                    rw [setJ_keep hs i dh hj0] at htr
                    go_wp2_with fail
                    go_roundw
                    case rel => exact ⟨j + 1, _, _, _, _, hN.out, val_int (by rw [hej.out]; omega), hj2.out, rfl, rfl, htr, k11, hb12⟩
                    case measure => simp [intOf]; omega
            · have hv : giveS a.sh x (q : Int) e = 0 := by unfold giveS; rw [hsl.out, if_neg hqq]
              have hB := fun W => btL_no hqq W
              rw [hel.out] at hB
              replace hN := hN _ hv.symm
              clear hqq hv
              go_wp2_with fail
              refine (hB _).mono ?_
              rintro e' w' ⟨rfl, rfl⟩
              go_upto_region 19 with fail
              clear hB
              by_cases hz : e = x.late.lo
              · have z1 : (e = x.late.lo) = True := eq_true hz
                have z1b : (e == x.late.lo) = true := by rw [beq_iff_eq]; exact hz
                have p1 : e = x.late.lo ∨ (0 : Int) < least := .inl hz
                have p2 : e = x.late.lo ∨ most < (0 : Int) := .inl hz
                simp only [p1, p2, if_true] at hN
                replace hN := Lib.hid hN
                clear p1 p2 hz
                obtain ⟨⟨v0, hcc⟩, hfr, htr2⟩ := htr.storeL hin.out e
                rw [setJ_set] at htr2
                have hbz := hb12.setCell (p := ⟨gl, i, none⟩) (by dsimp only; have := htr.bl; omega) (.int .i64 e)
                have k11z := k11.far (p := ⟨gl, i, none⟩) (by dsimp only; have := h11l.out; omega) (.int .i64 e)
                go_upto_region 21 with fail
                clear hcc hfr htr hb12 c3 f3 l3 c11 f11 l11 k11
                generalize wr.setCell ⟨gl, i, none⟩ (.int .i64 e) = V2 at *
                have htr := htr2
                have hb12 := hbz
                have k11 := k11z
                clear htr2 hbz k11z
                obtain ⟨c11, f11, l11⟩ := k11.rules
                obtain ⟨⟨v1, hcc⟩, hfr, htr2⟩ := htr.storeH hin.out e
                rw [setJ_set] at htr2
                have hbz := hb12.setCell (p := ⟨gh, i, none⟩) (by dsimp only; have := htr.bh; omega) (.int .i64 e)
                have k11z := k11.far (p := ⟨gh, i, none⟩) (by dsimp only; have := h11h.out; omega) (.int .i64 e)
                go_wp2_with fail
                go_roundw
                case rel => exact ⟨j + 1, _, _, _, _, hN.out, val_int (by rw [hej.out]; omega), hj2.out, rfl, rfl, htr2, k11z, hbz⟩
                case measure => simp [intOf]; omega
              · have z1 : (e = x.late.lo) = False := eq_false hz
                have z1b : (e == x.late.lo) = false := by rw [beq_eq_false_iff_ne]; exact hz
                have hj0 : ¬ j = 0 := fun h => hz (by rw [hej.out, h]; omega)
                by_cases y1 : (0 : Int) < least
                · have p1 : e = x.late.lo ∨ (0 : Int) < least := .inr y1
                  have y1e : ((0 : Int) < least) = True := eq_true y1
                  by_cases y2 : most < (0 : Int)
                  · have p2 : e = x.late.lo ∨ most < (0 : Int) := .inr y2
                    have y2e : (most < (0 : Int)) = True := eq_true y2
                    simp only [p1, p2, if_true] at hN
                    replace hN := Lib.hid hN
                    clear p1 p2 hz y1 y2
                    obtain ⟨⟨v0, hcc⟩, hfr, htr2⟩ := htr.storeL hin.out e
                    rw [setJ_set] at htr2
                    have hbz := hb12.setCell (p := ⟨gl, i, none⟩) (by dsimp only; have := htr.bl; omega) (.int .i64 e)
                    have k11z := k11.far (p := ⟨gl, i, none⟩) (by dsimp only; have := h11l.out; omega) (.int .i64 e)
                    go_upto_region 21 with fail
                    clear hcc hfr htr hb12 c3 f3 l3 c11 f11 l11 k11
                    generalize wr.setCell ⟨gl, i, none⟩ (.int .i64 e) = V2 at *
                    have htr := htr2
                    have hb12 := hbz
                    have k11 := k11z
                    clear htr2 hbz k11z
                    obtain ⟨c11, f11, l11⟩ := k11.rules
                    obtain ⟨⟨v1, hcc⟩, hfr, htr2⟩ := htr.storeH hin.out e
                    rw [setJ_set] at htr2
                    have hbz := hb12.setCell (p := ⟨gh, i, none⟩) (by dsimp only; have := htr.bh; omega) (.int .i64 e)
                    have k11z := k11.far (p := ⟨gh, i, none⟩) (by dsimp only; have := h11h.out; omega) (.int .i64 e)
                    go_wp2_with fail
                    go_roundw
                    case rel => exact ⟨j + 1, _, _, _, _, hN.out, val_int (by rw [hej.out]; omega), hj2.out, rfl, rfl, htr2, k11z, hbz⟩
                    case measure => simp [intOf]; omega
                  · have p2 : ¬ (e = x.late.lo ∨ most < (0 : Int)) := fun h => h.elim hz y2
                    have y2e : (most < (0 : Int)) = False := eq_false y2
                    simp only [p1, p2, if_true, if_false] at hN
                    replace hN := Lib.hid hN
                    clear p1 p2 hz y1 y2
                    obtain ⟨⟨v0, hcc⟩, hfr, htr2⟩ := htr.storeL hin.out e
                    rw [setJ_set] at htr2
                    have hbz := hb12.setCell (p := ⟨gl, i, none⟩) (by dsimp only; have := htr.bl; omega) (.int .i64 e)
                    have k11z := k11.far (p := ⟨gl, i, none⟩) (by dsimp only; have := h11l.out; omega) (.int .i64 e)
                    go_upto_region 21 with fail
                    clear hcc hfr htr hb12 c3 f3 l3 c11 f11 l11 k11
                    generalize wr.setCell ⟨gl, i, none⟩ (.int .i64 e) = V2 at *
                    have htr := htr2
                    have hb12 := hbz
                    have k11 := k11z
                    clear htr2 hbz k11z
                    obtain ⟨c11, f11, l11⟩ := k11.rules
                    rw [setJ_keep hs i dh hj0] at htr
                    go_wp2_with fail
                    go_roundw
                    case rel => exact ⟨j + 1, _, _, _, _, hN.out, val_int (by rw [hej.out]; omega), hj2.out, rfl, rfl, htr, k11, hb12⟩
                    case measure => simp [intOf]; omega
                · have p1 : ¬ (e = x.late.lo ∨ (0 : Int) < least) := fun h => h.elim hz y1
                  have y1e : ((0 : Int) < least) = False := eq_false y1
                  by_cases y2 : most < (0 : Int)
                  · have p2 : e = x.late.lo ∨ most < (0 : Int) := .inr y2
                    have y2e : (most < (0 : Int)) = True := eq_true y2
                    simp only [p1, p2, if_true, if_false] at hN
                    replace hN := Lib.hid hN
                    clear p1 p2 hz y1 y2
                    rw [setJ_keep ls i dl hj0] at htr
                    obtain ⟨⟨v1, hcc⟩, hfr, htr2⟩ := htr.storeH hin.out e
                    rw [setJ_set] at htr2
                    have hbz := hb12.setCell (p := ⟨gh, i, none⟩) (by dsimp only; have := htr.bh; omega) (.int .i64 e)
                    have k11z := k11.far (p := ⟨gh, i, none⟩) (by dsimp only; have := h11h.out; omega) (.int .i64 e)
                    go_wp2_with fail
                    go_roundw
                    case rel => exact ⟨j + 1, _, _, _, _, hN.out, val_int (by rw [hej.out]; omega), hj2.out, rfl, rfl, htr2, k11z, hbz⟩
                    case measure => simp [intOf]; omega
                  · have p2 : ¬ (e = x.late.lo ∨ most < (0 : Int)) := fun h => h.elim hz y2
                    have y2e : (most < (0 : Int)) = False := eq_false y2
                    simp only [p1, p2, if_false] at hN
                    replace hN := Lib.hid hN
                    clear p1 p2 hz y1 y2
                    rw [setJ_keep ls i dl hj0] at htr
                    rw [setJ_keep hs i dh hj0] at htr
                    go_wp2_with fail
                    go_roundw
                    case rel => exact ⟨j + 1, _, _, _, _, hN.out, val_int (by rw [hej.out]; omega), hj2.out, rfl, rfl, htr, k11, hb12⟩
                    case measure => simp [intOf]; omega
          · have hjw : j = widS x := by rw [hwi.out]; omega
            have hw0 : 0 < widS x := by rw [hwi.out]; omega
            have hj0 : 0 < j := by omega
            rw [setJ_end ls i dl hj0, setJ_end hs i dh hj0] at htr
            rw [hjw] at hend
            have hlo2 := lowTo_next hlo.out hx.out hend hw0
            have hhi2 := highTo_next hhi.out hx.out hend hw0
            replace hlo2 := Lib.hid hlo2
            replace hhi2 := Lib.hid hhi2
            clear hend hjw hw0 hj0 he hej
            go_wp2_with fail
            go_roundw
            case rel => exact ⟨i + 1, _, _, by go_num, by omega, htr, hlo2.out, hhi2.out, hb12⟩
            case measure => simp [intOf]; omega
      · obtain rfl : i = ng := by omega
        have hok1 := hido.out _ hlo.1
        have hok2 := hido.out _ hhi.1
        have hC1 := fun P pc W h h' h'' => h3 P pc ls W h h' h''
        have hC2 := fun P pc W h h' h'' => h3 P pc hs W h h' h''
        simp only [hsg.out _ hok1] at hC1
        simp only [hsg.out _ hok2] at hC2
        have hx1 : (sigL a ls [])[q]? = some (encAtS a q).lo := by
          rw [hsat.out ls q (by rw [hsl.out]; exact hq1), show sigAt a ls [] q = (encAtS a q).lo from by have := lowTo_sum (by rw [hgl.out]; exact hlo) _ (Nat.le_refl _); exact this]
        have hx2 : (sigL a hs [])[q]? = some (encAtS a q).hi := by
          rw [hsat.out hs q (by rw [hsl.out]; exact hq1), show sigAt a hs [] q = (encAtS a q).hi from by have := highTo_sum (by rw [hgl.out]; exact hhi) _ (Nat.le_refl _); exact this]
        have hl1 := Lib.hid (hsll.out ls)
        have hl2 := Lib.hid (hsll.out hs)
        have hll1 : ls.length = i := by rw [hlo.1.1]; exact hgl.out
        have hll2 : hs.length = i := by rw [hhi.1.1]; exact hgl.out
        obtain ⟨P1, pc1, e1, hP1⟩ := SlAt.of_own (enc := ivs) htr1.l (by omega) ls (flatMap_ivs _).symm (fun _ => rfl) hll1
        obtain ⟨P2, pc2, e2, hP2⟩ := SlAt.of_own (enc := ivs) htr1.h (by omega) hs (flatMap_ivs _).symm (fun _ => rfl) hll2
        simp only [Value.slice.injEq, true_and] at e1 e2
        obtain ⟨rfl, rfl⟩ := e1
        obtain ⟨rfl, rfl⟩ := e2
        have hS2 := hS1.below hb9
        have hG2 := hG1.below hb9
        have hT2 := hT.below hb9
        have b2 := b.trans (hb9.mono b.size)
        replace hP1 := hP1.mono (Nat.zero_le _)
        replace hP2 := hP2.mono (Nat.zero_le _)
        generalize sigL a ls [] = L1 at *
        generalize sigL a hs [] = L2 at *
        clear hlo hhi htr1 hb9 hok1 hok2 hll1 hll2 hS1 hG1 hT k3 b hls hhs htr hbt c3 f3 l3 h3
        have k3 := k3r
        have b := b2
        have hS1 := hS2
        have hG1 := hG2
        clear k3r b2 hS2 hG2
        -- CONT1
        obtain ⟨c3, f3, l3⟩ := k3.rules
        go_wp2_with fail
        refine (hC1 _ _ _ hS1 hG1 hP1).mono ?_
        rintro e W7 ⟨U1, n1, cu1, rfl, hU1, hb⟩
        clear c3 f3 l3
        (replace hP2 := hP2.below hb); (replace hT2 := hT2.below hb); (replace hU1 := hU1.mono (Nat.zero_le _))
        replace k3 := k3.below hb
        replace b := b.trans (hb.mono b.size)
        replace hS1 := hS1.below hb
        replace hG1 := hG1.below hb
        clear hb
        obtain rfl : ns + 48 = n1 := hl1.out.symm.trans hU1.len
        obtain ⟨c3, f3, l3⟩ := k3.rules
        go_wp2_with fail
        refine (hC2 _ _ _ hS1 hG1 hP2).mono ?_
        rintro e W8 ⟨U2, n2, cu2, rfl, hU2, hb⟩
        clear c3 f3 l3
        (replace hU1 := hU1.below hb); (replace hT2 := hT2.below hb); (replace hU2 := hU2.mono (Nat.zero_le _))
        replace k3 := k3.below hb
        replace b := b.trans (hb.mono b.size)
        replace hS1 := hS1.below hb
        replace hG1 := hG1.below hb
        clear hb
        obtain rfl : ns + 48 = n2 := hl2.out.symm.trans hU2.len
        clear hC1 hC2 hP1 hP2 hl1 hl2 hS1 hG1
        obtain ⟨bT, oT, hA, -, g1, y0, y1⟩ := hT2.bnd heat
        obtain ⟨bu, ou, hA1, -, g2, x1⟩ := hU1.int hx1
        obtain ⟨bv, ov, hA2, -, g3, x2⟩ := hU2.int hx2
        subst hA hA1 hA2
        generalize (encAtS a q).hi = eh at *
        generalize hel : (encAtS a q).lo = el at *
        clear hT2 hU1 hU2 heat hx1 hx2 hel
        go_wp2_with fail
        have hPE := Lib.hid (Below.refl W8.heap.size W8)
        refine wp_held_np (fun w' : World => (w'.cell? ⟨bT, oT + q * 2, none⟩ = some (.int .i64 el) ∧ w'.cell? ⟨bT, oT + q * 2 + 1, none⟩ = some (.int .i64 eh)) ∧ (w'.cell? ⟨bu, ou + q, none⟩ = some (.int .i64 el) ∧ w'.cell? ⟨bv, ov + q, none⟩ = some (.int .i64 eh))) (by kernel_rfl) ?_
        replace b := b.drew
        have hSx : (fun w' : World => (w'.cell? ⟨bT, oT + q * 2, none⟩ = some (.int .i64 el) ∧ w'.cell? ⟨bT, oT + q * 2 + 1, none⟩ = some (.int .i64 eh)) ∧ (w'.cell? ⟨bu, ou + q, none⟩ = some (.int .i64 el) ∧ w'.cell? ⟨bv, ov + q, none⟩ = some (.int .i64 eh))) W8.drew := ⟨⟨y0, y1⟩, x1, x2⟩
        replace g1 : bT < W8.drew.heap.size := g1
        replace g2 : bu < W8.drew.heap.size := g2
        replace g3 : bv < W8.drew.heap.size := g3
        replace y0 := hSx.1.1
        replace y1 := hSx.1.2
        replace x1 := hSx.2.1
        replace x2 := hSx.2.2
        generalize W8.drew = W9 at *
        refine held_take (i := 0) (v := ?_) 133 rfl rfl (by kernel_rfl) (by kernel_rfl) (by kernel_rfl) (fun _ _ _ h => h) (Or.inl ⟨by rfl, ?_⟩) hSx ?_
        rotate_left 1
        · intro w' hSw
          try dsimp only at hSw
          obtain ⟨⟨q1, q2⟩, q3, q4⟩ := hSw
          go_simp
          all_goals with_reducible rfl
        try simp only [Act.put, List.setIfInBounds_toArray, List.set_cons_zero, List.set_cons_succ]
        refine held_take (i := 1) (v := ?_) 134 rfl rfl (by kernel_rfl) (by kernel_rfl) (by kernel_rfl) (fun _ _ _ h => h) (Or.inl ⟨by rfl, ?_⟩) hSx ?_
        rotate_left 1
        · intro w' hSw
          try dsimp only at hSw
          obtain ⟨⟨q1, q2⟩, q3, q4⟩ := hSw
          go_simp
          all_goals with_reducible rfl
        try simp only [Act.put, List.setIfInBounds_toArray, List.set_cons_zero, List.set_cons_succ]
        refine held_take (i := 2) (v := ?_) 135 rfl rfl (by kernel_rfl) (by kernel_rfl) (by kernel_rfl) (fun _ _ _ h => h) (Or.inl ⟨by rfl, ?_⟩) hSx ?_
        rotate_left 1
        · intro w' hSw
          try dsimp only at hSw
          obtain ⟨⟨q1, q2⟩, q3, q4⟩ := hSw
          go_simp
          all_goals with_reducible rfl
        try simp only [Act.put, List.setIfInBounds_toArray, List.set_cons_zero, List.set_cons_succ]
        refine held_take (i := 3) (v := ?_) 136 rfl rfl (by kernel_rfl) (by kernel_rfl) (by kernel_rfl) (fun _ _ _ h => h) (Or.inl ⟨by rfl, ?_⟩) hSx ?_
        rotate_left 1
        · intro w' hSw
          try dsimp only at hSw
          obtain ⟨⟨q1, q2⟩, q3, q4⟩ := hSw
          go_simp
          all_goals with_reducible rfl
        try simp only [Act.put, List.setIfInBounds_toArray, List.set_cons_zero, List.set_cons_succ]
        refine held_take (i := 4) (v := ?_) 137 rfl rfl (by kernel_rfl) (by kernel_rfl) (by kernel_rfl) (fun _ _ _ h => h) (Or.inl ⟨by rfl, ?_⟩) hSx ?_
        rotate_left 1
        · intro w' hSw
          try dsimp only at hSw
          obtain ⟨⟨q1, q2⟩, q3, q4⟩ := hSw
          go_simp
          all_goals with_reducible rfl
        try simp only [Act.put, List.setIfInBounds_toArray, List.set_cons_zero, List.set_cons_succ]
        refine held_take (i := 5) (v := ?_) 138 rfl rfl (by kernel_rfl) (by kernel_rfl) (by kernel_rfl) (fun _ _ _ h => h) (Or.inl ⟨by rfl, ?_⟩) hSx ?_
        rotate_left 1
        · intro w' hSw
          try dsimp only at hSw
          obtain ⟨⟨q1, q2⟩, q3, q4⟩ := hSw
          go_simp
          all_goals with_reducible rfl
        try simp only [Act.put, List.setIfInBounds_toArray, List.set_cons_zero, List.set_cons_succ]
        refine held_take (i := 6) (v := ?_) 139 rfl rfl (by kernel_rfl) (by kernel_rfl) (by kernel_rfl) (fun _ _ _ h => h) (Or.inl ⟨by rfl, ?_⟩) hSx ?_
        rotate_left 1
        · intro w' hSw
          try dsimp only at hSw
          obtain ⟨⟨q1, q2⟩, q3, q4⟩ := hSw
          go_simp
          all_goals with_reducible rfl
        try simp only [Act.put, List.setIfInBounds_toArray, List.set_cons_zero, List.set_cons_succ]
        refine held_take (i := 7) (v := ?_) 140 rfl rfl (by kernel_rfl) (by kernel_rfl) (by kernel_rfl) (fun _ _ _ h => h) (Or.inl ⟨by rfl, ?_⟩) hSx ?_
        rotate_left 1
        · intro w' hSw
          try dsimp only at hSw
          obtain ⟨⟨q1, q2⟩, q3, q4⟩ := hSw
          go_simp
          all_goals with_reducible rfl
        try simp only [Act.put, List.setIfInBounds_toArray, List.set_cons_zero, List.set_cons_succ]
        refine held_take (i := 8) (v := ?_) 141 rfl rfl (by kernel_rfl) (by kernel_rfl) (by kernel_rfl) (fun _ _ _ h => h) (Or.inl ⟨by rfl, ?_⟩) hSx ?_
        rotate_left 1
        · intro w' hSw
          try dsimp only at hSw
          obtain ⟨⟨q1, q2⟩, q3, q4⟩ := hSw
          go_simp
          all_goals with_reducible rfl
        try simp only [Act.put, List.setIfInBounds_toArray, List.set_cons_zero, List.set_cons_succ]
        refine held_take (i := 9) (v := ?_) 142 rfl rfl (by kernel_rfl) (by kernel_rfl) (by kernel_rfl) (fun _ _ _ h => h) (Or.inl ⟨by rfl, ?_⟩) hSx ?_
        rotate_left 1
        · intro w' hSw
          try dsimp only at hSw
          obtain ⟨⟨q1, q2⟩, q3, q4⟩ := hSw
          go_simp
          all_goals with_reducible rfl
        try simp only [Act.put, List.setIfInBounds_toArray, List.set_cons_zero, List.set_cons_succ]
        refine held_take (i := 10) (v := ?_) 143 rfl rfl (by kernel_rfl) (by kernel_rfl) (by kernel_rfl) (fun _ _ _ h => h) (Or.inl ⟨by rfl, ?_⟩) hSx ?_
        rotate_left 1
        · intro w' hSw
          try dsimp only at hSw
          obtain ⟨⟨q1, q2⟩, q3, q4⟩ := hSw
          go_simp
          all_goals with_reducible rfl
        try simp only [Act.put, List.setIfInBounds_toArray, List.set_cons_zero, List.set_cons_succ]
        refine held_take (i := 11) (v := ?_) 144 rfl rfl (by kernel_rfl) (by kernel_rfl) (by kernel_rfl) (fun _ _ _ h => h) (Or.inl ⟨by rfl, ?_⟩) hSx ?_
        rotate_left 1
        · intro w' hSw
          try dsimp only at hSw
          obtain ⟨⟨q1, q2⟩, q3, q4⟩ := hSw
          go_simp
          all_goals with_reducible rfl
        try simp only [Act.put, List.setIfInBounds_toArray, List.set_cons_zero, List.set_cons_succ]
        refine held_take (i := 12) (v := ?_) 145 rfl rfl (by kernel_rfl) (by kernel_rfl) (by kernel_rfl) (fun _ _ _ h => h) (Or.inl ⟨by rfl, ?_⟩) hSx ?_
        rotate_left 1
        · intro w' hSw
          try dsimp only at hSw
          obtain ⟨⟨q1, q2⟩, q3, q4⟩ := hSw
          go_simp
          all_goals with_reducible rfl
        try simp only [Act.put, List.setIfInBounds_toArray, List.set_cons_zero, List.set_cons_succ]
        refine held_take (i := 13) (v := ?_) 146 rfl rfl (by kernel_rfl) (by kernel_rfl) (by kernel_rfl) (fun _ _ _ h => h) (Or.inl ⟨by rfl, ?_⟩) hSx ?_
        rotate_left 1
        · intro w' hSw
          try dsimp only at hSw
          obtain ⟨⟨q1, q2⟩, q3, q4⟩ := hSw
          go_simp
          all_goals with_reducible rfl
        try simp only [Act.put, List.setIfInBounds_toArray, List.set_cons_zero, List.set_cons_succ]
        refine held_take (i := 14) (v := ?_) 147 rfl rfl (by kernel_rfl) (by kernel_rfl) (by kernel_rfl) (fun _ _ _ h => h) (Or.inl ⟨by rfl, ?_⟩) hSx ?_
        rotate_left 1
        · intro w' hSw
          try dsimp only at hSw
          obtain ⟨⟨q1, q2⟩, q3, q4⟩ := hSw
          go_simp
          all_goals with_reducible rfl
        try simp only [Act.put, List.setIfInBounds_toArray, List.set_cons_zero, List.set_cons_succ]
        refine held_take (i := 15) (v := ?_) 148 rfl rfl (by kernel_rfl) (by kernel_rfl) (by kernel_rfl) (fun _ _ _ h => h) (Or.inl ⟨by rfl, ?_⟩) hSx ?_
        rotate_left 1
        · intro w' hSw
          try dsimp only at hSw
          obtain ⟨⟨q1, q2⟩, q3, q4⟩ := hSw
          go_simp
          all_goals with_reducible rfl
        try simp only [Act.put, List.setIfInBounds_toArray, List.set_cons_zero, List.set_cons_succ]
        refine held_take (i := 16) (v := ?_) 149 rfl rfl (by kernel_rfl) (by kernel_rfl) (by kernel_rfl) (fun _ _ _ h => h) (Or.inl ⟨by rfl, ?_⟩) hSx ?_
        rotate_left 1
        · intro w' hSw
          try dsimp only at hSw
          obtain ⟨⟨q1, q2⟩, q3, q4⟩ := hSw
          go_simp
          all_goals with_reducible rfl
        try simp only [Act.put, List.setIfInBounds_toArray, List.set_cons_zero, List.set_cons_succ]
        refine held_take (i := 17) (v := ?_) 150 rfl rfl (by kernel_rfl) (by kernel_rfl) (by kernel_rfl) (fun _ _ _ h => h) (Or.inl ⟨by rfl, ?_⟩) hSx ?_
        rotate_left 1
        · intro w' hSw
          try dsimp only at hSw
          obtain ⟨⟨q1, q2⟩, q3, q4⟩ := hSw
          go_simp
          all_goals with_reducible rfl
        try simp only [Act.put, List.setIfInBounds_toArray, List.set_cons_zero, List.set_cons_succ]
        refine held_take (i := 18) (v := ?_) 151 rfl rfl (by kernel_rfl) (by kernel_rfl) (by kernel_rfl) (fun _ _ _ h => h) (Or.inl ⟨by rfl, ?_⟩) hSx ?_
        rotate_left 1
        · intro w' hSw
          try dsimp only at hSw
          obtain ⟨⟨q1, q2⟩, q3, q4⟩ := hSw
          go_simp
          all_goals with_reducible rfl
        try simp only [Act.put, List.setIfInBounds_toArray, List.set_cons_zero, List.set_cons_succ]
        refine held_take (i := 19) (v := ?_) 152 rfl rfl (by kernel_rfl) (by kernel_rfl) (by kernel_rfl) (fun _ _ _ h => h) (Or.inl ⟨by rfl, ?_⟩) hSx ?_
        rotate_left 1
        · intro w' hSw
          try dsimp only at hSw
          obtain ⟨⟨q1, q2⟩, q3, q4⟩ := hSw
          go_simp
          all_goals with_reducible rfl
        try simp only [Act.put, List.setIfInBounds_toArray, List.set_cons_zero, List.set_cons_succ]
        refine held_take (i := 20) (v := ?_) 153 rfl rfl (by kernel_rfl) (by kernel_rfl) (by kernel_rfl) (fun _ _ _ h => h) (Or.inl ⟨by rfl, ?_⟩) hSx ?_
        rotate_left 1
        · intro w' hSw
          try dsimp only at hSw
          obtain ⟨⟨q1, q2⟩, q3, q4⟩ := hSw
          go_simp
          all_goals with_reducible rfl
        try simp only [Act.put, List.setIfInBounds_toArray, List.set_cons_zero, List.set_cons_succ]
        refine held_take (i := 21) (v := ?_) 154 rfl rfl (by kernel_rfl) (by kernel_rfl) (by kernel_rfl) (fun _ _ _ h => h) (Or.inl ⟨by rfl, ?_⟩) hSx ?_
        rotate_left 1
        · intro w' hSw
          try dsimp only at hSw
          obtain ⟨⟨q1, q2⟩, q3, q4⟩ := hSw
          go_simp
          all_goals with_reducible rfl
        try simp only [Act.put, List.setIfInBounds_toArray, List.set_cons_zero, List.set_cons_succ]
        refine held_take (i := 22) (v := ?_) 155 rfl rfl (by kernel_rfl) (by kernel_rfl) (by kernel_rfl) (fun _ _ _ h => h) (Or.inl ⟨by rfl, ?_⟩) hSx ?_
        rotate_left 1
        · intro w' hSw
          try dsimp only at hSw
          obtain ⟨⟨q1, q2⟩, q3, q4⟩ := hSw
          go_simp
          all_goals with_reducible rfl
        try simp only [Act.put, List.setIfInBounds_toArray, List.set_cons_zero, List.set_cons_succ]
        refine held_take (i := 23) (v := ?_) 156 rfl rfl (by kernel_rfl) (by kernel_rfl) (by kernel_rfl) (fun _ _ _ h => h) (Or.inl ⟨by rfl, ?_⟩) hSx ?_
        rotate_left 1
        · intro w' hSw
          try dsimp only at hSw
          obtain ⟨⟨q1, q2⟩, q3, q4⟩ := hSw
          go_simp
          all_goals with_reducible rfl
        try simp only [Act.put, List.setIfInBounds_toArray, List.set_cons_zero, List.set_cons_succ]
        refine held_take (i := 24) (v := ?_) 157 rfl rfl (by kernel_rfl) (by kernel_rfl) (by kernel_rfl) (fun _ _ _ h => h) (Or.inl ⟨by rfl, ?_⟩) hSx ?_
        rotate_left 1
        · intro w' hSw
          try dsimp only at hSw
          obtain ⟨⟨q1, q2⟩, q3, q4⟩ := hSw
          go_simp
          all_goals with_reducible rfl
        try simp only [Act.put, List.setIfInBounds_toArray, List.set_cons_zero, List.set_cons_succ]
        refine held_take (i := 25) (v := ?_) 158 rfl rfl (by kernel_rfl) (by kernel_rfl) (by kernel_rfl) (fun _ _ _ h => h) (Or.inl ⟨by rfl, ?_⟩) hSx ?_
        rotate_left 1
        · intro w' hSw
          try dsimp only at hSw
          obtain ⟨⟨q1, q2⟩, q3, q4⟩ := hSw
          go_simp
          all_goals with_reducible rfl
        try simp only [Act.put, List.setIfInBounds_toArray, List.set_cons_zero, List.set_cons_succ]
        refine held_take (i := 26) (v := ?_) 159 rfl rfl (by kernel_rfl) (by kernel_rfl) (by kernel_rfl) (fun _ _ _ h => h) (Or.inl ⟨by rfl, ?_⟩) hSx ?_
        rotate_left 1
        · intro w' hSw
          try dsimp only at hSw
          obtain ⟨⟨q1, q2⟩, q3, q4⟩ := hSw
          go_simp
          all_goals with_reducible rfl
        try simp only [Act.put, List.setIfInBounds_toArray, List.set_cons_zero, List.set_cons_succ]
        refine held_take (i := 27) (v := ?_) 160 rfl rfl (by kernel_rfl) (by kernel_rfl) (by kernel_rfl) (fun _ _ _ h => h) (Or.inl ⟨by rfl, ?_⟩) hSx ?_
        rotate_left 1
        · intro w' hSw
          try dsimp only at hSw
          obtain ⟨⟨q1, q2⟩, q3, q4⟩ := hSw
          go_simp
          all_goals with_reducible rfl
        try simp only [Act.put, List.setIfInBounds_toArray, List.set_cons_zero, List.set_cons_succ]
        refine held_take (i := 28) (v := ?_) 161 rfl rfl (by kernel_rfl) (by kernel_rfl) (by kernel_rfl) (fun _ _ _ h => h) (Or.inl ⟨by rfl, ?_⟩) hSx ?_
        rotate_left 1
        · intro w' hSw
          try dsimp only at hSw
          obtain ⟨⟨q1, q2⟩, q3, q4⟩ := hSw
          go_simp
          all_goals with_reducible rfl
        try simp only [Act.put, List.setIfInBounds_toArray, List.set_cons_zero, List.set_cons_succ]
        refine held_take (i := 29) (v := ?_) 162 rfl rfl (by kernel_rfl) (by kernel_rfl) (by kernel_rfl) (fun _ _ _ h => h) (Or.inl ⟨by rfl, ?_⟩) hSx ?_
        rotate_left 1
        · intro w' hSw
          try dsimp only at hSw
          obtain ⟨⟨q1, q2⟩, q3, q4⟩ := hSw
          go_simp
          all_goals with_reducible rfl
        try simp only [Act.put, List.setIfInBounds_toArray, List.set_cons_zero, List.set_cons_succ]
        refine held_take (i := 30) (v := ?_) 163 rfl rfl (by kernel_rfl) (by kernel_rfl) (by kernel_rfl) (fun _ _ _ h => h) (Or.inl ⟨by rfl, ?_⟩) hSx ?_
        rotate_left 1
        · intro w' hSw
          try dsimp only at hSw
          obtain ⟨⟨q1, q2⟩, q3, q4⟩ := hSw
          go_simp
          all_goals with_reducible rfl
        try simp only [Act.put, List.setIfInBounds_toArray, List.set_cons_zero, List.set_cons_succ]
        refine held_take (i := 31) (v := ?_) 164 rfl rfl (by kernel_rfl) (by kernel_rfl) (by kernel_rfl) (fun _ _ _ h => h) (Or.inl ⟨by rfl, ?_⟩) hSx ?_
        rotate_left 1
        · intro w' hSw
          try dsimp only at hSw
          obtain ⟨⟨q1, q2⟩, q3, q4⟩ := hSw
          go_simp
          all_goals with_reducible rfl
        try simp only [Act.put, List.setIfInBounds_toArray, List.set_cons_zero, List.set_cons_succ]
        refine held_take (i := 32) (v := ?_) 165 rfl rfl (by kernel_rfl) (by kernel_rfl) (by kernel_rfl) (fun _ _ _ h => h) (Or.inl ⟨by rfl, ?_⟩) hSx ?_
        rotate_left 1
        · intro w' hSw
          try dsimp only at hSw
          obtain ⟨⟨q1, q2⟩, q3, q4⟩ := hSw
          go_simp
          all_goals with_reducible rfl
        try simp only [Act.put, List.setIfInBounds_toArray, List.set_cons_zero, List.set_cons_succ]
        refine held_take (i := 33) (v := ?_) 166 rfl rfl (by kernel_rfl) (by kernel_rfl) (by kernel_rfl) (fun _ _ _ h => h) (Or.inl ⟨by rfl, ?_⟩) hSx ?_
        rotate_left 1
        · intro w' hSw
          try dsimp only at hSw
          obtain ⟨⟨q1, q2⟩, q3, q4⟩ := hSw
          go_simp
          all_goals with_reducible rfl
        try simp only [Act.put, List.setIfInBounds_toArray, List.set_cons_zero, List.set_cons_succ]
        refine held_take (i := 34) (v := ?_) 167 rfl rfl (by kernel_rfl) (by kernel_rfl) (by kernel_rfl) (fun _ _ _ h => h) (Or.inl ⟨by rfl, ?_⟩) hSx ?_
        rotate_left 1
        · intro w' hSw
          try dsimp only at hSw
          obtain ⟨⟨q1, q2⟩, q3, q4⟩ := hSw
          go_simp
          all_goals with_reducible rfl
        try simp only [Act.put, List.setIfInBounds_toArray, List.set_cons_zero, List.set_cons_succ]
        refine held_take (i := 35) (v := ?_) 168 rfl rfl (by kernel_rfl) (by kernel_rfl) (by kernel_rfl) (fun _ _ _ h => h) (Or.inl ⟨by rfl, ?_⟩) hSx ?_
        rotate_left 1
        · intro w' hSw
          try dsimp only at hSw
          obtain ⟨⟨q1, q2⟩, q3, q4⟩ := hSw
          go_simp
          all_goals with_reducible rfl
        try simp only [Act.put, List.setIfInBounds_toArray, List.set_cons_zero, List.set_cons_succ]
        refine held_take (i := 36) (v := ?_) 169 rfl rfl (by kernel_rfl) (by kernel_rfl) (by kernel_rfl) (fun _ _ _ h => h) (Or.inl ⟨by rfl, ?_⟩) hSx ?_
        rotate_left 1
        · intro w' hSw
          try dsimp only at hSw
          obtain ⟨⟨q1, q2⟩, q3, q4⟩ := hSw
          go_simp
          all_goals with_reducible rfl
        try simp only [Act.put, List.setIfInBounds_toArray, List.set_cons_zero, List.set_cons_succ]
        refine held_take (i := 37) (v := ?_) 170 rfl rfl (by kernel_rfl) (by kernel_rfl) (by kernel_rfl) (fun _ _ _ h => h) (Or.inl ⟨by rfl, ?_⟩) hSx ?_
        rotate_left 1
        · intro w' hSw
          try dsimp only at hSw
          obtain ⟨⟨q1, q2⟩, q3, q4⟩ := hSw
          go_simp
          all_goals with_reducible rfl
        try simp only [Act.put, List.setIfInBounds_toArray, List.set_cons_zero, List.set_cons_succ]
        refine held_take (i := 38) (v := ?_) 171 rfl rfl (by kernel_rfl) (by kernel_rfl) (by kernel_rfl) (fun _ _ _ h => h) (Or.inl ⟨by rfl, ?_⟩) hSx ?_
        rotate_left 1
        · intro w' hSw
          try dsimp only at hSw
          obtain ⟨⟨q1, q2⟩, q3, q4⟩ := hSw
          go_simp
          all_goals with_reducible rfl
        try simp only [Act.put, List.setIfInBounds_toArray, List.set_cons_zero, List.set_cons_succ]
        refine held_take (i := 39) (v := ?_) 172 rfl rfl (by kernel_rfl) (by kernel_rfl) (by kernel_rfl) (fun _ _ _ h => h) (Or.inl ⟨by rfl, ?_⟩) hSx ?_
        rotate_left 1
        · intro w' hSw
          try dsimp only at hSw
          obtain ⟨⟨q1, q2⟩, q3, q4⟩ := hSw
          go_simp
          all_goals with_reducible rfl
        try simp only [Act.put, List.setIfInBounds_toArray, List.set_cons_zero, List.set_cons_succ]
        refine held_take (i := 40) (v := ?_) 173 rfl rfl (by kernel_rfl) (by kernel_rfl) (by kernel_rfl) (fun _ _ _ h => h) (Or.inl ⟨by rfl, ?_⟩) hSx ?_
        rotate_left 1
        · intro w' hSw
          try dsimp only at hSw
          obtain ⟨⟨q1, q2⟩, q3, q4⟩ := hSw
          go_simp
          all_goals with_reducible rfl
        try simp only [Act.put, List.setIfInBounds_toArray, List.set_cons_zero, List.set_cons_succ]
        refine held_take (i := 41) (v := ?_) 174 rfl rfl (by kernel_rfl) (by kernel_rfl) (by kernel_rfl) (fun _ _ _ h => h) (Or.inl ⟨by rfl, ?_⟩) hSx ?_
        rotate_left 1
        · intro w' hSw
          try dsimp only at hSw
          obtain ⟨⟨q1, q2⟩, q3, q4⟩ := hSw
          go_simp
          all_goals with_reducible rfl
        try simp only [Act.put, List.setIfInBounds_toArray, List.set_cons_zero, List.set_cons_succ]
        refine held_take (i := 42) (v := ?_) 175 rfl rfl (by kernel_rfl) (by kernel_rfl) (by kernel_rfl) (fun _ _ _ h => h) (Or.inl ⟨by rfl, ?_⟩) hSx ?_
        rotate_left 1
        · intro w' hSw
          try dsimp only at hSw
          obtain ⟨⟨q1, q2⟩, q3, q4⟩ := hSw
          go_simp
          all_goals with_reducible rfl
        try simp only [Act.put, List.setIfInBounds_toArray, List.set_cons_zero, List.set_cons_succ]
        refine held_take (i := 43) (v := ?_) 176 rfl rfl (by kernel_rfl) (by kernel_rfl) (by kernel_rfl) (fun _ _ _ h => h) (Or.inl ⟨by rfl, ?_⟩) hSx ?_
        rotate_left 1
        · intro w' hSw
          try dsimp only at hSw
          obtain ⟨⟨q1, q2⟩, q3, q4⟩ := hSw
          go_simp
          all_goals with_reducible rfl
        try simp only [Act.put, List.setIfInBounds_toArray, List.set_cons_zero, List.set_cons_succ]
        refine held_take (i := 44) (v := ?_) 177 rfl rfl (by kernel_rfl) (by kernel_rfl) (by kernel_rfl) (fun _ _ _ h => h) (Or.inl ⟨by rfl, ?_⟩) hSx ?_
        rotate_left 1
        · intro w' hSw
          try dsimp only at hSw
          obtain ⟨⟨q1, q2⟩, q3, q4⟩ := hSw
          go_simp
          all_goals with_reducible rfl
        try simp only [Act.put, List.setIfInBounds_toArray, List.set_cons_zero, List.set_cons_succ]
        clear hSx
        refine held_one (i := 45) (by kernel_rfl) rfl rfl (fun K hK => ?_)
        go_simp
        refine (works_any _).mono ?_
        rintro e Wz ⟨rfl, hb⟩
        have hSx : (fun w' : World => (w'.cell? ⟨bT, oT + q * 2, none⟩ = some (.int .i64 el) ∧ w'.cell? ⟨bT, oT + q * 2 + 1, none⟩ = some (.int .i64 eh)) ∧ (w'.cell? ⟨bu, ou + q, none⟩ = some (.int .i64 el) ∧ w'.cell? ⟨bv, ov + q, none⟩ = some (.int .i64 eh))) Wz := ⟨⟨(hb.cell g1).trans y0, (hb.cell g1).trans y1⟩, (hb.cell g2).trans x1, (hb.cell g3).trans x2⟩
        refine hK _ _ hSx ?_
        clear hK K
        try simp only [Act.put, List.setIfInBounds_toArray, List.set_cons_zero, List.set_cons_succ]
        refine held_take (i := 46) (v := ?_) 179 rfl rfl (by kernel_rfl) (by kernel_rfl) (by kernel_rfl) (fun _ _ _ h => h) (Or.inl ⟨by rfl, ?_⟩) hSx ?_
        rotate_left 1
        · intro w' hSw
          try dsimp only at hSw
          obtain ⟨⟨q1, q2⟩, q3, q4⟩ := hSw
          go_simp
          all_goals with_reducible rfl
        try simp only [Act.put, List.setIfInBounds_toArray, List.set_cons_zero, List.set_cons_succ]
        refine held_take (i := 47) (v := ?_) 4 rfl rfl (by kernel_rfl) (by kernel_rfl) (by kernel_rfl) (fun _ _ _ h => h) (Or.inl ⟨by rfl, ?_⟩) hSx ?_
        rotate_left 1
        · intro w' hSw
          try dsimp only at hSw
          obtain ⟨⟨q1, q2⟩, q3, q4⟩ := hSw
          go_simp
          all_goals with_reducible rfl
        try simp only [Act.put, List.setIfInBounds_toArray, List.set_cons_zero, List.set_cons_succ]
        refine wpAnyH_done (by kernel_rfl) (noPanic_normal ?_) _
        clear hSx
        try simp only [Act.put, List.setIfInBounds_toArray, List.set_cons_zero, List.set_cons_succ]
        go_wp2_with fail
        go_ret
        exact ⟨rfl, b.trans (hb.mono b.size)⟩
  · have hv1 : encAR a = ([], 50) := by unfold encAR; rw [if_neg ha]
    simp only [hv1] at h1
    clear ha hv1
    go_enter Try.func9, Try.ntmps9
    go_wp2_with fail
    rw [← hw1]
    clear hw1
    obtain ⟨c3, f3, l3⟩ := k3.rules
    go_wp2_with fail
    refine (h1 _ hS1 hG1).mono ?_
    rintro e W ⟨T, n1, ct, rfl, hT, hb⟩
    obtain rfl : n1 = 0 := hT.len.symm
    clear c3 f3 l3 h1 hT
    replace k3 := k3.below hb
    replace b := b.trans (hb.mono b.size)
    replace hS1 := hS1.below hb
    replace hG1 := hG1.below hb
    clear hb
    go_wp2_with fail
    refine (works_any _).mono ?_
    rintro e Wz ⟨rfl, hb⟩
    go_wp2_with fail
    go_ret
    exact ⟨rfl, b.trans (hb.mono b.size)⟩
end Go.Proofs.Ytfengddpfeneiaa
