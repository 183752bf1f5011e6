/-
  Shots, walks: what a gun gives, the planned guns, signatures, bounds and misfits.
-/
import Derived.Test.YtfengddpfeneiaaGreatS1
namespace Go.Proofs.YtfengddpfeneiaaGreat
open Go.RowKit Go.Shelf
set_option linter.unusedSimpArgs false
set_option linter.unusedVariables false

def plc (S : Option Addr) (ns cs : Nat) (g : Gun) : List Value := [.int .i64 g.vol, .int .i64 g.time, .int .i64 g.late.lo, .int .i64 g.late.hi, .slice S ns cs]
theorem SlAt.pln {w : World} {B n c k ns cs : Nat} {A S : Option Addr} {xs : List Gun} {x : Gun} (h : SlAt w B 5 (plc S ns cs) A n c xs) (hk : xs[k]? = some x) :
    ∃ b off, A = some ⟨b, off, none⟩ ∧ B ≤ b ∧ b < w.heap.size ∧ w.cell? ⟨b, off + k * 5, none⟩ = some (.int .i64 x.vol) ∧ w.cell? ⟨b, off + k * 5 + 1, none⟩ = some (.int .i64 x.time) ∧ w.cell? ⟨b, off + k * 5 + 2, none⟩ = some (.int .i64 x.late.lo) ∧ w.cell? ⟨b, off + k * 5 + 3, none⟩ = some (.int .i64 x.late.hi) ∧ w.cell? ⟨b, off + k * 5 + 4, none⟩ = some (.slice S ns cs) := by
  obtain ⟨b, off, hA, hB, hb, hc⟩ := h.at_ hk
  exact ⟨b, off, hA, hB, hb, hc 0 _ rfl, hc 1 _ rfl, hc 2 _ rfl, hc 3 _ rfl, hc 4 _ rfl⟩
theorem widS_posQ {g : Gun} (h : g.late.lo ≤ g.late.hi) : 0 < widS g ∧ (widS g : Int) = g.late.hi + 1 - g.late.lo := by unfold widS; omega
def gunOk (g : Gun) : Prop := 1 ≤ g.vol ∧ g.vol ≤ 1000 ∧ 0 ≤ g.time ∧ g.time ≤ 16 ∧ -16 ≤ g.late.lo ∧ g.late.lo ≤ g.late.hi ∧ g.late.hi ≤ 16
set_option maxHeartbeats 400000 in
theorem element_any (g : Gun) (t d : Int) (w : World) (hg : gunOk g) (ht : 0 ≤ t ∧ t ≤ 1000) (hd : -16 ≤ d ∧ d ≤ 16) :
    Calls Tryz.prog 151 #[.agg #[.int .i64 g.vol, .int .i64 g.time, .int .i64 g.late.lo, .int .i64 g.late.hi], .int .i64 t, .int .i64 d] w fun e w' => e = .returned (.int .i64 (elS g t d)) ∧ Below w.heap.size w w' := by
  unfold gunOk at hg
  obtain ⟨h1, h2, h3, h4, h5, h6, h7⟩ := hg
  obtain ⟨t1, t2⟩ := ht
  obtain ⟨d1, d2⟩ := hd
  have u1 := IntWalk.i64_in (t - 16) (by omega)
  have u2 := IntWalk.i64_in (t - 16 - g.time) (by omega)
  have u3 := IntWalk.i64_in (t - 16 - g.time - d) (by omega)
  go_enter Tryz.func151, Tryz.ntmps151
  go_wp2
  go_ret
  exact ⟨rfl, (Below.refl _ _).alloc (Nat.le_refl _) _⟩
set_option maxRecDepth 100000 in
set_option maxHeartbeats 1000000 in
theorem gives_any (a : Arr) (ha : okArr a = true) (g : Gun) (hg : gunOk g) (S : Option Addr) (ns cs B : Nat) (t d : Int) (w : World) (ht : 0 ≤ t ∧ t ≤ 1000) (hd : -16 ≤ d ∧ d ≤ 16) (hS : SlAt w B 1 ivs S ns cs a.sh) :
    Calls Tryz.prog 134 #[.agg #[.int .i64 g.vol, .int .i64 g.time, .int .i64 g.late.lo, .int .i64 g.late.hi, .slice S ns cs], .int .i64 t, .int .i64 d] w fun e w' => e = .returned (.int .i64 (giveS a.sh g t d)) ∧ Below w.heap.size w w' := by
  have hel := fun W => element_any g t d W hg ht hd
  have hbd := giveS_bd ha ⟨hg.1, hg.2.1⟩ t d
  have hsl := hS.len
  have hsn := hS.le
  have hal := okArr_len ha
  unfold arrLen at hal
  have e0 : -100 ≤ elS g t d ∧ elS g t d ≤ 2000 := by unfold gunOk at hg; unfold elS; omega
  have u1 := IntWalk.i64_in ((ns : Int) - 1) (by omega)
  obtain ⟨w1, hw1⟩ : ∃ w1, w1 = w.alloc (.cells #[.int .i64 g.vol, .int .i64 g.time, .int .i64 g.late.lo, .int .i64 g.late.hi, .slice S ns cs] 168) := ⟨_, rfl⟩
  have k3 : Blk w1 w.heap.size 168 #[.int .i64 g.vol, .int .i64 g.time, .int .i64 g.late.lo, .int .i64 g.late.hi, .slice S ns cs] := by rw [hw1]; exact Blk.new _ _ _
  have b : Below w.heap.size w w1 := by rw [hw1]; exact (Below.refl _ _).alloc (Nat.le_refl _) _
  replace hS : SlAt w1 B 1 ivs S ns cs a.sh := by rw [hw1]; exact hS.alloc _
  have hv : giveS a.sh g t d = if 0 ≤ elS g t d ∧ elS g t d ≤ (a.sh.length : Int) - 1 then g.vol * a.sh.getD (elS g t d).toNat 0 else 0 := rfl
  rw [hsl] at hv
  replace hsl := Lib.hid hsl
  generalize elS g t d = el at *
  clear hal
  by_cases h1 : 0 ≤ el ∧ el ≤ (ns : Int) - 1
  · have hw := fun W => sWithin_yes h1 W
    rw [if_pos h1] at hv
    obtain ⟨h2, h3⟩ := h1
    obtain ⟨k, rfl⟩ : ∃ k : Nat, el = k := ⟨el.toNat, by omega⟩
    have hkn : k < ns := by omega
    obtain ⟨bb, off, rfl, -, hbl, x0⟩ := hS.int (get_getD (l := a.sh) (i := k) 0 (by have := hsl.out; omega))
    rw [Int.toNat_natCast] at hv
    rw [hv] at hbd
    have u2 := IntWalk.i64_in (g.vol * a.sh.getD k 0) (by omega)
    replace hv := Lib.hid hv
    generalize a.sh.getD k 0 = y at *
    have hk0 : (0 : Int) ≤ (k : Int) := by omega
    have hk1 : (k : Int) < (ns : Int) := by omega
    clear hbd hsl
    go_enter Tryz.func134, Tryz.ntmps134
    go_wp2_with fail
    rw [← hw1]
    clear hw1
    obtain ⟨c3, f3, l3⟩ := k3.rules
    go_wp2_with fail
    refine (hel _).mono ?_
    rintro e W ⟨rfl, hbel⟩
    clear c3 f3 l3 hel
    replace k3 := k3.below hbel
    replace x0 := (hbel.cell (p := ⟨bb, off + k, none⟩) hbl).trans x0
    replace b := b.trans (hbel.mono b.size)
    obtain ⟨c3, f3, l3⟩ := k3.rules
    go_wp2_with fail
    refine (hw _).mono ?_
    rintro e w' ⟨rfl, rfl⟩
    go_wp2_with fail
    go_quiet (fail)
    go_wp2
    go_ret
    exact ⟨ret_int hv.out.symm, below_drewN b _⟩
  · have hw := fun W => sWithin_no h1 W
    rw [if_neg h1] at hv
    replace hv := Lib.hid hv
    replace h1 := Lib.hid h1
    clear hbd
    go_enter Tryz.func134, Tryz.ntmps134
    go_wp2_with fail
    rw [← hw1]
    clear hw1
    obtain ⟨c3, f3, l3⟩ := k3.rules
    go_wp2_with fail
    refine (hel _).mono ?_
    rintro e W ⟨rfl, hbel⟩
    clear c3 f3 l3 hel
    replace k3 := k3.below hbel
    replace b := b.trans (hbel.mono b.size)
    obtain ⟨c3, f3, l3⟩ := k3.rules
    go_wp2_with fail
    refine (hw _).mono ?_
    rintro e w' ⟨rfl, rfl⟩
    go_wp2_with fail
    go_ret
    exact ⟨ret_int hv.out.symm, b⟩
set_option maxRecDepth 100000 in
set_option maxHeartbeats 2000000 in
theorem between_any (a : Arr) (ha : okArr a = true) (g : Gun) (hg : gunOk g) (S : Option Addr) (ns cs B : Nat) (t : Int) (w : World) (ht : 0 ≤ t ∧ t ≤ 1000) (hS : SlAt w B 1 ivs S ns cs a.sh) :
    Calls Tryz.prog 91 #[.agg #[.int .i64 g.vol, .int .i64 g.time, .int .i64 g.late.lo, .int .i64 g.late.hi, .slice S ns cs], .int .i64 t] w fun e w' => e = .returned (.agg #[.int .i64 (betS a.sh g t).lo, .int .i64 (betS a.sh g t).hi]) ∧ Below w.heap.size w w' := by
  have hgo := Lib.hid hg
  have hgv0 := Lib.hid (fun d (hd : -16 ≤ d ∧ d ≤ 16) W (h : SlAt W B 1 ivs S ns cs a.sh) => gives_any a ha g hg S ns cs B t d W ht hd h)
  have hgv := fun W h => hgv0.out g.late.lo (by have := hg.2.2.2.2; omega) W h
  have hbT := Lib.hid (fun k => betTo_bd ha (g := g) ⟨hg.1, hg.2.1⟩ t k)
  have hwd := Lib.hid (widS_posQ (g := g) (by have := hg.2.2.2.2.2.1; omega))
  obtain ⟨w1, hw1⟩ : ∃ w1, w1 = (w.alloc (.cells #[.int .i64 g.vol, .int .i64 g.time, .int .i64 g.late.lo, .int .i64 g.late.hi, .slice S ns cs] 168)).alloc (.cells #[.int .i64 0, .int .i64 0] 40) := ⟨_, rfl⟩
  have k3 : Blk w1 w.heap.size 168 #[.int .i64 g.vol, .int .i64 g.time, .int .i64 g.late.lo, .int .i64 g.late.hi, .slice S ns cs] := by rw [hw1]; exact (Blk.new _ _ _).alloc _
  have k4 : Blk w1 (w.heap.size + 1) 40 #[.int .i64 0, .int .i64 0] := by rw [hw1]; exact Blk.newAt (by simp)
  have b : Below w.heap.size w w1 := by rw [hw1]; exact ((Below.refl _ _).alloc (Nat.le_refl _) _).alloc (by simp) _
  have hS0 := Lib.hid hS
  replace hS : SlAt w1 B 1 ivs S ns cs a.sh := by rw [hw1]; exact (hS.alloc _).alloc _
  have hb0 : Hid (∀ k, betTo a.sh g t (k + 1) = ⟨min (betTo a.sh g t k).lo (giveS a.sh g t (g.late.lo + k)), max (betTo a.sh g t k).hi (giveS a.sh g t (g.late.lo + k))⟩) := by show ∀ k, _; intro k; rfl
  have hb00 : Hid (betTo a.sh g t 0 = ⟨giveS a.sh g t g.late.lo, giveS a.sh g t g.late.lo⟩) := by show _ = _; rfl
  have hmin := min2_int
  have hmax := max2_int
  generalize hx : giveS a.sh g t g.late.lo = x at hgv hb00
  clear hx hg ht
  go_enter Tryz.func91, Tryz.ntmps91
  go_wp2_with fail
  rw [← hw1]
  clear hw1
  refine wp_held_np (fun w' : World => (∀ j, w'.cell? ⟨w.heap.size, j, none⟩ = #[Value.int .i64 g.vol, .int .i64 g.time, .int .i64 g.late.lo, .int .i64 g.late.hi, .slice S ns cs][j]?) ∧ True) (by kernel_rfl) ?_
  have hSb : Hid (∀ W', Below w1.heap.size w1 W' → (fun w' : World => (∀ j, w'.cell? ⟨w.heap.size, j, none⟩ = #[Value.int .i64 g.vol, .int .i64 g.time, .int .i64 g.late.lo, .int .i64 g.late.hi, .slice S ns cs][j]?) ∧ True) W') := by
    show ∀ _, _
    intro W' hb9
    exact ⟨(k3.below hb9).cell, trivial⟩
  have hb9 : Below w1.heap.size w1 w1.drew := (Below.refl _ _).drew
  have hSx := hSb.out _ hb9
  generalize w1.drew = wd at *
  refine held_take (i := 0) (v := ?_) 8 rfl rfl (by kernel_rfl) (by kernel_rfl) (by kernel_rfl) (fun _ _ _ h => h) (Or.inl ⟨by rfl, ?_⟩) hSx ?_
  rotate_left 1
  · intro w' hSw
    try dsimp only at hSw
    obtain ⟨q1, q2⟩ := hSw
    go_simp
    all_goals with_reducible rfl
  try simp only [Act.put, List.setIfInBounds_toArray, List.set_cons_zero, List.set_cons_succ]
  refine held_take (i := 1) (v := ?_) 9 rfl rfl (by kernel_rfl) (by kernel_rfl) (by kernel_rfl) (fun _ _ _ h => h) (Or.inl ⟨by rfl, ?_⟩) hSx ?_
  rotate_left 1
  · intro w' hSw
    try dsimp only at hSw
    obtain ⟨q1, q2⟩ := hSw
    go_simp
    all_goals with_reducible rfl
  try simp only [Act.put, List.setIfInBounds_toArray, List.set_cons_zero, List.set_cons_succ]
  refine held_take (i := 2) (v := ?_) 10 rfl rfl (by kernel_rfl) (by kernel_rfl) (by kernel_rfl) (fun _ _ _ h => h) (Or.inl ⟨by rfl, ?_⟩) hSx ?_
  rotate_left 1
  · intro w' hSw
    try dsimp only at hSw
    obtain ⟨q1, q2⟩ := hSw
    go_simp
    all_goals with_reducible rfl
  try simp only [Act.put, List.setIfInBounds_toArray, List.set_cons_zero, List.set_cons_succ]
  refine held_take (i := 3) (v := ?_) 11 rfl rfl (by kernel_rfl) (by kernel_rfl) (by kernel_rfl) (fun _ _ _ h => h) (Or.inl ⟨by rfl, ?_⟩) hSx ?_
  rotate_left 1
  · intro w' hSw
    try dsimp only at hSw
    obtain ⟨q1, q2⟩ := hSw
    go_simp
    all_goals with_reducible rfl
  try simp only [Act.put, List.setIfInBounds_toArray, List.set_cons_zero, List.set_cons_succ]
  refine held_take (i := 4) (v := ?_) 12 rfl rfl (by kernel_rfl) (by kernel_rfl) (by kernel_rfl) (fun _ _ _ h => h) (Or.inl ⟨by rfl, ?_⟩) hSx ?_
  rotate_left 1
  · intro w' hSw
    try dsimp only at hSw
    obtain ⟨q1, q2⟩ := hSw
    go_simp
    all_goals with_reducible rfl
  try simp only [Act.put, List.setIfInBounds_toArray, List.set_cons_zero, List.set_cons_succ]
  refine held_take (i := 5) (v := ?_) 13 rfl rfl (by kernel_rfl) (by kernel_rfl) (by kernel_rfl) (fun _ _ _ h => h) (Or.inl ⟨by rfl, ?_⟩) hSx ?_
  rotate_left 1
  · intro w' hSw
    try dsimp only at hSw
    obtain ⟨q1, q2⟩ := hSw
    go_simp
    all_goals with_reducible rfl
  try simp only [Act.put, List.setIfInBounds_toArray, List.set_cons_zero, List.set_cons_succ]
  refine held_take (i := 6) (v := ?_) 14 rfl rfl (by kernel_rfl) (by kernel_rfl) (by kernel_rfl) (fun _ _ _ h => h) (Or.inl ⟨by rfl, ?_⟩) hSx ?_
  rotate_left 1
  · intro w' hSw
    try dsimp only at hSw
    obtain ⟨q1, q2⟩ := hSw
    go_simp
    all_goals with_reducible rfl
  try simp only [Act.put, List.setIfInBounds_toArray, List.set_cons_zero, List.set_cons_succ]
  refine held_take (i := 8) (v := ?_) 16 rfl rfl (by kernel_rfl) (by kernel_rfl) (by kernel_rfl) (fun _ _ _ h => h) (Or.inl ⟨by rfl, ?_⟩) hSx ?_
  rotate_left 1
  · intro w' hSw
    try dsimp only at hSw
    obtain ⟨q1, q2⟩ := hSw
    go_simp
    all_goals with_reducible rfl
  try simp only [Act.put, List.setIfInBounds_toArray, List.set_cons_zero, List.set_cons_succ]
  refine held_take (i := 9) (v := ?_) 17 rfl rfl (by kernel_rfl) (by kernel_rfl) (by kernel_rfl) (fun _ _ _ h => h) (Or.inl ⟨by rfl, ?_⟩) hSx ?_
  rotate_left 1
  · intro w' hSw
    try dsimp only at hSw
    obtain ⟨q1, q2⟩ := hSw
    go_simp
    all_goals with_reducible rfl
  try simp only [Act.put, List.setIfInBounds_toArray, List.set_cons_zero, List.set_cons_succ]
  refine held_take (i := 10) (v := ?_) 18 rfl rfl (by kernel_rfl) (by kernel_rfl) (by kernel_rfl) (fun _ _ _ h => h) (Or.inl ⟨by rfl, ?_⟩) hSx ?_
  rotate_left 1
  · intro w' hSw
    try dsimp only at hSw
    obtain ⟨q1, q2⟩ := hSw
    go_simp
    all_goals with_reducible rfl
  try simp only [Act.put, List.setIfInBounds_toArray, List.set_cons_zero, List.set_cons_succ]
  refine held_take (i := 11) (v := ?_) 19 rfl rfl (by kernel_rfl) (by kernel_rfl) (by kernel_rfl) (fun _ _ _ h => h) (Or.inl ⟨by rfl, ?_⟩) hSx ?_
  rotate_left 1
  · intro w' hSw
    try dsimp only at hSw
    obtain ⟨q1, q2⟩ := hSw
    go_simp
    all_goals with_reducible rfl
  try simp only [Act.put, List.setIfInBounds_toArray, List.set_cons_zero, List.set_cons_succ]
  refine held_take (i := 12) (v := ?_) 20 rfl rfl (by kernel_rfl) (by kernel_rfl) (by kernel_rfl) (fun _ _ _ h => h) (Or.inl ⟨by rfl, ?_⟩) hSx ?_
  rotate_left 1
  · intro w' hSw
    try dsimp only at hSw
    obtain ⟨q1, q2⟩ := hSw
    go_simp
    all_goals with_reducible rfl
  try simp only [Act.put, List.setIfInBounds_toArray, List.set_cons_zero, List.set_cons_succ]
  refine held_take (i := 13) (v := ?_) 21 rfl rfl (by kernel_rfl) (by kernel_rfl) (by kernel_rfl) (fun _ _ _ h => h) (Or.inl ⟨by rfl, ?_⟩) hSx ?_
  rotate_left 1
  · intro w' hSw
    try dsimp only at hSw
    obtain ⟨q1, q2⟩ := hSw
    go_simp
    all_goals with_reducible rfl
  try simp only [Act.put, List.setIfInBounds_toArray, List.set_cons_zero, List.set_cons_succ]
  refine held_take (i := 14) (v := ?_) 22 rfl rfl (by kernel_rfl) (by kernel_rfl) (by kernel_rfl) (fun _ _ _ h => h) (Or.inl ⟨by rfl, ?_⟩) hSx ?_
  rotate_left 1
  · intro w' hSw
    try dsimp only at hSw
    obtain ⟨q1, q2⟩ := hSw
    go_simp
    all_goals with_reducible rfl
  try simp only [Act.put, List.setIfInBounds_toArray, List.set_cons_zero, List.set_cons_succ]
  refine wpAnyH_fin (f := fun a q => ((((a.put (some 15) (.int .i64 x)).put (some 23) (.int .i64 x)).put (some 24) (.agg #[.int .i64 x, .int .i64 x])).put (some 5) (.pointer (some ⟨q, 0, none⟩)))) (B := fun q W' => Blk W' q 40 #[.int .i64 x, .int .i64 x] ∧ w1.heap.size ≤ q ∧ Below w1.heap.size w1 W') ?_ (fun hrest => ?_)
  · rintro g9 W3 ⟨k9, hg9, hb10⟩
    try simp only [Act.put, List.setIfInBounds_toArray, List.set_cons_zero, List.set_cons_succ]
    refine noPanic_normal ?_
    clear hSx hSb hgv hb9
    have hl3 := k3.lt
    have hl4 := k4.lt
    replace k3 := k3.below hb10
    replace k4 := k4.below hb10
    replace hS := hS.below hb10
    replace b := b.trans (hb10.mono b.size)
    clear hb10
    obtain ⟨c3, f3, l3⟩ := k3.rules
    go_wp2_with fail
    clear c3 f3 l3
    go_loopw [6] (fun v wr => ∃ k : Nat, v = .int .i64 (g.late.lo + (k : Int)) ∧ k ≤ widS g ∧ Blk wr g9 40 #[.int .i64 (betTo a.sh g t k).lo, .int .i64 (betTo a.sh g t k).hi] ∧ Blk wr w.heap.size 168 #[.int .i64 g.vol, .int .i64 g.time, .int .i64 g.late.lo, .int .i64 g.late.hi, .slice S ns cs] ∧ Blk wr (w.heap.size + 1) 40 #[.int .i64 0, .int .i64 0] ∧ Below w.heap.size w wr) (fun v wr => (g.late.hi + 1 - intOf v).toNat)
    case atStart => exact ⟨0, by simp, Nat.zero_le _, by rw [hb00.out]; exact k9, k3, k4, b⟩
    case round =>
      obtain ⟨k, rfl, hk, k9, k3, k4, b⟩ := hrel
      have hS := hS0.out.below b
      obtain ⟨hw1, hw2⟩ := hwd.out
      obtain ⟨q1, q2, q3, q4, q5, q6, q7⟩ := hgo.out
      by_cases hlt : k < widS g
      · have e1 : g.late.lo + (k : Int) ≤ g.late.hi := by omega
        have hg2 := hgv0.out (g.late.lo + (k : Int)) (by omega) wr hS
        have hbk := hb0.out k
        have hbT1 := hbT.out k
        have hbT2 := hbT.out (k + 1)
        generalize giveS a.sh g t (g.late.lo + (k : Int)) = y at hg2 hbk
        replace hbk := Lib.hid hbk
        have u1 := IntWalk.i64_in (g.late.lo + (k : Int) + 1) (by omega)
        replace hw2 := Lib.hid hw2
        clear hbT2
        obtain ⟨c3, f3, l3⟩ := k3.rules
        go_wp2_with fail
        clear c3 f3 l3
        refine hg2.mono ?_
        rintro e W ⟨rfl, hbel⟩
        clear hg2
        have hl9 := k9.lt
        replace k9 := k9.below hbel
        replace k3 := k3.below hbel
        replace k4 := k4.below hbel
        clear hS
        replace b := b.trans (hbel.mono b.size)
        obtain ⟨c9, f9, l9⟩ := k9.rules
        go_wp2_with fail
        clear c9 f9 l9
        go_roundw
        case rel =>
          refine ⟨k + 1, by push_cast; rw [Int.add_assoc], by omega, ?_, (k3.far (by dsimp only; omega) _).far (by dsimp only; omega) _, (k4.far (by dsimp only; omega) _).far (by dsimp only; omega) _, (b.setCell (p := ⟨g9, 0, none⟩) (by dsimp only; omega) _).setCell (p := ⟨g9, 1, none⟩) (by dsimp only; omega) _⟩
          have kz := (k9.set_ 0 (.int .i64 (min (betTo a.sh g t k).lo y))).set_ 1 (.int .i64 (max (betTo a.sh g t k).hi y))
          rw [hbk.out]
          simpa using kz
        case measure => simp [intOf]; omega
      · obtain rfl : k = widS g := by omega
        have e1 : ¬ g.late.lo + ((widS g : Nat) : Int) ≤ g.late.hi := by omega
        clear hw2 hS
        have kz := (k4.set_ 0 (.int .i64 (betS a.sh g t).lo)).set_ 1 (.int .i64 (betS a.sh g t).hi)
        simp only [List.setIfInBounds_toArray, List.set_cons_zero, List.set_cons_succ] at kz
        have bz := (b.setCell (p := ⟨w.heap.size + 1, 0, none⟩) (by dsimp only; omega) (.int .i64 (betS a.sh g t).lo)).setCell (p := ⟨w.heap.size + 1, 1, none⟩) (by dsimp only; omega) (.int .i64 (betS a.sh g t).hi)
        obtain ⟨wz, hwz⟩ : ∃ x, x = (wr.setCell ⟨w.heap.size + 1, 0, none⟩ (.int .i64 (betS a.sh g t).lo)).setCell ⟨w.heap.size + 1, 1, none⟩ (.int .i64 (betS a.sh g t).hi) := ⟨_, rfl⟩
        rw [← hwz] at kz bz
        rw [show betTo a.sh g t (widS g) = betS a.sh g t from rfl] at k9
        obtain ⟨c3, f3, l3⟩ := k3.rules
        obtain ⟨c4, f4, l4⟩ := k4.rules
        obtain ⟨c9, f9, l9⟩ := k9.rules
        go_wp2
        rw [← hwz]
        clear hwz c3 f3 l3 c4 f4 l4 c9 f9 l9
        obtain ⟨c4, f4, l4⟩ := kz.rules
        exact bodyPost_ret (v := .agg #[.int .i64 (betS a.sh g t).lo, .int .i64 (betS a.sh g t).hi]) (by simp [results, Tryz.results91, go_sem, c4]) rfl ⟨rfl, bz⟩
  · try simp only [Act.put, List.setIfInBounds_toArray, List.set_cons_zero, List.set_cons_succ] at hrest
    refine held_two (i := 7) (j := 17) (by kernel_rfl) rfl rfl rfl rfl (fun K hK => ?_) (fun K hK => ?_)
    · skip
      go_simp
      refine (hgv (wd) (hS.below hb9)).mono ?_
      rintro e X1 ⟨rfl, hbel⟩
      replace hb9 := hb9.trans (hbel.mono hb9.size)
      try replace k9 := k9.below hbel
      clear hSx hbel
      have hSx := hSb.out _ hb9
      refine hK _ _ hSx ?_
      clear hK K
      try simp only [Act.put, List.setIfInBounds_toArray, List.set_cons_zero, List.set_cons_succ]
      refine held_two (i := 15) (j := 17) (by kernel_rfl) rfl rfl rfl rfl (fun K hK => ?_) (fun K hK => ?_)
      · skip
        go_simp
        refine (hgv (X1) (hS.below hb9)).mono ?_
        rintro e X2 ⟨rfl, hbel⟩
        replace hb9 := hb9.trans (hbel.mono hb9.size)
        try replace k9 := k9.below hbel
        clear hSx hbel
        have hSx := hSb.out _ hb9
        refine hK _ _ hSx ?_
        clear hK K
        try simp only [Act.put, List.setIfInBounds_toArray, List.set_cons_zero, List.set_cons_succ]
        refine held_take (i := 16) (v := ?_) 24 rfl rfl (by kernel_rfl) (by kernel_rfl) (by kernel_rfl) (fun _ _ _ h => h) (Or.inl ⟨by rfl, ?_⟩) hSx ?_
        rotate_left 1
        · intro w' hSw
          try dsimp only at hSw
          obtain ⟨q1, q2⟩ := hSw
          go_simp
          all_goals with_reducible rfl
        try simp only [Act.put, List.setIfInBounds_toArray, List.set_cons_zero, List.set_cons_succ]
        refine held_one (i := 17) (by kernel_rfl) rfl rfl (fun K hK => ?_)
        go_simp
        have hgg := hb9.size
        have k9 := Blk.new X2 40 #[.int .i64 0, .int .i64 0]
        replace hb9 := hb9.alloc hb9.size (.cells #[.int .i64 0, .int .i64 0] 40)
        clear hSx
        have hSx := hSb.out _ hb9
        refine hK _ _ hSx ?_
        clear hK K
        try simp only [Act.put, List.setIfInBounds_toArray, List.set_cons_zero, List.set_cons_succ]
        generalize X2.heap.size = g9 at *
        generalize X2.alloc (.cells #[.int .i64 0, .int .i64 0] 40) = X3 at *
        refine held_one (i := 18) (by kernel_rfl) rfl rfl (fun K hK => ?_)
        have kz := (k9.set_ 0 (.int .i64 x)).set_ 1 (.int .i64 x)
        simp only [List.setIfInBounds_toArray, List.set_cons_zero, List.set_cons_succ] at kz
        have bz := (hb9.setCell (p := ⟨g9, 0, none⟩) (by dsimp only; omega) (.int .i64 x)).setCell (p := ⟨g9, 1, none⟩) (by dsimp only; omega) (.int .i64 x)
        obtain ⟨X4, hwz⟩ : ∃ y, y = (X3.setCell ⟨g9, 0, none⟩ (.int .i64 x)).setCell ⟨g9, 1, none⟩ (.int .i64 x) := ⟨_, rfl⟩
        rw [← hwz] at kz bz
        obtain ⟨c9, f9, l9⟩ := k9.rules
        go_simp
        rw [← hwz]
        clear hwz c9 f9 l9 hSx
        have hSx := hSb.out _ bz
        refine hK _ _ hSx ?_
        clear hK K
        try simp only [Act.put, List.setIfInBounds_toArray, List.set_cons_zero, List.set_cons_succ]
        refine wpAnyH_done (by kernel_rfl) (hrest (g9) _ ⟨kz, (by omega), bz⟩) _
      · skip
        go_simp
        have hgg := hb9.size
        have k9 := Blk.new X1 40 #[.int .i64 0, .int .i64 0]
        replace hb9 := hb9.alloc hb9.size (.cells #[.int .i64 0, .int .i64 0] 40)
        clear hSx
        have hSx := hSb.out _ hb9
        refine hK _ _ hSx ?_
        clear hK K
        try simp only [Act.put, List.setIfInBounds_toArray, List.set_cons_zero, List.set_cons_succ]
        generalize X1.heap.size = g9 at *
        generalize X1.alloc (.cells #[.int .i64 0, .int .i64 0] 40) = X5 at *
        refine held_one (i := 15) (by kernel_rfl) rfl rfl (fun K hK => ?_)
        go_simp
        refine (hgv (X5) (hS.below hb9)).mono ?_
        rintro e X6 ⟨rfl, hbel⟩
        replace hb9 := hb9.trans (hbel.mono hb9.size)
        try replace k9 := k9.below hbel
        clear hSx hbel
        have hSx := hSb.out _ hb9
        refine hK _ _ hSx ?_
        clear hK K
        try simp only [Act.put, List.setIfInBounds_toArray, List.set_cons_zero, List.set_cons_succ]
        refine held_take (i := 16) (v := ?_) 24 rfl rfl (by kernel_rfl) (by kernel_rfl) (by kernel_rfl) (fun _ _ _ h => h) (Or.inl ⟨by rfl, ?_⟩) hSx ?_
        rotate_left 1
        · intro w' hSw
          try dsimp only at hSw
          obtain ⟨q1, q2⟩ := hSw
          go_simp
          all_goals with_reducible rfl
        try simp only [Act.put, List.setIfInBounds_toArray, List.set_cons_zero, List.set_cons_succ]
        refine held_one (i := 18) (by kernel_rfl) rfl rfl (fun K hK => ?_)
        have kz := (k9.set_ 0 (.int .i64 x)).set_ 1 (.int .i64 x)
        simp only [List.setIfInBounds_toArray, List.set_cons_zero, List.set_cons_succ] at kz
        have bz := (hb9.setCell (p := ⟨g9, 0, none⟩) (by dsimp only; omega) (.int .i64 x)).setCell (p := ⟨g9, 1, none⟩) (by dsimp only; omega) (.int .i64 x)
        obtain ⟨X7, hwz⟩ : ∃ y, y = (X6.setCell ⟨g9, 0, none⟩ (.int .i64 x)).setCell ⟨g9, 1, none⟩ (.int .i64 x) := ⟨_, rfl⟩
        rw [← hwz] at kz bz
        obtain ⟨c9, f9, l9⟩ := k9.rules
        go_simp
        rw [← hwz]
        clear hwz c9 f9 l9 hSx
        have hSx := hSb.out _ bz
        refine hK _ _ hSx ?_
        clear hK K
        try simp only [Act.put, List.setIfInBounds_toArray, List.set_cons_zero, List.set_cons_succ]
        refine wpAnyH_done (by kernel_rfl) (hrest (g9) _ ⟨kz, (by omega), bz⟩) _
    · skip
      go_simp
      have hgg := hb9.size
      have k9 := Blk.new wd 40 #[.int .i64 0, .int .i64 0]
      replace hb9 := hb9.alloc hb9.size (.cells #[.int .i64 0, .int .i64 0] 40)
      clear hSx
      have hSx := hSb.out _ hb9
      refine hK _ _ hSx ?_
      clear hK K
      try simp only [Act.put, List.setIfInBounds_toArray, List.set_cons_zero, List.set_cons_succ]
      generalize wd.heap.size = g9 at *
      generalize wd.alloc (.cells #[.int .i64 0, .int .i64 0] 40) = X8 at *
      refine held_one (i := 7) (by kernel_rfl) rfl rfl (fun K hK => ?_)
      go_simp
      refine (hgv (X8) (hS.below hb9)).mono ?_
      rintro e X9 ⟨rfl, hbel⟩
      replace hb9 := hb9.trans (hbel.mono hb9.size)
      try replace k9 := k9.below hbel
      clear hSx hbel
      have hSx := hSb.out _ hb9
      refine hK _ _ hSx ?_
      clear hK K
      try simp only [Act.put, List.setIfInBounds_toArray, List.set_cons_zero, List.set_cons_succ]
      refine held_one (i := 15) (by kernel_rfl) rfl rfl (fun K hK => ?_)
      go_simp
      refine (hgv (X9) (hS.below hb9)).mono ?_
      rintro e X10 ⟨rfl, hbel⟩
      replace hb9 := hb9.trans (hbel.mono hb9.size)
      try replace k9 := k9.below hbel
      clear hSx hbel
      have hSx := hSb.out _ hb9
      refine hK _ _ hSx ?_
      clear hK K
      try simp only [Act.put, List.setIfInBounds_toArray, List.set_cons_zero, List.set_cons_succ]
      refine held_take (i := 16) (v := ?_) 24 rfl rfl (by kernel_rfl) (by kernel_rfl) (by kernel_rfl) (fun _ _ _ h => h) (Or.inl ⟨by rfl, ?_⟩) hSx ?_
      rotate_left 1
      · intro w' hSw
        try dsimp only at hSw
        obtain ⟨q1, q2⟩ := hSw
        go_simp
        all_goals with_reducible rfl
      try simp only [Act.put, List.setIfInBounds_toArray, List.set_cons_zero, List.set_cons_succ]
      refine held_one (i := 18) (by kernel_rfl) rfl rfl (fun K hK => ?_)
      have kz := (k9.set_ 0 (.int .i64 x)).set_ 1 (.int .i64 x)
      simp only [List.setIfInBounds_toArray, List.set_cons_zero, List.set_cons_succ] at kz
      have bz := (hb9.setCell (p := ⟨g9, 0, none⟩) (by dsimp only; omega) (.int .i64 x)).setCell (p := ⟨g9, 1, none⟩) (by dsimp only; omega) (.int .i64 x)
      obtain ⟨X11, hwz⟩ : ∃ y, y = (X10.setCell ⟨g9, 0, none⟩ (.int .i64 x)).setCell ⟨g9, 1, none⟩ (.int .i64 x) := ⟨_, rfl⟩
      rw [← hwz] at kz bz
      obtain ⟨c9, f9, l9⟩ := k9.rules
      go_simp
      rw [← hwz]
      clear hwz c9 f9 l9 hSx
      have hSx := hSb.out _ bz
      refine hK _ _ hSx ?_
      clear hK K
      try simp only [Act.put, List.setIfInBounds_toArray, List.set_cons_zero, List.set_cons_succ]
      refine wpAnyH_done (by kernel_rfl) (hrest (g9) _ ⟨kz, (by omega), bz⟩) _
end Go.Proofs.YtfengddpfeneiaaGreat
