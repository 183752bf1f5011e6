/-
  Walks: region.Of of a single place.
  Walks: region.Reach with a slack of at most 4.
-/
import Derived.Test.YtfengddpfeneiaaGreatUG
import Derived.Test.YtfengddpfeneiaaGreatUM
namespace Go.Proofs.YtfengddpfeneiaaGreat
open Go.RowKit Go.Shelf
set_option linter.unusedSimpArgs false
set_option linter.unusedVariables false

set_option maxHeartbeats 1000000 in
theorem index_pnt (p : Pnt → Bool) (A : Option Addr) (n c B g : Nat) (lb : Array Value) (eg : ∀ args w, (callFunc g args).run Tryz.prog w = .ok (.enter g args) w) (xs : List Pnt) (w : World)
    (hp : PredB g lb (fun x => Value.agg #[.int .i64 x.x, .int .i64 x.y]) p w) (hs : SlAt w B 2 Pnt.cells A n c xs) :
    Calls Tryz.prog 108 #[.slice A n c, .func (.func g) #[] lb] w fun e w' => e = .returned (.int .i64 (idxf p xs 0)) ∧ Below w.heap.size w w' := by
  have hn := hs.le
  have hl := Lib.hid hs.len
  go_enter Tryz.func108, Tryz.ntmps108
  go_wp2
  go_loopw [8] (fun i wr => ∃ k : Nat, i = .int .i64 k ∧ k ≤ n ∧ noneTo p xs k ∧ Below w.heap.size w wr) (fun i wr => n - (intOf i).toNat)
  case atStart => exact ⟨0, rfl, Nat.zero_le _, by simp [noneTo], Below.refl _ _⟩
  case round =>
    obtain ⟨k, rfl, hk, hno, hb⟩ := hrel
    by_cases hlt : k < n
    · obtain ⟨x, hx⟩ := some_of_lt hl.out hlt
      have hcall := hp wr x hb
      obtain ⟨b, off, rfl, -, hbl, c0, c1⟩ := (hs.keep hb.size (fun _ _ h => hb.cell h)).pnt hx
      replace hx := Lib.hid hx
      clear hs hp
      cases hq : p x with
      | true =>
        rw [hq] at hcall
        replace hq := Lib.hid hq
        go_wp2_with (go_at_fn g; refine hcall.mono ?_; rintro e w' ⟨rfl, hb'⟩)
        go_ret
        exact ⟨ret_int (by rw [idxf_hit p xs 0 k x hx.out hq.out hno]; omega), hb.trans (hb'.mono hb.size)⟩
      | false =>
        rw [hq] at hcall
        replace hq := Lib.hid hq
        go_wp2_with (go_at_fn g; refine hcall.mono ?_; rintro e w' ⟨rfl, hb'⟩)
        go_roundw
        case rel => exact ⟨k + 1, by go_num, by omega, noneTo_succ hno hx.out hq.out, hb.trans (hb'.mono hb.size)⟩
        case measure => simp [intOf]; omega
    · go_wp2
      go_ret
      exact ⟨ret_int (by rw [idxf_miss p xs 0 (noneTo_all hno (by have := hl.out; omega))]), hb⟩
set_option maxHeartbeats 1000000 in
theorem contains_pnt (p : Pnt → Bool) (A : Option Addr) (n c B g : Nat) (lb : Array Value) (eg : ∀ args w, (callFunc g args).run Tryz.prog w = .ok (.enter g args) w) (xs : List Pnt) (w : World)
    (hp : PredB g lb (fun x => Value.agg #[.int .i64 x.x, .int .i64 x.y]) p w) (hs : SlAt w B 2 Pnt.cells A n c xs) :
    Calls Tryz.prog 54 #[.slice A n c, .func (.func g) #[] lb] w fun e w' => e = .returned (.bool (xs.any p)) ∧ Below w.heap.size w w' := by
  go_enter Tryz.func54, Tryz.ntmps54
  go_wp2_with (go_at_call 108; refine (index_pnt p A n c B g lb eg xs _ hp hs).mono ?_; rintro e w' ⟨rfl, hb'⟩)
  go_ret
  exact ⟨ret_bool (idxf_any p xs 0), hb'⟩
set_option maxHeartbeats 1000000 in
theorem of1_any (w : World) : PredB 55 #[] (fun x : Pnt => Value.agg #[.int .i64 x.x, .int .i64 x.y]) (fun x => !okPnt x) w := by
  intro W x hb
  show Calls Tryz.prog 55 #[.agg #[.int .i64 x.x, .int .i64 x.y]] W _
  have hc := fun W => CheckPoint_any x W
  cases hx : okPnt x with
  | true =>
    rw [show chkPnt x = 0 from by unfold chkPnt; rw [if_pos hx]] at hc
    have b0 := (Below.refl W.heap.size W).alloc (Nat.le_refl _) (.cells #[.int .i64 x.x, .int .i64 x.y] 23)
    have k1 := Blk.new W 23 #[.int .i64 x.x, .int .i64 x.y]
    obtain ⟨c1, f1, l1⟩ := k1.rules
    go_enter Tryz.func55, Tryz.ntmps55
    go_wp2_with fail
    refine (hc _).mono ?_
    rintro e w' ⟨rfl, hb'⟩
    go_wp2_with fail
    go_ret
    exact ⟨ret_bool (by show _ = (!okPnt x); rw [hx]; rfl), b0.trans (hb'.mono b0.size)⟩
  | false =>
    rw [show chkPnt x = 10 from by unfold chkPnt; rw [if_neg (by rw [hx]; decide)]] at hc
    have b0 := (Below.refl W.heap.size W).alloc (Nat.le_refl _) (.cells #[.int .i64 x.x, .int .i64 x.y] 23)
    have k1 := Blk.new W 23 #[.int .i64 x.x, .int .i64 x.y]
    obtain ⟨c1, f1, l1⟩ := k1.rules
    go_enter Tryz.func55, Tryz.ntmps55
    go_wp2_with fail
    refine (hc _).mono ?_
    rintro e w' ⟨rfl, hb'⟩
    go_wp2_with fail
    go_ret
    exact ⟨ret_bool (by show _ = (!okPnt x); rw [hx]; rfl), b0.trans (hb'.mono b0.size)⟩
theorem eg_of1 : Enters Tryz.prog 55 := enters_of Tryz.func55 (by kernel_rfl) rfl
theorem SlAt.one {w : World} {bp : Nat} {p : Pnt} (k : Blk w bp 23 #[.int .i64 p.x, .int .i64 p.y]) : SlAt w 0 2 Pnt.cells (some ⟨bp, 0, none⟩) 1 1 [p] := by
  refine ⟨rfl, Nat.le_refl _, by decide, fun _ => ⟨bp, 0, rfl, Nat.zero_le _, k.lt, fun i x hx j v hv => ?_⟩⟩
  cases i with
  | zero =>
    obtain rfl : p = x := by simpa using hx
    simp only [Nat.zero_mul, Nat.zero_add]
    rw [k.cell j]
    match j, hv with
    | 0, hv => exact hv
    | 1, hv => exact hv
    | n + 2, hv => simp [Pnt.cells] at hv
  | succ i => simp at hx
set_option maxRecDepth 100000 in
set_option maxHeartbeats 4000000 in
theorem Of1_any (p : Pnt) (bp : Nat) (w : World) (k : Blk w bp 23 #[.int .i64 p.x, .int .i64 p.y]) :
    Calls Tryz.prog 16 #[.slice (some ⟨bp, 0, none⟩) 1 1] w fun e w' => e = .returned (.tuple #[.agg (regA (if okPnt p = true then ofP p else noReg)), .int .i64 (chkPnt p)]) ∧ Below w.heap.size w w' := by
  have hst : ∀ (a : Addr) (fn : Fn) (b c : Array Value) (m : Mode) (w : World), (store a (.func fn b c) m).run Tryz.prog w = stored Tryz.prog w a (.func fn b c) m := fun _ _ _ _ _ _ => run_store _ _ _ _ _ rfl
  have hcf := fun W h h' => contains_pnt (fun x => !okPnt x) (some ⟨bp, 0, none⟩) 1 1 0 55 #[] eg_of1 [p] W h h'
  obtain ⟨w1, hw1⟩ : ∃ w1, w1 = (w.alloc (.cells #[.slice (some ⟨bp, 0, none⟩) 1 1] 51)).alloc (.cells #[.int .i64 0, .int .i64 0, .int .i64 0, .int .i64 0, .int .i64 0, .int .i64 0, .int .i64 0, .int .i64 0] 42) := ⟨_, rfl⟩
  have k1 : Blk w1 w.heap.size 51 #[.slice (some ⟨bp, 0, none⟩) 1 1] := by rw [hw1]; exact (Blk.new _ _ _).alloc _
  have k2 : Blk w1 (w.heap.size + 1) 42 #[.int .i64 0, .int .i64 0, .int .i64 0, .int .i64 0, .int .i64 0, .int .i64 0, .int .i64 0, .int .i64 0] := by rw [hw1]; exact Blk.newAt (by simp)
  have kp : Blk w1 bp 23 #[.int .i64 p.x, .int .i64 p.y] := by rw [hw1]; exact (k.alloc _).alloc _
  have hb : Below w.heap.size w w1 := by rw [hw1]; exact ((Below.refl _ _).alloc (Nat.le_refl _) _).alloc (by simp) _
  clear k
  cases hp : okPnt p with
  | true =>
    rw [if_pos rfl, show chkPnt p = 0 from by unfold chkPnt; rw [if_pos hp]]
    have hany : [p].any (fun x => !okPnt x) = false := by simp [hp]
    simp only [hany] at hcf
    have hhull := fun A c gf b off W h1 h2 h3 => hullP_any p A c gf bp b off W hp h1 h2 h3
    rw [hull_pnt] at hhull
    simp only [optR, Option.getD_some, Option.isSome_some] at hhull
    have hrg := fun W => region_any (ofP p) W
    generalize ofP p = R at *
    simp only [regA] at hhull ⊢
    clear hp hany
    go_enter Tryz.func16, Tryz.ntmps16
    go_wp2_with fail
    rw [← hw1]
    clear hw1
    obtain ⟨c1, f1, l1⟩ := k1.rules
    go_wp2_with fail
    refine (hcf _ (of1_any _) (SlAt.one kp)).mono ?_
    rintro e W ⟨rfl, hbel⟩
    clear c1 f1 l1 hcf
    replace k1 := k1.below hbel
    replace k2 := k2.below hbel
    replace kp := kp.below hbel
    replace hb := hb.trans (hbel.mono hb.size)
    clear hbel
    go_wp2_with fail
    have k3 := Blk.new W 120 #[.func (.func 57) #[] #[.pointer (some ⟨w.heap.size, 0, none⟩)]]
    refine (hhull _ 1 w.heap.size W.heap.size 0 _ rfl (k3.cell 0) ⟨k1.alloc _, kp.alloc _⟩).mono ?_
    rintro e W2 ⟨rfl, hb2⟩
    replace k2 := (k2.alloc _).below hb2
    replace hb := (hb.alloc hb.size _).trans (hb2.mono (hb.alloc hb.size _).size)
    clear hb2 k3 hhull k1 kp
    go_wp2_with fail
    have k4 := Blk.new W2 117 #[.int .i64 R.x.lo, .int .i64 R.x.hi, .int .i64 R.y.lo, .int .i64 R.y.hi, .int .i64 R.s.lo, .int .i64 R.s.hi, .int .i64 R.d.lo, .int .i64 R.d.hi]
    have hb4 := (Below.refl W2.heap.size W2).alloc (Nat.le_refl _) (.cells #[.int .i64 R.x.lo, .int .i64 R.x.hi, .int .i64 R.y.lo, .int .i64 R.y.hi, .int .i64 R.s.lo, .int .i64 R.s.hi, .int .i64 R.d.lo, .int .i64 R.d.hi] 117)
    replace k2 := k2.below hb4
    replace hb := hb.trans (hb4.mono hb.size)
    clear hb4
    obtain ⟨c4, f4, l4⟩ := k4.rules
    go_wp2_with fail
    refine (hrg _).mono ?_
    rintro e W3 ⟨rfl, hb3⟩
    clear c4 f4 l4 k4 hrg
    replace k2 := k2.below hb3
    replace hb := hb.trans (hb3.mono hb.size)
    clear hb3
    have kz := k2.set8 (.int .i64 R.x.lo) (.int .i64 R.x.hi) (.int .i64 R.y.lo) (.int .i64 R.y.hi) (.int .i64 R.s.lo) (.int .i64 R.s.hi) (.int .i64 R.d.lo) (.int .i64 R.d.hi)
    have bz := below_set8 (g := w.heap.size + 1) hb (by omega) (.int .i64 R.x.lo) (.int .i64 R.x.hi) (.int .i64 R.y.lo) (.int .i64 R.y.hi) (.int .i64 R.s.lo) (.int .i64 R.s.hi) (.int .i64 R.d.lo) (.int .i64 R.d.hi)
    obtain ⟨wz, hwz⟩ : ∃ x, x = set8 W3 (w.heap.size + 1) (.int .i64 R.x.lo) (.int .i64 R.x.hi) (.int .i64 R.y.lo) (.int .i64 R.y.hi) (.int .i64 R.s.lo) (.int .i64 R.s.hi) (.int .i64 R.d.lo) (.int .i64 R.d.hi) := ⟨_, rfl⟩
    rw [← hwz] at kz bz
    simp only [set8] at hwz
    obtain ⟨c2, f2, l2⟩ := k2.rules
    go_wp2
    rw [← hwz]
    clear hwz c2 f2 l2
    obtain ⟨c2, f2, l2⟩ := kz.rules
    exact bodyPost_ret (v := .tuple #[.agg #[.int .i64 R.x.lo, .int .i64 R.x.hi, .int .i64 R.y.lo, .int .i64 R.y.hi, .int .i64 R.s.lo, .int .i64 R.s.hi, .int .i64 R.d.lo, .int .i64 R.d.hi], .int .i64 0]) (by simp [results, Tryz.results16, go_sem, c2]) rfl ⟨rfl, bz⟩
  | false =>
    rw [if_neg (by decide), show chkPnt p = 10 from by unfold chkPnt; rw [if_neg (by rw [hp]; decide)]]
    have hany : [p].any (fun x => !okPnt x) = true := by simp [hp]
    simp only [hany] at hcf
    simp only [regA, noReg]
    clear hp hany
    go_enter Tryz.func16, Tryz.ntmps16
    go_wp2_with fail
    rw [← hw1]
    clear hw1
    obtain ⟨c1, f1, l1⟩ := k1.rules
    go_wp2_with fail
    refine (hcf _ (of1_any _) (SlAt.one kp)).mono ?_
    rintro e W ⟨rfl, hbel⟩
    clear c1 f1 l1 hcf
    replace k2 := k2.below hbel
    replace hb := hb.trans (hbel.mono hb.size)
    clear hbel
    have kz := k2.set8 (.int .i64 0) (.int .i64 0) (.int .i64 0) (.int .i64 0) (.int .i64 0) (.int .i64 0) (.int .i64 0) (.int .i64 0)
    have bz := below_set8 (g := w.heap.size + 1) hb (by omega) (.int .i64 0) (.int .i64 0) (.int .i64 0) (.int .i64 0) (.int .i64 0) (.int .i64 0) (.int .i64 0) (.int .i64 0)
    obtain ⟨wz, hwz⟩ : ∃ x, x = set8 W (w.heap.size + 1) (.int .i64 0) (.int .i64 0) (.int .i64 0) (.int .i64 0) (.int .i64 0) (.int .i64 0) (.int .i64 0) (.int .i64 0) := ⟨_, rfl⟩
    rw [← hwz] at kz bz
    simp only [set8] at hwz
    obtain ⟨c2, f2, l2⟩ := k2.rules
    go_wp2
    rw [← hwz]
    clear hwz c2 f2 l2
    obtain ⟨c2, f2, l2⟩ := kz.rules
    exact bodyPost_ret (v := .tuple #[.agg #[.int .i64 0, .int .i64 0, .int .i64 0, .int .i64 0, .int .i64 0, .int .i64 0, .int .i64 0, .int .i64 0], .int .i64 10]) (by simp [results, Tryz.results16, go_sem, c2]) rfl ⟨rfl, bz⟩
end Go.Proofs.YtfengddpfeneiaaGreat
namespace Go.Proofs.YtfengddpfeneiaaGreat
open Go.RowKit Go.Shelf
set_option linter.unusedSimpArgs false
set_option linter.unusedVariables false

theorem wideS_ok {r : Reg} {s f : Int} (hs : 0 ≤ s) (hf : 0 ≤ f) (h : okReg r = true) : okReg (wideR s f r) = true := by
  rw [okReg_iff] at *
  unfold wideR wideB intoL
  dsimp only
  omega
def wideKS (s f : Int) (t : Reg) : Nat → Reg
  | 0 => t
  | 1 => { t with x := wideB 32768 s t.x }
  | 2 => { t with x := wideB 32768 s t.x, y := wideB 32768 s t.y }
  | 3 => { t with x := wideB 32768 s t.x, y := wideB 32768 s t.y, s := wideB 65536 f t.s }
  | _ => wideR s f t
/-- As far as sum and difference go within a distance (of at most 3). -/
def farN (s : Int) : Int := if s = 3 then 4 else s
set_option maxRecDepth 100000 in
set_option maxHeartbeats 400000 in
theorem farthestN0_any (w : World) : Calls Tryz.prog 62 #[.int .i64 0] w fun e w' => e = .returned (.int .i64 0) ∧ w = w' := by
  have hr := fun W => root_any 0 W (by omega) (by omega)
  have e8 : rootS 0 = 0 := by decide
  simp only [e8] at hr
  clear e8
  go_enter Tryz.func62, Tryz.ntmps62
  go_wp2_with fail
  refine (hr _).mono ?_
  rintro e w' ⟨rfl, rfl⟩
  clear hr
  go_wp2_with fail
  go_loopw [3] (fun i wr => i = .int .i64 0 ∧ wr = w) (fun i wr => 0)
  case atStart => exact ⟨rfl, rfl⟩
  case round =>
    obtain ⟨rfl, rfl⟩ := hrel
    go_wp2
    go_ret
    exact ⟨rfl, rfl⟩
set_option maxRecDepth 100000 in
set_option maxHeartbeats 400000 in
theorem farthestN1_any (w : World) : Calls Tryz.prog 62 #[.int .i64 1] w fun e w' => e = .returned (.int .i64 1) ∧ w = w' := by
  have hr := fun W => root_any 2 W (by omega) (by omega)
  have e8 : rootS 2 = 1 := by decide
  simp only [e8] at hr
  clear e8
  go_enter Tryz.func62, Tryz.ntmps62
  go_wp2_with fail
  refine (hr _).mono ?_
  rintro e w' ⟨rfl, rfl⟩
  clear hr
  go_wp2_with fail
  go_loopw [3] (fun i wr => i = .int .i64 1 ∧ wr = w) (fun i wr => 0)
  case atStart => exact ⟨rfl, rfl⟩
  case round =>
    obtain ⟨rfl, rfl⟩ := hrel
    go_wp2
    go_ret
    exact ⟨rfl, rfl⟩
set_option maxRecDepth 100000 in
set_option maxHeartbeats 400000 in
theorem farthestN2_any (w : World) : Calls Tryz.prog 62 #[.int .i64 2] w fun e w' => e = .returned (.int .i64 2) ∧ w = w' := by
  have hr := fun W => root_any 8 W (by omega) (by omega)
  have e8 : rootS 8 = 2 := by decide
  simp only [e8] at hr
  clear e8
  go_enter Tryz.func62, Tryz.ntmps62
  go_wp2_with fail
  refine (hr _).mono ?_
  rintro e w' ⟨rfl, rfl⟩
  clear hr
  go_wp2_with fail
  go_loopw [3] (fun i wr => i = .int .i64 2 ∧ wr = w) (fun i wr => 0)
  case atStart => exact ⟨rfl, rfl⟩
  case round =>
    obtain ⟨rfl, rfl⟩ := hrel
    go_wp2
    go_ret
    exact ⟨rfl, rfl⟩
set_option maxRecDepth 100000 in
set_option maxHeartbeats 400000 in
theorem farthestN3_any (w : World) : Calls Tryz.prog 62 #[.int .i64 3] w fun e w' => e = .returned (.int .i64 4) ∧ w = w' := by
  have hr := fun W => root_any 18 W (by omega) (by omega)
  have e8 : rootS 18 = 4 := by decide
  simp only [e8] at hr
  clear e8
  go_enter Tryz.func62, Tryz.ntmps62
  go_wp2_with fail
  refine (hr _).mono ?_
  rintro e w' ⟨rfl, rfl⟩
  clear hr
  go_wp2_with fail
  go_loopw [3] (fun i wr => i = .int .i64 4 ∧ wr = w) (fun i wr => 0)
  case atStart => exact ⟨rfl, rfl⟩
  case round =>
    obtain ⟨rfl, rfl⟩ := hrel
    go_wp2
    go_ret
    exact ⟨rfl, rfl⟩
theorem farthestN_any (s : Int) (h0 : 0 ≤ s) (h3 : s ≤ 3) (w : World) : Calls Tryz.prog 62 #[.int .i64 s] w fun e w' => e = .returned (.int .i64 (farN s)) ∧ w = w' := by
  rcases (by omega : s = 0 ∨ s = 1 ∨ s = 2 ∨ s = 3) with rfl | rfl | rfl | rfl
  · exact farthestN0_any w
  · exact farthestN1_any w
  · exact farthestN2_any w
  · exact farthestN3_any w
set_option maxRecDepth 100000 in
set_option maxHeartbeats 4000000 in
theorem ReachS_any (s f : Int) (hs0 : 0 ≤ s) (hs4 : s ≤ 4) (hf0 : 0 ≤ f) (hf6 : f ≤ 6) (hfar : ∀ W : World, Calls Tryz.prog 62 #[.int .i64 s] W fun e w' => e = .returned (.int .i64 f) ∧ W = w') (r t N : Reg) (w : World) (hr : okReg r = true) (ht : tightO r = some t) (hN : tightO (wideR s f t) = some N) :
    Calls Tryz.prog 17 #[.agg (regA r), .int .i64 s] w fun e w' => e = .returned (.tuple #[.agg (regA N), .int .i64 0]) ∧ Below w.heap.size w w' := by
  have i0 : ∀ (a b c d a' b' c' d' : Value) w, (Instr.index 117 (.agg #[a, a', b, b', c, c', d, d']) (.int .i64 0)).run Tryz.prog w = .ok (.agg #[a, a']) w := fun _ _ _ _ _ _ _ _ _ => by kernel_rfl
  have i1 : ∀ (a b c d a' b' c' d' : Value) w, (Instr.index 117 (.agg #[a, a', b, b', c, c', d, d']) (.int .i64 1)).run Tryz.prog w = .ok (.agg #[b, b']) w := fun _ _ _ _ _ _ _ _ _ => by kernel_rfl
  have i2 : ∀ (a b c d a' b' c' d' : Value) w, (Instr.index 117 (.agg #[a, a', b, b', c, c', d, d']) (.int .i64 2)).run Tryz.prog w = .ok (.agg #[c, c']) w := fun _ _ _ _ _ _ _ _ _ => by kernel_rfl
  have i3 : ∀ (a b c d a' b' c' d' : Value) w, (Instr.index 117 (.agg #[a, a', b, b', c, c', d, d']) (.int .i64 3)).run Tryz.prog w = .ok (.agg #[d, d']) w := fun _ _ _ _ _ _ _ _ _ => by kernel_rfl
  have hchk := fun W => rCheck_any r W
  have hk : chkReg r = 0 := by simp [chkReg, hr]
  simp only [hk] at hchk
  have hbo := fun W => rbounds_any r W
  have hti := fun W => tight_any r W hr
  simp only [ht, doneR] at hti
  have htk := tight_ok hr ht
  have hb8 := okReg_iff.1 htk
  have hti2 := fun W => tight_any (wideR s f t) W (wideS_ok hs0 hf0 htk)
  simp only [hN, doneR] at hti2
  have hdo := fun W => done_any N 0 W
  simp only [if_pos] at hdo
  have hwi := fun W => rwithin_any s 0 32768 W
  have ewi : decide ((0 : Int) ≤ s ∧ s ≤ 32768) = true := decide_eq_true ⟨by omega, by omega⟩
  simp only [ewi] at hwi
  simp only [regA] at hchk hbo hti hdo ⊢
  clear hk htk ewi hr ht hN
  replace hti2 := Lib.hid hti2
  obtain ⟨⟨x1, x2, x3⟩, ⟨y1, y2, y3⟩, ⟨s1, s2, s3⟩, ⟨d1, d2, d3⟩⟩ := hb8
  obtain ⟨w1, hw1⟩ : ∃ w1, w1 = (w.alloc (.cells #[.int .i64 r.x.lo, .int .i64 r.x.hi, .int .i64 r.y.lo, .int .i64 r.y.hi, .int .i64 r.s.lo, .int .i64 r.s.hi, .int .i64 r.d.lo, .int .i64 r.d.hi] 42)).alloc (.cells #[.int .i64 0, .int .i64 0, .int .i64 0, .int .i64 0, .int .i64 0, .int .i64 0, .int .i64 0, .int .i64 0] 42) := ⟨_, rfl⟩
  have k2 : Blk w1 w.heap.size 42 #[.int .i64 r.x.lo, .int .i64 r.x.hi, .int .i64 r.y.lo, .int .i64 r.y.hi, .int .i64 r.s.lo, .int .i64 r.s.hi, .int .i64 r.d.lo, .int .i64 r.d.hi] := by rw [hw1]; exact (Blk.new _ _ _).alloc _
  have k4 : Blk w1 (w.heap.size + 1) 42 #[.int .i64 0, .int .i64 0, .int .i64 0, .int .i64 0, .int .i64 0, .int .i64 0, .int .i64 0, .int .i64 0] := by rw [hw1]; exact Blk.newAt (by simp)
  have hb : Below w.heap.size w w1 := by rw [hw1]; exact ((Below.refl _ _).alloc (Nat.le_refl _) _).alloc (by simp) _
  go_enter Tryz.func17, Tryz.ntmps17
  go_wp2_with fail
  rw [← hw1]
  clear hw1
  refine (hchk _).mono ?_
  rintro e W ⟨rfl, hbel⟩
  replace k2 := k2.below hbel
  replace k4 := k4.below hbel
  replace hb := hb.trans (hbel.mono hb.size)
  clear hbel hchk
  go_wp2_with fail
  refine (hwi _).mono ?_
  rintro e W' ⟨rfl, rfl⟩
  clear hwi
  obtain ⟨c2, f2, l2⟩ := k2.rules
  go_wp2_with fail
  clear c2 f2 l2
  refine (hbo _).mono ?_
  rintro e W ⟨rfl, hbel⟩
  replace k2 := k2.below hbel
  replace k4 := k4.below hbel
  replace hb := hb.trans (hbel.mono hb.size)
  clear hbel hbo
  go_wp2_with fail
  refine (hti _).mono ?_
  rintro e W ⟨rfl, hbel⟩
  replace k2 := k2.below hbel
  replace k4 := k4.below hbel
  replace hb := hb.trans (hbel.mono hb.size)
  clear hbel hti
  go_wp2_with fail
  have k7 := Blk.new W 117 #[.int .i64 t.x.lo, .int .i64 t.x.hi, .int .i64 t.y.lo, .int .i64 t.y.hi, .int .i64 t.s.lo, .int .i64 t.s.hi, .int .i64 t.d.lo, .int .i64 t.d.hi]
  have hbel := (Below.refl W.heap.size W).alloc (Nat.le_refl _) (.cells #[.int .i64 t.x.lo, .int .i64 t.x.hi, .int .i64 t.y.lo, .int .i64 t.y.hi, .int .i64 t.s.lo, .int .i64 t.s.hi, .int .i64 t.d.lo, .int .i64 t.d.hi] 117)
  have hg7 : w.heap.size + 1 < W.heap.size := k4.lt
  replace k2 := k2.below hbel
  replace k4 := k4.below hbel
  replace hb := hb.trans (hbel.mono hb.size)
  clear hbel
  generalize W.alloc (.cells #[.int .i64 t.x.lo, .int .i64 t.x.hi, .int .i64 t.y.lo, .int .i64 t.y.hi, .int .i64 t.s.lo, .int .i64 t.s.hi, .int .i64 t.d.lo, .int .i64 t.d.hi] 117) = W2 at *
  generalize W.heap.size = g7 at *
  refine (hfar _).mono ?_
  rintro e W' ⟨rfl, rfl⟩
  have l7' := Lib.hid k7.lt
  obtain ⟨c7, f7, l7⟩ := k7.rules
  go_wp2_with fail
  clear c7 f7 l7
  have k10 := Blk.new W2 127 #[.int .i64 32768, .int .i64 32768, .int .i64 65536, .int .i64 65536]
  have hbel := (Below.refl W2.heap.size W2).alloc (Nat.le_refl _) (.cells #[.int .i64 32768, .int .i64 32768, .int .i64 65536, .int .i64 65536] 127)
  replace k2 := k2.below hbel
  replace k4 := k4.below hbel
  replace hb := hb.trans (hbel.mono hb.size)
  replace k7 := k7.below hbel
  clear hbel
  have hs10 : (W2.alloc (.cells #[.int .i64 32768, .int .i64 32768, .int .i64 65536, .int .i64 65536] 127)).heap.size = W2.heap.size + 1 := World.size_alloc _ _
  have hg10 : g7 < W2.heap.size := l7'.out
  generalize W2.alloc (.cells #[.int .i64 32768, .int .i64 32768, .int .i64 65536, .int .i64 65536] 127) = W3 at *
  have k11 := Blk.new W3 128 #[.int .i64 s, .int .i64 s, .int .i64 f, .int .i64 f]
  have hbel := (Below.refl W3.heap.size W3).alloc (Nat.le_refl _) (.cells #[.int .i64 s, .int .i64 s, .int .i64 f, .int .i64 f] 128)
  replace k2 := k2.below hbel
  replace k4 := k4.below hbel
  replace hb := hb.trans (hbel.mono hb.size)
  replace k7 := k7.below hbel
  replace k10 := k10.below hbel
  clear hbel
  generalize W3.alloc (.cells #[.int .i64 s, .int .i64 s, .int .i64 f, .int .i64 f] 128) = W5 at *
  rw [hs10] at k11
  clear hs10
  generalize hg11 : W2.heap.size + 1 = g11 at *
  generalize W2.heap.size = g10 at *
  go_loopw [43] (fun j wr => ∃ k : Nat, j = jv k ∧ k ≤ 4 ∧ Blk wr g7 117 (regA (wideKS s f t k)) ∧ Blk wr (w.heap.size + 1) 42 #[.int .i64 0, .int .i64 0, .int .i64 0, .int .i64 0, .int .i64 0, .int .i64 0, .int .i64 0, .int .i64 0] ∧ Blk wr g10 127 #[.int .i64 32768, .int .i64 32768, .int .i64 65536, .int .i64 65536] ∧ Blk wr g11 128 #[.int .i64 s, .int .i64 s, .int .i64 f, .int .i64 f] ∧ Below w.heap.size w wr) (fun j wr => 4 - (intOf j).toNat)
  case atStart => exact ⟨0, rfl, by omega, k7, k4, k10, k11, hb⟩
  case round =>
    clear k7 k4 k10 k11 hb k2
    obtain ⟨k, rfl, hk, k7, k4, k10, k11, hb⟩ := hrel
    match k, hk with
    | 0, _ =>
      have hI1 := fun W => into_any 32768 (t.x.lo - s) W (by omega) (by omega)
      have hI2 := fun W => into_any 32768 (t.x.hi + s) W (by omega) (by omega)
      have u1 := IntWalk.i64_in (t.x.lo - s) (by omega)
      have u2 := IntWalk.i64_in (t.x.hi + s) (by omega)
      simp only [regA, wideKS] at k7
      rw [show jv 0 = .int .i64 0 from rfl]
      go_wp2_with fail
      have k13 := Blk.new wr 40 #[.int .i64 t.x.lo, .int .i64 t.x.hi]
      have hbel := (Below.refl wr.heap.size wr).alloc (Nat.le_refl _) (.cells #[.int .i64 t.x.lo, .int .i64 t.x.hi] 40)
      have hl7 := k7.lt
      replace k7 := k7.below hbel
      replace k4 := k4.below hbel
      replace k10 := k10.below hbel
      replace k11 := k11.below hbel
      replace hb := hb.trans (hbel.mono hb.size)
      clear hbel
      generalize wr.alloc (.cells #[.int .i64 t.x.lo, .int .i64 t.x.hi] 40) = Wa at *
      generalize wr.heap.size = g13 at *
      refine wp_held_np (fun w' : World => (∀ j, w'.cell? ⟨g10, j, none⟩ = #[Value.int .i64 32768, .int .i64 32768, .int .i64 65536, .int .i64 65536][j]?) ∧ (∀ j, w'.cell? ⟨g11, j, none⟩ = #[Value.int .i64 s, .int .i64 s, .int .i64 f, .int .i64 f][j]?) ∧ (∀ j, w'.cell? ⟨g13, j, none⟩ = #[Value.int .i64 t.x.lo, .int .i64 t.x.hi][j]?)) (by kernel_rfl) ?_
      replace k7 := k7.drew
      replace k4 := k4.drew
      replace k10 := k10.drew
      replace k11 := k11.drew
      replace k13 := k13.drew
      replace hb := hb.drew
      generalize Wa.drew = wd at *
      have hS : (fun w' : World => (∀ j, w'.cell? ⟨g10, j, none⟩ = #[Value.int .i64 32768, .int .i64 32768, .int .i64 65536, .int .i64 65536][j]?) ∧ (∀ j, w'.cell? ⟨g11, j, none⟩ = #[Value.int .i64 s, .int .i64 s, .int .i64 f, .int .i64 f][j]?) ∧ (∀ j, w'.cell? ⟨g13, j, none⟩ = #[Value.int .i64 t.x.lo, .int .i64 t.x.hi][j]?)) wd := ⟨k10.cell, k11.cell, k13.cell⟩
      refine held_take (i := 0) (v := ?_) 47 rfl rfl (by kernel_rfl) (by kernel_rfl) (by kernel_rfl) (fun _ _ _ h => h) (Or.inl ⟨by rfl, ?_⟩) hS ?_
      rotate_left 1
      · intro w' hSw
        try dsimp only at hSw
        obtain ⟨q1, q2, q3⟩ := hSw
        go_simp
        all_goals with_reducible rfl
      try simp only [Act.put, List.setIfInBounds_toArray, List.set_cons_zero, List.set_cons_succ]
      refine held_take (i := 1) (v := ?_) 48 rfl rfl (by kernel_rfl) (by kernel_rfl) (by kernel_rfl) (fun _ _ _ h => h) (Or.inl ⟨by rfl, ?_⟩) hS ?_
      rotate_left 1
      · intro w' hSw
        try dsimp only at hSw
        obtain ⟨q1, q2, q3⟩ := hSw
        go_simp
        all_goals with_reducible rfl
      try simp only [Act.put, List.setIfInBounds_toArray, List.set_cons_zero, List.set_cons_succ]
      refine held_take (i := 2) (v := ?_) 49 rfl rfl (by kernel_rfl) (by kernel_rfl) (by kernel_rfl) (fun _ _ _ h => h) (Or.inl ⟨by rfl, ?_⟩) hS ?_
      rotate_left 1
      · intro w' hSw
        try dsimp only at hSw
        obtain ⟨q1, q2, q3⟩ := hSw
        go_simp
        all_goals with_reducible rfl
      try simp only [Act.put, List.setIfInBounds_toArray, List.set_cons_zero, List.set_cons_succ]
      refine held_take (i := 3) (v := ?_) 50 rfl rfl (by kernel_rfl) (by kernel_rfl) (by kernel_rfl) (fun _ _ _ h => h) (Or.inl ⟨by rfl, ?_⟩) hS ?_
      rotate_left 1
      · intro w' hSw
        try dsimp only at hSw
        obtain ⟨q1, q2, q3⟩ := hSw
        go_simp
        all_goals with_reducible rfl
      try simp only [Act.put, List.setIfInBounds_toArray, List.set_cons_zero, List.set_cons_succ]
      refine held_take (i := 4) (v := ?_) 51 rfl rfl (by kernel_rfl) (by kernel_rfl) (by kernel_rfl) (fun _ _ _ h => h) (Or.inl ⟨by rfl, ?_⟩) hS ?_
      rotate_left 1
      · intro w' hSw
        try dsimp only at hSw
        obtain ⟨q1, q2, q3⟩ := hSw
        go_simp
        all_goals with_reducible rfl
      try simp only [Act.put, List.setIfInBounds_toArray, List.set_cons_zero, List.set_cons_succ]
      refine held_take (i := 5) (v := ?_) 52 rfl rfl (by kernel_rfl) (by kernel_rfl) (by kernel_rfl) (fun _ _ _ h => h) (Or.inl ⟨by rfl, ?_⟩) hS ?_
      rotate_left 1
      · intro w' hSw
        try dsimp only at hSw
        obtain ⟨q1, q2, q3⟩ := hSw
        go_simp
        all_goals with_reducible rfl
      try simp only [Act.put, List.setIfInBounds_toArray, List.set_cons_zero, List.set_cons_succ]
      refine held_take (i := 6) (v := ?_) 53 rfl rfl (by kernel_rfl) (by kernel_rfl) (by kernel_rfl) (fun _ _ _ h => h) (Or.inl ⟨by rfl, ?_⟩) hS ?_
      rotate_left 1
      · intro w' hSw
        try dsimp only at hSw
        obtain ⟨q1, q2, q3⟩ := hSw
        go_simp
        all_goals with_reducible rfl
      try simp only [Act.put, List.setIfInBounds_toArray, List.set_cons_zero, List.set_cons_succ]
      refine held_take (i := 7) (v := ?_) 54 rfl rfl (by kernel_rfl) (by kernel_rfl) (by kernel_rfl) (fun _ _ _ h => h) (Or.inl ⟨by rfl, ?_⟩) hS ?_
      rotate_left 1
      · intro w' hSw
        try dsimp only at hSw
        obtain ⟨q1, q2, q3⟩ := hSw
        go_simp
        all_goals with_reducible rfl
      try simp only [Act.put, List.setIfInBounds_toArray, List.set_cons_zero, List.set_cons_succ]
      refine held_take (i := 8) (v := ?_) 55 rfl rfl (by kernel_rfl) (by kernel_rfl) (by kernel_rfl) (fun _ _ _ h => h) (Or.inl ⟨by rfl, ?_⟩) hS ?_
      rotate_left 1
      · intro w' hSw
        try dsimp only at hSw
        obtain ⟨q1, q2, q3⟩ := hSw
        go_simp
        all_goals with_reducible rfl
      try simp only [Act.put, List.setIfInBounds_toArray, List.set_cons_zero, List.set_cons_succ]
      refine held_take (i := 9) (v := ?_) 56 rfl rfl (by kernel_rfl) (by kernel_rfl) (by kernel_rfl) (fun _ _ _ h => h) (Or.inl ⟨by rfl, ?_⟩) hS ?_
      rotate_left 1
      · intro w' hSw
        try dsimp only at hSw
        obtain ⟨q1, q2, q3⟩ := hSw
        go_simp
        all_goals with_reducible rfl
      try simp only [Act.put, List.setIfInBounds_toArray, List.set_cons_zero, List.set_cons_succ]
      refine held_take (i := 11) (v := ?_) 58 rfl rfl (by kernel_rfl) (by kernel_rfl) (by kernel_rfl) (fun _ _ _ h => h) (Or.inl ⟨by rfl, ?_⟩) hS ?_
      rotate_left 1
      · intro w' hSw
        try dsimp only at hSw
        obtain ⟨q1, q2, q3⟩ := hSw
        go_simp
        all_goals with_reducible rfl
      try simp only [Act.put, List.setIfInBounds_toArray, List.set_cons_zero, List.set_cons_succ]
      refine held_take (i := 12) (v := ?_) 59 rfl rfl (by kernel_rfl) (by kernel_rfl) (by kernel_rfl) (fun _ _ _ h => h) (Or.inl ⟨by rfl, ?_⟩) hS ?_
      rotate_left 1
      · intro w' hSw
        try dsimp only at hSw
        obtain ⟨q1, q2, q3⟩ := hSw
        go_simp
        all_goals with_reducible rfl
      try simp only [Act.put, List.setIfInBounds_toArray, List.set_cons_zero, List.set_cons_succ]
      refine held_take (i := 13) (v := ?_) 60 rfl rfl (by kernel_rfl) (by kernel_rfl) (by kernel_rfl) (fun _ _ _ h => h) (Or.inl ⟨by rfl, ?_⟩) hS ?_
      rotate_left 1
      · intro w' hSw
        try dsimp only at hSw
        obtain ⟨q1, q2, q3⟩ := hSw
        go_simp
        all_goals with_reducible rfl
      try simp only [Act.put, List.setIfInBounds_toArray, List.set_cons_zero, List.set_cons_succ]
      refine held_take (i := 14) (v := ?_) 61 rfl rfl (by kernel_rfl) (by kernel_rfl) (by kernel_rfl) (fun _ _ _ h => h) (Or.inl ⟨by rfl, ?_⟩) hS ?_
      rotate_left 1
      · intro w' hSw
        try dsimp only at hSw
        obtain ⟨q1, q2, q3⟩ := hSw
        go_simp
        all_goals with_reducible rfl
      try simp only [Act.put, List.setIfInBounds_toArray, List.set_cons_zero, List.set_cons_succ]
      refine held_take (i := 15) (v := ?_) 62 rfl rfl (by kernel_rfl) (by kernel_rfl) (by kernel_rfl) (fun _ _ _ h => h) (Or.inl ⟨by rfl, ?_⟩) hS ?_
      rotate_left 1
      · intro w' hSw
        try dsimp only at hSw
        obtain ⟨q1, q2, q3⟩ := hSw
        go_simp
        all_goals with_reducible rfl
      try simp only [Act.put, List.setIfInBounds_toArray, List.set_cons_zero, List.set_cons_succ]
      refine held_take (i := 16) (v := ?_) 63 rfl rfl (by kernel_rfl) (by kernel_rfl) (by kernel_rfl) (fun _ _ _ h => h) (Or.inl ⟨by rfl, ?_⟩) hS ?_
      rotate_left 1
      · intro w' hSw
        try dsimp only at hSw
        obtain ⟨q1, q2, q3⟩ := hSw
        go_simp
        all_goals with_reducible rfl
      try simp only [Act.put, List.setIfInBounds_toArray, List.set_cons_zero, List.set_cons_succ]
      refine held_take (i := 17) (v := ?_) 64 rfl rfl (by kernel_rfl) (by kernel_rfl) (by kernel_rfl) (fun _ _ _ h => h) (Or.inl ⟨by rfl, ?_⟩) hS ?_
      rotate_left 1
      · intro w' hSw
        try dsimp only at hSw
        obtain ⟨q1, q2, q3⟩ := hSw
        go_simp
        all_goals with_reducible rfl
      try simp only [Act.put, List.setIfInBounds_toArray, List.set_cons_zero, List.set_cons_succ]
      refine held_take (i := 18) (v := ?_) 65 rfl rfl (by kernel_rfl) (by kernel_rfl) (by kernel_rfl) (fun _ _ _ h => h) (Or.inl ⟨by rfl, ?_⟩) hS ?_
      rotate_left 1
      · intro w' hSw
        try dsimp only at hSw
        obtain ⟨q1, q2, q3⟩ := hSw
        go_simp
        all_goals with_reducible rfl
      try simp only [Act.put, List.setIfInBounds_toArray, List.set_cons_zero, List.set_cons_succ]
      refine held_take (i := 19) (v := ?_) 66 rfl rfl (by kernel_rfl) (by kernel_rfl) (by kernel_rfl) (fun _ _ _ h => h) (Or.inl ⟨by rfl, ?_⟩) hS ?_
      rotate_left 1
      · intro w' hSw
        try dsimp only at hSw
        obtain ⟨q1, q2, q3⟩ := hSw
        go_simp
        all_goals with_reducible rfl
      try simp only [Act.put, List.setIfInBounds_toArray, List.set_cons_zero, List.set_cons_succ]
      refine held_one (i := 10) (by kernel_rfl) rfl rfl (fun K hK => ?_)
      go_simp
      refine (hI1 _).mono ?_
      rintro e W' ⟨rfl, rfl⟩
      refine hK _ _ hS ?_
      clear hK K hI1
      try simp only [Act.put, List.setIfInBounds_toArray, List.set_cons_zero, List.set_cons_succ]
      refine held_one (i := 20) (by kernel_rfl) rfl rfl (fun K hK => ?_)
      go_simp
      refine (hI2 _).mono ?_
      rintro e W' ⟨rfl, rfl⟩
      refine hK _ _ hS ?_
      clear hK K hI2 u1 u2
      try simp only [Act.put, List.setIfInBounds_toArray, List.set_cons_zero, List.set_cons_succ]
      generalize hE1 : intoL 32768 (t.x.lo - s) = v1 at *
      generalize hE2 : intoL 32768 (t.x.hi + s) = v2 at *
      replace hE1 := Lib.hid hE1
      replace hE2 := Lib.hid hE2
      refine held_take (i := 21) (v := ?_) 68 rfl rfl (by kernel_rfl) (by kernel_rfl) (by kernel_rfl) (fun _ _ _ h => h) (Or.inl ⟨by rfl, ?_⟩) hS ?_
      rotate_left 1
      · intro w' hSw
        try dsimp only at hSw
        obtain ⟨q1, q2, q3⟩ := hSw
        go_simp
        all_goals with_reducible rfl
      try simp only [Act.put, List.setIfInBounds_toArray, List.set_cons_zero, List.set_cons_succ]
      refine held_take (i := 22) (v := ?_) 69 rfl rfl (by kernel_rfl) (by kernel_rfl) (by kernel_rfl) (fun _ _ _ h => h) (Or.inl ⟨by rfl, ?_⟩) hS ?_
      rotate_left 1
      · intro w' hSw
        try dsimp only at hSw
        obtain ⟨q1, q2, q3⟩ := hSw
        go_simp
        all_goals with_reducible rfl
      try simp only [Act.put, List.setIfInBounds_toArray, List.set_cons_zero, List.set_cons_succ]
      have k7z := (k7.set_ 0 (.int .i64 v1)).set_ 1 (.int .i64 v2)
      simp only [List.setIfInBounds_toArray, List.set_cons_zero, List.set_cons_succ] at k7z
      have k4z := (k4.far (p := ⟨g7, 0, none⟩) (show w.heap.size + 1 ≠ g7 by omega) (.int .i64 v1)).far (p := ⟨g7, 1, none⟩) (show w.heap.size + 1 ≠ g7 by omega) (.int .i64 v2)
      have k10z := (k10.far (p := ⟨g7, 0, none⟩) (show g10 ≠ g7 by omega) (.int .i64 v1)).far (p := ⟨g7, 1, none⟩) (show g10 ≠ g7 by omega) (.int .i64 v2)
      have k11z := (k11.far (p := ⟨g7, 0, none⟩) (show g11 ≠ g7 by omega) (.int .i64 v1)).far (p := ⟨g7, 1, none⟩) (show g11 ≠ g7 by omega) (.int .i64 v2)
      have k13z := (k13.far (p := ⟨g7, 0, none⟩) (show g13 ≠ g7 by omega) (.int .i64 v1)).far (p := ⟨g7, 1, none⟩) (show g13 ≠ g7 by omega) (.int .i64 v2)
      have bz := (hb.setCell (p := ⟨g7, 0, none⟩) (show w.heap.size ≤ g7 by omega) (.int .i64 v1)).setCell (p := ⟨g7, 1, none⟩) (show w.heap.size ≤ g7 by omega) (.int .i64 v2)
      obtain ⟨c7, f7, l7⟩ := k7.rules
      refine held_one (i := 23) (by kernel_rfl) rfl rfl (fun K hK => ?_)
      go_simp
      refine hK _ _ ⟨k10z.cell, k11z.cell, k13z.cell⟩ ?_
      clear hK K c7 f7 l7 hS k7 k4 k10 k11 k13 hb
      generalize (wd.setCell ⟨g7, 0, none⟩ (.int .i64 v1)).setCell ⟨g7, 1, none⟩ (.int .i64 v2) = W6 at *
      refine wpAnyH_done (by kernel_rfl) (noPanic_normal ?_) _
      go_wp2_with fail
      go_roundw
      case rel => exact ⟨0 + 1, rfl, by omega, by rw [← hE1.out, ← hE2.out] at k7z; exact k7z, k4z, k10z, k11z, bz⟩
      case measure => simp [intOf]
    | 1, _ =>
      have hI1 := fun W => into_any 32768 (t.y.lo - s) W (by omega) (by omega)
      have hI2 := fun W => into_any 32768 (t.y.hi + s) W (by omega) (by omega)
      have u1 := IntWalk.i64_in (t.y.lo - s) (by omega)
      have u2 := IntWalk.i64_in (t.y.hi + s) (by omega)
      simp only [regA, wideKS] at k7
      rw [show jv 1 = .int .i64 1 from rfl]
      go_wp2_with fail
      have k13 := Blk.new wr 40 #[.int .i64 t.y.lo, .int .i64 t.y.hi]
      have hbel := (Below.refl wr.heap.size wr).alloc (Nat.le_refl _) (.cells #[.int .i64 t.y.lo, .int .i64 t.y.hi] 40)
      have hl7 := k7.lt
      replace k7 := k7.below hbel
      replace k4 := k4.below hbel
      replace k10 := k10.below hbel
      replace k11 := k11.below hbel
      replace hb := hb.trans (hbel.mono hb.size)
      clear hbel
      generalize wr.alloc (.cells #[.int .i64 t.y.lo, .int .i64 t.y.hi] 40) = Wa at *
      generalize wr.heap.size = g13 at *
      refine wp_held_np (fun w' : World => (∀ j, w'.cell? ⟨g10, j, none⟩ = #[Value.int .i64 32768, .int .i64 32768, .int .i64 65536, .int .i64 65536][j]?) ∧ (∀ j, w'.cell? ⟨g11, j, none⟩ = #[Value.int .i64 s, .int .i64 s, .int .i64 f, .int .i64 f][j]?) ∧ (∀ j, w'.cell? ⟨g13, j, none⟩ = #[Value.int .i64 t.y.lo, .int .i64 t.y.hi][j]?)) (by kernel_rfl) ?_
      replace k7 := k7.drew
      replace k4 := k4.drew
      replace k10 := k10.drew
      replace k11 := k11.drew
      replace k13 := k13.drew
      replace hb := hb.drew
      generalize Wa.drew = wd at *
      have hS : (fun w' : World => (∀ j, w'.cell? ⟨g10, j, none⟩ = #[Value.int .i64 32768, .int .i64 32768, .int .i64 65536, .int .i64 65536][j]?) ∧ (∀ j, w'.cell? ⟨g11, j, none⟩ = #[Value.int .i64 s, .int .i64 s, .int .i64 f, .int .i64 f][j]?) ∧ (∀ j, w'.cell? ⟨g13, j, none⟩ = #[Value.int .i64 t.y.lo, .int .i64 t.y.hi][j]?)) wd := ⟨k10.cell, k11.cell, k13.cell⟩
      refine held_take (i := 0) (v := ?_) 47 rfl rfl (by kernel_rfl) (by kernel_rfl) (by kernel_rfl) (fun _ _ _ h => h) (Or.inl ⟨by rfl, ?_⟩) hS ?_
      rotate_left 1
      · intro w' hSw
        try dsimp only at hSw
        obtain ⟨q1, q2, q3⟩ := hSw
        go_simp
        all_goals with_reducible rfl
      try simp only [Act.put, List.setIfInBounds_toArray, List.set_cons_zero, List.set_cons_succ]
      refine held_take (i := 1) (v := ?_) 48 rfl rfl (by kernel_rfl) (by kernel_rfl) (by kernel_rfl) (fun _ _ _ h => h) (Or.inl ⟨by rfl, ?_⟩) hS ?_
      rotate_left 1
      · intro w' hSw
        try dsimp only at hSw
        obtain ⟨q1, q2, q3⟩ := hSw
        go_simp
        all_goals with_reducible rfl
      try simp only [Act.put, List.setIfInBounds_toArray, List.set_cons_zero, List.set_cons_succ]
      refine held_take (i := 2) (v := ?_) 49 rfl rfl (by kernel_rfl) (by kernel_rfl) (by kernel_rfl) (fun _ _ _ h => h) (Or.inl ⟨by rfl, ?_⟩) hS ?_
      rotate_left 1
      · intro w' hSw
        try dsimp only at hSw
        obtain ⟨q1, q2, q3⟩ := hSw
        go_simp
        all_goals with_reducible rfl
      try simp only [Act.put, List.setIfInBounds_toArray, List.set_cons_zero, List.set_cons_succ]
      refine held_take (i := 3) (v := ?_) 50 rfl rfl (by kernel_rfl) (by kernel_rfl) (by kernel_rfl) (fun _ _ _ h => h) (Or.inl ⟨by rfl, ?_⟩) hS ?_
      rotate_left 1
      · intro w' hSw
        try dsimp only at hSw
        obtain ⟨q1, q2, q3⟩ := hSw
        go_simp
        all_goals with_reducible rfl
      try simp only [Act.put, List.setIfInBounds_toArray, List.set_cons_zero, List.set_cons_succ]
      refine held_take (i := 4) (v := ?_) 51 rfl rfl (by kernel_rfl) (by kernel_rfl) (by kernel_rfl) (fun _ _ _ h => h) (Or.inl ⟨by rfl, ?_⟩) hS ?_
      rotate_left 1
      · intro w' hSw
        try dsimp only at hSw
        obtain ⟨q1, q2, q3⟩ := hSw
        go_simp
        all_goals with_reducible rfl
      try simp only [Act.put, List.setIfInBounds_toArray, List.set_cons_zero, List.set_cons_succ]
      refine held_take (i := 5) (v := ?_) 52 rfl rfl (by kernel_rfl) (by kernel_rfl) (by kernel_rfl) (fun _ _ _ h => h) (Or.inl ⟨by rfl, ?_⟩) hS ?_
      rotate_left 1
      · intro w' hSw
        try dsimp only at hSw
        obtain ⟨q1, q2, q3⟩ := hSw
        go_simp
        all_goals with_reducible rfl
      try simp only [Act.put, List.setIfInBounds_toArray, List.set_cons_zero, List.set_cons_succ]
      refine held_take (i := 6) (v := ?_) 53 rfl rfl (by kernel_rfl) (by kernel_rfl) (by kernel_rfl) (fun _ _ _ h => h) (Or.inl ⟨by rfl, ?_⟩) hS ?_
      rotate_left 1
      · intro w' hSw
        try dsimp only at hSw
        obtain ⟨q1, q2, q3⟩ := hSw
        go_simp
        all_goals with_reducible rfl
      try simp only [Act.put, List.setIfInBounds_toArray, List.set_cons_zero, List.set_cons_succ]
      refine held_take (i := 7) (v := ?_) 54 rfl rfl (by kernel_rfl) (by kernel_rfl) (by kernel_rfl) (fun _ _ _ h => h) (Or.inl ⟨by rfl, ?_⟩) hS ?_
      rotate_left 1
      · intro w' hSw
        try dsimp only at hSw
        obtain ⟨q1, q2, q3⟩ := hSw
        go_simp
        all_goals with_reducible rfl
      try simp only [Act.put, List.setIfInBounds_toArray, List.set_cons_zero, List.set_cons_succ]
      refine held_take (i := 8) (v := ?_) 55 rfl rfl (by kernel_rfl) (by kernel_rfl) (by kernel_rfl) (fun _ _ _ h => h) (Or.inl ⟨by rfl, ?_⟩) hS ?_
      rotate_left 1
      · intro w' hSw
        try dsimp only at hSw
        obtain ⟨q1, q2, q3⟩ := hSw
        go_simp
        all_goals with_reducible rfl
      try simp only [Act.put, List.setIfInBounds_toArray, List.set_cons_zero, List.set_cons_succ]
      refine held_take (i := 9) (v := ?_) 56 rfl rfl (by kernel_rfl) (by kernel_rfl) (by kernel_rfl) (fun _ _ _ h => h) (Or.inl ⟨by rfl, ?_⟩) hS ?_
      rotate_left 1
      · intro w' hSw
        try dsimp only at hSw
        obtain ⟨q1, q2, q3⟩ := hSw
        go_simp
        all_goals with_reducible rfl
      try simp only [Act.put, List.setIfInBounds_toArray, List.set_cons_zero, List.set_cons_succ]
      refine held_take (i := 11) (v := ?_) 58 rfl rfl (by kernel_rfl) (by kernel_rfl) (by kernel_rfl) (fun _ _ _ h => h) (Or.inl ⟨by rfl, ?_⟩) hS ?_
      rotate_left 1
      · intro w' hSw
        try dsimp only at hSw
        obtain ⟨q1, q2, q3⟩ := hSw
        go_simp
        all_goals with_reducible rfl
      try simp only [Act.put, List.setIfInBounds_toArray, List.set_cons_zero, List.set_cons_succ]
      refine held_take (i := 12) (v := ?_) 59 rfl rfl (by kernel_rfl) (by kernel_rfl) (by kernel_rfl) (fun _ _ _ h => h) (Or.inl ⟨by rfl, ?_⟩) hS ?_
      rotate_left 1
      · intro w' hSw
        try dsimp only at hSw
        obtain ⟨q1, q2, q3⟩ := hSw
        go_simp
        all_goals with_reducible rfl
      try simp only [Act.put, List.setIfInBounds_toArray, List.set_cons_zero, List.set_cons_succ]
      refine held_take (i := 13) (v := ?_) 60 rfl rfl (by kernel_rfl) (by kernel_rfl) (by kernel_rfl) (fun _ _ _ h => h) (Or.inl ⟨by rfl, ?_⟩) hS ?_
      rotate_left 1
      · intro w' hSw
        try dsimp only at hSw
        obtain ⟨q1, q2, q3⟩ := hSw
        go_simp
        all_goals with_reducible rfl
      try simp only [Act.put, List.setIfInBounds_toArray, List.set_cons_zero, List.set_cons_succ]
      refine held_take (i := 14) (v := ?_) 61 rfl rfl (by kernel_rfl) (by kernel_rfl) (by kernel_rfl) (fun _ _ _ h => h) (Or.inl ⟨by rfl, ?_⟩) hS ?_
      rotate_left 1
      · intro w' hSw
        try dsimp only at hSw
        obtain ⟨q1, q2, q3⟩ := hSw
        go_simp
        all_goals with_reducible rfl
      try simp only [Act.put, List.setIfInBounds_toArray, List.set_cons_zero, List.set_cons_succ]
      refine held_take (i := 15) (v := ?_) 62 rfl rfl (by kernel_rfl) (by kernel_rfl) (by kernel_rfl) (fun _ _ _ h => h) (Or.inl ⟨by rfl, ?_⟩) hS ?_
      rotate_left 1
      · intro w' hSw
        try dsimp only at hSw
        obtain ⟨q1, q2, q3⟩ := hSw
        go_simp
        all_goals with_reducible rfl
      try simp only [Act.put, List.setIfInBounds_toArray, List.set_cons_zero, List.set_cons_succ]
      refine held_take (i := 16) (v := ?_) 63 rfl rfl (by kernel_rfl) (by kernel_rfl) (by kernel_rfl) (fun _ _ _ h => h) (Or.inl ⟨by rfl, ?_⟩) hS ?_
      rotate_left 1
      · intro w' hSw
        try dsimp only at hSw
        obtain ⟨q1, q2, q3⟩ := hSw
        go_simp
        all_goals with_reducible rfl
      try simp only [Act.put, List.setIfInBounds_toArray, List.set_cons_zero, List.set_cons_succ]
      refine held_take (i := 17) (v := ?_) 64 rfl rfl (by kernel_rfl) (by kernel_rfl) (by kernel_rfl) (fun _ _ _ h => h) (Or.inl ⟨by rfl, ?_⟩) hS ?_
      rotate_left 1
      · intro w' hSw
        try dsimp only at hSw
        obtain ⟨q1, q2, q3⟩ := hSw
        go_simp
        all_goals with_reducible rfl
      try simp only [Act.put, List.setIfInBounds_toArray, List.set_cons_zero, List.set_cons_succ]
      refine held_take (i := 18) (v := ?_) 65 rfl rfl (by kernel_rfl) (by kernel_rfl) (by kernel_rfl) (fun _ _ _ h => h) (Or.inl ⟨by rfl, ?_⟩) hS ?_
      rotate_left 1
      · intro w' hSw
        try dsimp only at hSw
        obtain ⟨q1, q2, q3⟩ := hSw
        go_simp
        all_goals with_reducible rfl
      try simp only [Act.put, List.setIfInBounds_toArray, List.set_cons_zero, List.set_cons_succ]
      refine held_take (i := 19) (v := ?_) 66 rfl rfl (by kernel_rfl) (by kernel_rfl) (by kernel_rfl) (fun _ _ _ h => h) (Or.inl ⟨by rfl, ?_⟩) hS ?_
      rotate_left 1
      · intro w' hSw
        try dsimp only at hSw
        obtain ⟨q1, q2, q3⟩ := hSw
        go_simp
        all_goals with_reducible rfl
      try simp only [Act.put, List.setIfInBounds_toArray, List.set_cons_zero, List.set_cons_succ]
      refine held_one (i := 10) (by kernel_rfl) rfl rfl (fun K hK => ?_)
      go_simp
      refine (hI1 _).mono ?_
      rintro e W' ⟨rfl, rfl⟩
      refine hK _ _ hS ?_
      clear hK K hI1
      try simp only [Act.put, List.setIfInBounds_toArray, List.set_cons_zero, List.set_cons_succ]
      refine held_one (i := 20) (by kernel_rfl) rfl rfl (fun K hK => ?_)
      go_simp
      refine (hI2 _).mono ?_
      rintro e W' ⟨rfl, rfl⟩
      refine hK _ _ hS ?_
      clear hK K hI2 u1 u2
      try simp only [Act.put, List.setIfInBounds_toArray, List.set_cons_zero, List.set_cons_succ]
      generalize hE1 : intoL 32768 (t.y.lo - s) = v1 at *
      generalize hE2 : intoL 32768 (t.y.hi + s) = v2 at *
      replace hE1 := Lib.hid hE1
      replace hE2 := Lib.hid hE2
      refine held_take (i := 21) (v := ?_) 68 rfl rfl (by kernel_rfl) (by kernel_rfl) (by kernel_rfl) (fun _ _ _ h => h) (Or.inl ⟨by rfl, ?_⟩) hS ?_
      rotate_left 1
      · intro w' hSw
        try dsimp only at hSw
        obtain ⟨q1, q2, q3⟩ := hSw
        go_simp
        all_goals with_reducible rfl
      try simp only [Act.put, List.setIfInBounds_toArray, List.set_cons_zero, List.set_cons_succ]
      refine held_take (i := 22) (v := ?_) 69 rfl rfl (by kernel_rfl) (by kernel_rfl) (by kernel_rfl) (fun _ _ _ h => h) (Or.inl ⟨by rfl, ?_⟩) hS ?_
      rotate_left 1
      · intro w' hSw
        try dsimp only at hSw
        obtain ⟨q1, q2, q3⟩ := hSw
        go_simp
        all_goals with_reducible rfl
      try simp only [Act.put, List.setIfInBounds_toArray, List.set_cons_zero, List.set_cons_succ]
      have k7z := (k7.set_ 2 (.int .i64 v1)).set_ 3 (.int .i64 v2)
      simp only [List.setIfInBounds_toArray, List.set_cons_zero, List.set_cons_succ] at k7z
      have k4z := (k4.far (p := ⟨g7, 2, none⟩) (show w.heap.size + 1 ≠ g7 by omega) (.int .i64 v1)).far (p := ⟨g7, 3, none⟩) (show w.heap.size + 1 ≠ g7 by omega) (.int .i64 v2)
      have k10z := (k10.far (p := ⟨g7, 2, none⟩) (show g10 ≠ g7 by omega) (.int .i64 v1)).far (p := ⟨g7, 3, none⟩) (show g10 ≠ g7 by omega) (.int .i64 v2)
      have k11z := (k11.far (p := ⟨g7, 2, none⟩) (show g11 ≠ g7 by omega) (.int .i64 v1)).far (p := ⟨g7, 3, none⟩) (show g11 ≠ g7 by omega) (.int .i64 v2)
      have k13z := (k13.far (p := ⟨g7, 2, none⟩) (show g13 ≠ g7 by omega) (.int .i64 v1)).far (p := ⟨g7, 3, none⟩) (show g13 ≠ g7 by omega) (.int .i64 v2)
      have bz := (hb.setCell (p := ⟨g7, 2, none⟩) (show w.heap.size ≤ g7 by omega) (.int .i64 v1)).setCell (p := ⟨g7, 3, none⟩) (show w.heap.size ≤ g7 by omega) (.int .i64 v2)
      obtain ⟨c7, f7, l7⟩ := k7.rules
      refine held_one (i := 23) (by kernel_rfl) rfl rfl (fun K hK => ?_)
      go_simp
      refine hK _ _ ⟨k10z.cell, k11z.cell, k13z.cell⟩ ?_
      clear hK K c7 f7 l7 hS k7 k4 k10 k11 k13 hb
      generalize (wd.setCell ⟨g7, 2, none⟩ (.int .i64 v1)).setCell ⟨g7, 3, none⟩ (.int .i64 v2) = W6 at *
      refine wpAnyH_done (by kernel_rfl) (noPanic_normal ?_) _
      go_wp2_with fail
      go_roundw
      case rel => exact ⟨1 + 1, rfl, by omega, by rw [← hE1.out, ← hE2.out] at k7z; exact k7z, k4z, k10z, k11z, bz⟩
      case measure => simp [intOf]
    | 2, _ =>
      have hI1 := fun W => into_any 65536 (t.s.lo - f) W (by omega) (by omega)
      have hI2 := fun W => into_any 65536 (t.s.hi + f) W (by omega) (by omega)
      have u1 := IntWalk.i64_in (t.s.lo - f) (by omega)
      have u2 := IntWalk.i64_in (t.s.hi + f) (by omega)
      simp only [regA, wideKS] at k7
      rw [show jv 2 = .int .i64 2 from rfl]
      go_wp2_with fail
      have k13 := Blk.new wr 40 #[.int .i64 t.s.lo, .int .i64 t.s.hi]
      have hbel := (Below.refl wr.heap.size wr).alloc (Nat.le_refl _) (.cells #[.int .i64 t.s.lo, .int .i64 t.s.hi] 40)
      have hl7 := k7.lt
      replace k7 := k7.below hbel
      replace k4 := k4.below hbel
      replace k10 := k10.below hbel
      replace k11 := k11.below hbel
      replace hb := hb.trans (hbel.mono hb.size)
      clear hbel
      generalize wr.alloc (.cells #[.int .i64 t.s.lo, .int .i64 t.s.hi] 40) = Wa at *
      generalize wr.heap.size = g13 at *
      refine wp_held_np (fun w' : World => (∀ j, w'.cell? ⟨g10, j, none⟩ = #[Value.int .i64 32768, .int .i64 32768, .int .i64 65536, .int .i64 65536][j]?) ∧ (∀ j, w'.cell? ⟨g11, j, none⟩ = #[Value.int .i64 s, .int .i64 s, .int .i64 f, .int .i64 f][j]?) ∧ (∀ j, w'.cell? ⟨g13, j, none⟩ = #[Value.int .i64 t.s.lo, .int .i64 t.s.hi][j]?)) (by kernel_rfl) ?_
      replace k7 := k7.drew
      replace k4 := k4.drew
      replace k10 := k10.drew
      replace k11 := k11.drew
      replace k13 := k13.drew
      replace hb := hb.drew
      generalize Wa.drew = wd at *
      have hS : (fun w' : World => (∀ j, w'.cell? ⟨g10, j, none⟩ = #[Value.int .i64 32768, .int .i64 32768, .int .i64 65536, .int .i64 65536][j]?) ∧ (∀ j, w'.cell? ⟨g11, j, none⟩ = #[Value.int .i64 s, .int .i64 s, .int .i64 f, .int .i64 f][j]?) ∧ (∀ j, w'.cell? ⟨g13, j, none⟩ = #[Value.int .i64 t.s.lo, .int .i64 t.s.hi][j]?)) wd := ⟨k10.cell, k11.cell, k13.cell⟩
      refine held_take (i := 0) (v := ?_) 47 rfl rfl (by kernel_rfl) (by kernel_rfl) (by kernel_rfl) (fun _ _ _ h => h) (Or.inl ⟨by rfl, ?_⟩) hS ?_
      rotate_left 1
      · intro w' hSw
        try dsimp only at hSw
        obtain ⟨q1, q2, q3⟩ := hSw
        go_simp
        all_goals with_reducible rfl
      try simp only [Act.put, List.setIfInBounds_toArray, List.set_cons_zero, List.set_cons_succ]
      refine held_take (i := 1) (v := ?_) 48 rfl rfl (by kernel_rfl) (by kernel_rfl) (by kernel_rfl) (fun _ _ _ h => h) (Or.inl ⟨by rfl, ?_⟩) hS ?_
      rotate_left 1
      · intro w' hSw
        try dsimp only at hSw
        obtain ⟨q1, q2, q3⟩ := hSw
        go_simp
        all_goals with_reducible rfl
      try simp only [Act.put, List.setIfInBounds_toArray, List.set_cons_zero, List.set_cons_succ]
      refine held_take (i := 2) (v := ?_) 49 rfl rfl (by kernel_rfl) (by kernel_rfl) (by kernel_rfl) (fun _ _ _ h => h) (Or.inl ⟨by rfl, ?_⟩) hS ?_
      rotate_left 1
      · intro w' hSw
        try dsimp only at hSw
        obtain ⟨q1, q2, q3⟩ := hSw
        go_simp
        all_goals with_reducible rfl
      try simp only [Act.put, List.setIfInBounds_toArray, List.set_cons_zero, List.set_cons_succ]
      refine held_take (i := 3) (v := ?_) 50 rfl rfl (by kernel_rfl) (by kernel_rfl) (by kernel_rfl) (fun _ _ _ h => h) (Or.inl ⟨by rfl, ?_⟩) hS ?_
      rotate_left 1
      · intro w' hSw
        try dsimp only at hSw
        obtain ⟨q1, q2, q3⟩ := hSw
        go_simp
        all_goals with_reducible rfl
      try simp only [Act.put, List.setIfInBounds_toArray, List.set_cons_zero, List.set_cons_succ]
      refine held_take (i := 4) (v := ?_) 51 rfl rfl (by kernel_rfl) (by kernel_rfl) (by kernel_rfl) (fun _ _ _ h => h) (Or.inl ⟨by rfl, ?_⟩) hS ?_
      rotate_left 1
      · intro w' hSw
        try dsimp only at hSw
        obtain ⟨q1, q2, q3⟩ := hSw
        go_simp
        all_goals with_reducible rfl
      try simp only [Act.put, List.setIfInBounds_toArray, List.set_cons_zero, List.set_cons_succ]
      refine held_take (i := 5) (v := ?_) 52 rfl rfl (by kernel_rfl) (by kernel_rfl) (by kernel_rfl) (fun _ _ _ h => h) (Or.inl ⟨by rfl, ?_⟩) hS ?_
      rotate_left 1
      · intro w' hSw
        try dsimp only at hSw
        obtain ⟨q1, q2, q3⟩ := hSw
        go_simp
        all_goals with_reducible rfl
      try simp only [Act.put, List.setIfInBounds_toArray, List.set_cons_zero, List.set_cons_succ]
      refine held_take (i := 6) (v := ?_) 53 rfl rfl (by kernel_rfl) (by kernel_rfl) (by kernel_rfl) (fun _ _ _ h => h) (Or.inl ⟨by rfl, ?_⟩) hS ?_
      rotate_left 1
      · intro w' hSw
        try dsimp only at hSw
        obtain ⟨q1, q2, q3⟩ := hSw
        go_simp
        all_goals with_reducible rfl
      try simp only [Act.put, List.setIfInBounds_toArray, List.set_cons_zero, List.set_cons_succ]
      refine held_take (i := 7) (v := ?_) 54 rfl rfl (by kernel_rfl) (by kernel_rfl) (by kernel_rfl) (fun _ _ _ h => h) (Or.inl ⟨by rfl, ?_⟩) hS ?_
      rotate_left 1
      · intro w' hSw
        try dsimp only at hSw
        obtain ⟨q1, q2, q3⟩ := hSw
        go_simp
        all_goals with_reducible rfl
      try simp only [Act.put, List.setIfInBounds_toArray, List.set_cons_zero, List.set_cons_succ]
      refine held_take (i := 8) (v := ?_) 55 rfl rfl (by kernel_rfl) (by kernel_rfl) (by kernel_rfl) (fun _ _ _ h => h) (Or.inl ⟨by rfl, ?_⟩) hS ?_
      rotate_left 1
      · intro w' hSw
        try dsimp only at hSw
        obtain ⟨q1, q2, q3⟩ := hSw
        go_simp
        all_goals with_reducible rfl
      try simp only [Act.put, List.setIfInBounds_toArray, List.set_cons_zero, List.set_cons_succ]
      refine held_take (i := 9) (v := ?_) 56 rfl rfl (by kernel_rfl) (by kernel_rfl) (by kernel_rfl) (fun _ _ _ h => h) (Or.inl ⟨by rfl, ?_⟩) hS ?_
      rotate_left 1
      · intro w' hSw
        try dsimp only at hSw
        obtain ⟨q1, q2, q3⟩ := hSw
        go_simp
        all_goals with_reducible rfl
      try simp only [Act.put, List.setIfInBounds_toArray, List.set_cons_zero, List.set_cons_succ]
      refine held_take (i := 11) (v := ?_) 58 rfl rfl (by kernel_rfl) (by kernel_rfl) (by kernel_rfl) (fun _ _ _ h => h) (Or.inl ⟨by rfl, ?_⟩) hS ?_
      rotate_left 1
      · intro w' hSw
        try dsimp only at hSw
        obtain ⟨q1, q2, q3⟩ := hSw
        go_simp
        all_goals with_reducible rfl
      try simp only [Act.put, List.setIfInBounds_toArray, List.set_cons_zero, List.set_cons_succ]
      refine held_take (i := 12) (v := ?_) 59 rfl rfl (by kernel_rfl) (by kernel_rfl) (by kernel_rfl) (fun _ _ _ h => h) (Or.inl ⟨by rfl, ?_⟩) hS ?_
      rotate_left 1
      · intro w' hSw
        try dsimp only at hSw
        obtain ⟨q1, q2, q3⟩ := hSw
        go_simp
        all_goals with_reducible rfl
      try simp only [Act.put, List.setIfInBounds_toArray, List.set_cons_zero, List.set_cons_succ]
      refine held_take (i := 13) (v := ?_) 60 rfl rfl (by kernel_rfl) (by kernel_rfl) (by kernel_rfl) (fun _ _ _ h => h) (Or.inl ⟨by rfl, ?_⟩) hS ?_
      rotate_left 1
      · intro w' hSw
        try dsimp only at hSw
        obtain ⟨q1, q2, q3⟩ := hSw
        go_simp
        all_goals with_reducible rfl
      try simp only [Act.put, List.setIfInBounds_toArray, List.set_cons_zero, List.set_cons_succ]
      refine held_take (i := 14) (v := ?_) 61 rfl rfl (by kernel_rfl) (by kernel_rfl) (by kernel_rfl) (fun _ _ _ h => h) (Or.inl ⟨by rfl, ?_⟩) hS ?_
      rotate_left 1
      · intro w' hSw
        try dsimp only at hSw
        obtain ⟨q1, q2, q3⟩ := hSw
        go_simp
        all_goals with_reducible rfl
      try simp only [Act.put, List.setIfInBounds_toArray, List.set_cons_zero, List.set_cons_succ]
      refine held_take (i := 15) (v := ?_) 62 rfl rfl (by kernel_rfl) (by kernel_rfl) (by kernel_rfl) (fun _ _ _ h => h) (Or.inl ⟨by rfl, ?_⟩) hS ?_
      rotate_left 1
      · intro w' hSw
        try dsimp only at hSw
        obtain ⟨q1, q2, q3⟩ := hSw
        go_simp
        all_goals with_reducible rfl
      try simp only [Act.put, List.setIfInBounds_toArray, List.set_cons_zero, List.set_cons_succ]
      refine held_take (i := 16) (v := ?_) 63 rfl rfl (by kernel_rfl) (by kernel_rfl) (by kernel_rfl) (fun _ _ _ h => h) (Or.inl ⟨by rfl, ?_⟩) hS ?_
      rotate_left 1
      · intro w' hSw
        try dsimp only at hSw
        obtain ⟨q1, q2, q3⟩ := hSw
        go_simp
        all_goals with_reducible rfl
      try simp only [Act.put, List.setIfInBounds_toArray, List.set_cons_zero, List.set_cons_succ]
      refine held_take (i := 17) (v := ?_) 64 rfl rfl (by kernel_rfl) (by kernel_rfl) (by kernel_rfl) (fun _ _ _ h => h) (Or.inl ⟨by rfl, ?_⟩) hS ?_
      rotate_left 1
      · intro w' hSw
        try dsimp only at hSw
        obtain ⟨q1, q2, q3⟩ := hSw
        go_simp
        all_goals with_reducible rfl
      try simp only [Act.put, List.setIfInBounds_toArray, List.set_cons_zero, List.set_cons_succ]
      refine held_take (i := 18) (v := ?_) 65 rfl rfl (by kernel_rfl) (by kernel_rfl) (by kernel_rfl) (fun _ _ _ h => h) (Or.inl ⟨by rfl, ?_⟩) hS ?_
      rotate_left 1
      · intro w' hSw
        try dsimp only at hSw
        obtain ⟨q1, q2, q3⟩ := hSw
        go_simp
        all_goals with_reducible rfl
      try simp only [Act.put, List.setIfInBounds_toArray, List.set_cons_zero, List.set_cons_succ]
      refine held_take (i := 19) (v := ?_) 66 rfl rfl (by kernel_rfl) (by kernel_rfl) (by kernel_rfl) (fun _ _ _ h => h) (Or.inl ⟨by rfl, ?_⟩) hS ?_
      rotate_left 1
      · intro w' hSw
        try dsimp only at hSw
        obtain ⟨q1, q2, q3⟩ := hSw
        go_simp
        all_goals with_reducible rfl
      try simp only [Act.put, List.setIfInBounds_toArray, List.set_cons_zero, List.set_cons_succ]
      refine held_one (i := 10) (by kernel_rfl) rfl rfl (fun K hK => ?_)
      go_simp
      refine (hI1 _).mono ?_
      rintro e W' ⟨rfl, rfl⟩
      refine hK _ _ hS ?_
      clear hK K hI1
      try simp only [Act.put, List.setIfInBounds_toArray, List.set_cons_zero, List.set_cons_succ]
      refine held_one (i := 20) (by kernel_rfl) rfl rfl (fun K hK => ?_)
      go_simp
      refine (hI2 _).mono ?_
      rintro e W' ⟨rfl, rfl⟩
      refine hK _ _ hS ?_
      clear hK K hI2 u1 u2
      try simp only [Act.put, List.setIfInBounds_toArray, List.set_cons_zero, List.set_cons_succ]
      generalize hE1 : intoL 65536 (t.s.lo - f) = v1 at *
      generalize hE2 : intoL 65536 (t.s.hi + f) = v2 at *
      replace hE1 := Lib.hid hE1
      replace hE2 := Lib.hid hE2
      refine held_take (i := 21) (v := ?_) 68 rfl rfl (by kernel_rfl) (by kernel_rfl) (by kernel_rfl) (fun _ _ _ h => h) (Or.inl ⟨by rfl, ?_⟩) hS ?_
      rotate_left 1
      · intro w' hSw
        try dsimp only at hSw
        obtain ⟨q1, q2, q3⟩ := hSw
        go_simp
        all_goals with_reducible rfl
      try simp only [Act.put, List.setIfInBounds_toArray, List.set_cons_zero, List.set_cons_succ]
      refine held_take (i := 22) (v := ?_) 69 rfl rfl (by kernel_rfl) (by kernel_rfl) (by kernel_rfl) (fun _ _ _ h => h) (Or.inl ⟨by rfl, ?_⟩) hS ?_
      rotate_left 1
      · intro w' hSw
        try dsimp only at hSw
        obtain ⟨q1, q2, q3⟩ := hSw
        go_simp
        all_goals with_reducible rfl
      try simp only [Act.put, List.setIfInBounds_toArray, List.set_cons_zero, List.set_cons_succ]
      have k7z := (k7.set_ 4 (.int .i64 v1)).set_ 5 (.int .i64 v2)
      simp only [List.setIfInBounds_toArray, List.set_cons_zero, List.set_cons_succ] at k7z
      have k4z := (k4.far (p := ⟨g7, 4, none⟩) (show w.heap.size + 1 ≠ g7 by omega) (.int .i64 v1)).far (p := ⟨g7, 5, none⟩) (show w.heap.size + 1 ≠ g7 by omega) (.int .i64 v2)
      have k10z := (k10.far (p := ⟨g7, 4, none⟩) (show g10 ≠ g7 by omega) (.int .i64 v1)).far (p := ⟨g7, 5, none⟩) (show g10 ≠ g7 by omega) (.int .i64 v2)
      have k11z := (k11.far (p := ⟨g7, 4, none⟩) (show g11 ≠ g7 by omega) (.int .i64 v1)).far (p := ⟨g7, 5, none⟩) (show g11 ≠ g7 by omega) (.int .i64 v2)
      have k13z := (k13.far (p := ⟨g7, 4, none⟩) (show g13 ≠ g7 by omega) (.int .i64 v1)).far (p := ⟨g7, 5, none⟩) (show g13 ≠ g7 by omega) (.int .i64 v2)
      have bz := (hb.setCell (p := ⟨g7, 4, none⟩) (show w.heap.size ≤ g7 by omega) (.int .i64 v1)).setCell (p := ⟨g7, 5, none⟩) (show w.heap.size ≤ g7 by omega) (.int .i64 v2)
      obtain ⟨c7, f7, l7⟩ := k7.rules
      refine held_one (i := 23) (by kernel_rfl) rfl rfl (fun K hK => ?_)
      go_simp
      refine hK _ _ ⟨k10z.cell, k11z.cell, k13z.cell⟩ ?_
      clear hK K c7 f7 l7 hS k7 k4 k10 k11 k13 hb
      generalize (wd.setCell ⟨g7, 4, none⟩ (.int .i64 v1)).setCell ⟨g7, 5, none⟩ (.int .i64 v2) = W6 at *
      refine wpAnyH_done (by kernel_rfl) (noPanic_normal ?_) _
      go_wp2_with fail
      go_roundw
      case rel => exact ⟨2 + 1, rfl, by omega, by rw [← hE1.out, ← hE2.out] at k7z; exact k7z, k4z, k10z, k11z, bz⟩
      case measure => simp [intOf]
    | 3, _ =>
      have hI1 := fun W => into_any 65536 (t.d.lo - f) W (by omega) (by omega)
      have hI2 := fun W => into_any 65536 (t.d.hi + f) W (by omega) (by omega)
      have u1 := IntWalk.i64_in (t.d.lo - f) (by omega)
      have u2 := IntWalk.i64_in (t.d.hi + f) (by omega)
      simp only [regA, wideKS] at k7
      rw [show jv 3 = .int .i64 3 from rfl]
      go_wp2_with fail
      have k13 := Blk.new wr 40 #[.int .i64 t.d.lo, .int .i64 t.d.hi]
      have hbel := (Below.refl wr.heap.size wr).alloc (Nat.le_refl _) (.cells #[.int .i64 t.d.lo, .int .i64 t.d.hi] 40)
      have hl7 := k7.lt
      replace k7 := k7.below hbel
      replace k4 := k4.below hbel
      replace k10 := k10.below hbel
      replace k11 := k11.below hbel
      replace hb := hb.trans (hbel.mono hb.size)
      clear hbel
      generalize wr.alloc (.cells #[.int .i64 t.d.lo, .int .i64 t.d.hi] 40) = Wa at *
      generalize wr.heap.size = g13 at *
      refine wp_held_np (fun w' : World => (∀ j, w'.cell? ⟨g10, j, none⟩ = #[Value.int .i64 32768, .int .i64 32768, .int .i64 65536, .int .i64 65536][j]?) ∧ (∀ j, w'.cell? ⟨g11, j, none⟩ = #[Value.int .i64 s, .int .i64 s, .int .i64 f, .int .i64 f][j]?) ∧ (∀ j, w'.cell? ⟨g13, j, none⟩ = #[Value.int .i64 t.d.lo, .int .i64 t.d.hi][j]?)) (by kernel_rfl) ?_
      replace k7 := k7.drew
      replace k4 := k4.drew
      replace k10 := k10.drew
      replace k11 := k11.drew
      replace k13 := k13.drew
      replace hb := hb.drew
      generalize Wa.drew = wd at *
      have hS : (fun w' : World => (∀ j, w'.cell? ⟨g10, j, none⟩ = #[Value.int .i64 32768, .int .i64 32768, .int .i64 65536, .int .i64 65536][j]?) ∧ (∀ j, w'.cell? ⟨g11, j, none⟩ = #[Value.int .i64 s, .int .i64 s, .int .i64 f, .int .i64 f][j]?) ∧ (∀ j, w'.cell? ⟨g13, j, none⟩ = #[Value.int .i64 t.d.lo, .int .i64 t.d.hi][j]?)) wd := ⟨k10.cell, k11.cell, k13.cell⟩
      refine held_take (i := 0) (v := ?_) 47 rfl rfl (by kernel_rfl) (by kernel_rfl) (by kernel_rfl) (fun _ _ _ h => h) (Or.inl ⟨by rfl, ?_⟩) hS ?_
      rotate_left 1
      · intro w' hSw
        try dsimp only at hSw
        obtain ⟨q1, q2, q3⟩ := hSw
        go_simp
        all_goals with_reducible rfl
      try simp only [Act.put, List.setIfInBounds_toArray, List.set_cons_zero, List.set_cons_succ]
      refine held_take (i := 1) (v := ?_) 48 rfl rfl (by kernel_rfl) (by kernel_rfl) (by kernel_rfl) (fun _ _ _ h => h) (Or.inl ⟨by rfl, ?_⟩) hS ?_
      rotate_left 1
      · intro w' hSw
        try dsimp only at hSw
        obtain ⟨q1, q2, q3⟩ := hSw
        go_simp
        all_goals with_reducible rfl
      try simp only [Act.put, List.setIfInBounds_toArray, List.set_cons_zero, List.set_cons_succ]
      refine held_take (i := 2) (v := ?_) 49 rfl rfl (by kernel_rfl) (by kernel_rfl) (by kernel_rfl) (fun _ _ _ h => h) (Or.inl ⟨by rfl, ?_⟩) hS ?_
      rotate_left 1
      · intro w' hSw
        try dsimp only at hSw
        obtain ⟨q1, q2, q3⟩ := hSw
        go_simp
        all_goals with_reducible rfl
      try simp only [Act.put, List.setIfInBounds_toArray, List.set_cons_zero, List.set_cons_succ]
      refine held_take (i := 3) (v := ?_) 50 rfl rfl (by kernel_rfl) (by kernel_rfl) (by kernel_rfl) (fun _ _ _ h => h) (Or.inl ⟨by rfl, ?_⟩) hS ?_
      rotate_left 1
      · intro w' hSw
        try dsimp only at hSw
        obtain ⟨q1, q2, q3⟩ := hSw
        go_simp
        all_goals with_reducible rfl
      try simp only [Act.put, List.setIfInBounds_toArray, List.set_cons_zero, List.set_cons_succ]
      refine held_take (i := 4) (v := ?_) 51 rfl rfl (by kernel_rfl) (by kernel_rfl) (by kernel_rfl) (fun _ _ _ h => h) (Or.inl ⟨by rfl, ?_⟩) hS ?_
      rotate_left 1
      · intro w' hSw
        try dsimp only at hSw
        obtain ⟨q1, q2, q3⟩ := hSw
        go_simp
        all_goals with_reducible rfl
      try simp only [Act.put, List.setIfInBounds_toArray, List.set_cons_zero, List.set_cons_succ]
      refine held_take (i := 5) (v := ?_) 52 rfl rfl (by kernel_rfl) (by kernel_rfl) (by kernel_rfl) (fun _ _ _ h => h) (Or.inl ⟨by rfl, ?_⟩) hS ?_
      rotate_left 1
      · intro w' hSw
        try dsimp only at hSw
        obtain ⟨q1, q2, q3⟩ := hSw
        go_simp
        all_goals with_reducible rfl
      try simp only [Act.put, List.setIfInBounds_toArray, List.set_cons_zero, List.set_cons_succ]
      refine held_take (i := 6) (v := ?_) 53 rfl rfl (by kernel_rfl) (by kernel_rfl) (by kernel_rfl) (fun _ _ _ h => h) (Or.inl ⟨by rfl, ?_⟩) hS ?_
      rotate_left 1
      · intro w' hSw
        try dsimp only at hSw
        obtain ⟨q1, q2, q3⟩ := hSw
        go_simp
        all_goals with_reducible rfl
      try simp only [Act.put, List.setIfInBounds_toArray, List.set_cons_zero, List.set_cons_succ]
      refine held_take (i := 7) (v := ?_) 54 rfl rfl (by kernel_rfl) (by kernel_rfl) (by kernel_rfl) (fun _ _ _ h => h) (Or.inl ⟨by rfl, ?_⟩) hS ?_
      rotate_left 1
      · intro w' hSw
        try dsimp only at hSw
        obtain ⟨q1, q2, q3⟩ := hSw
        go_simp
        all_goals with_reducible rfl
      try simp only [Act.put, List.setIfInBounds_toArray, List.set_cons_zero, List.set_cons_succ]
      refine held_take (i := 8) (v := ?_) 55 rfl rfl (by kernel_rfl) (by kernel_rfl) (by kernel_rfl) (fun _ _ _ h => h) (Or.inl ⟨by rfl, ?_⟩) hS ?_
      rotate_left 1
      · intro w' hSw
        try dsimp only at hSw
        obtain ⟨q1, q2, q3⟩ := hSw
        go_simp
        all_goals with_reducible rfl
      try simp only [Act.put, List.setIfInBounds_toArray, List.set_cons_zero, List.set_cons_succ]
      refine held_take (i := 9) (v := ?_) 56 rfl rfl (by kernel_rfl) (by kernel_rfl) (by kernel_rfl) (fun _ _ _ h => h) (Or.inl ⟨by rfl, ?_⟩) hS ?_
      rotate_left 1
      · intro w' hSw
        try dsimp only at hSw
        obtain ⟨q1, q2, q3⟩ := hSw
        go_simp
        all_goals with_reducible rfl
      try simp only [Act.put, List.setIfInBounds_toArray, List.set_cons_zero, List.set_cons_succ]
      refine held_take (i := 11) (v := ?_) 58 rfl rfl (by kernel_rfl) (by kernel_rfl) (by kernel_rfl) (fun _ _ _ h => h) (Or.inl ⟨by rfl, ?_⟩) hS ?_
      rotate_left 1
      · intro w' hSw
        try dsimp only at hSw
        obtain ⟨q1, q2, q3⟩ := hSw
        go_simp
        all_goals with_reducible rfl
      try simp only [Act.put, List.setIfInBounds_toArray, List.set_cons_zero, List.set_cons_succ]
      refine held_take (i := 12) (v := ?_) 59 rfl rfl (by kernel_rfl) (by kernel_rfl) (by kernel_rfl) (fun _ _ _ h => h) (Or.inl ⟨by rfl, ?_⟩) hS ?_
      rotate_left 1
      · intro w' hSw
        try dsimp only at hSw
        obtain ⟨q1, q2, q3⟩ := hSw
        go_simp
        all_goals with_reducible rfl
      try simp only [Act.put, List.setIfInBounds_toArray, List.set_cons_zero, List.set_cons_succ]
      refine held_take (i := 13) (v := ?_) 60 rfl rfl (by kernel_rfl) (by kernel_rfl) (by kernel_rfl) (fun _ _ _ h => h) (Or.inl ⟨by rfl, ?_⟩) hS ?_
      rotate_left 1
      · intro w' hSw
        try dsimp only at hSw
        obtain ⟨q1, q2, q3⟩ := hSw
        go_simp
        all_goals with_reducible rfl
      try simp only [Act.put, List.setIfInBounds_toArray, List.set_cons_zero, List.set_cons_succ]
      refine held_take (i := 14) (v := ?_) 61 rfl rfl (by kernel_rfl) (by kernel_rfl) (by kernel_rfl) (fun _ _ _ h => h) (Or.inl ⟨by rfl, ?_⟩) hS ?_
      rotate_left 1
      · intro w' hSw
        try dsimp only at hSw
        obtain ⟨q1, q2, q3⟩ := hSw
        go_simp
        all_goals with_reducible rfl
      try simp only [Act.put, List.setIfInBounds_toArray, List.set_cons_zero, List.set_cons_succ]
      refine held_take (i := 15) (v := ?_) 62 rfl rfl (by kernel_rfl) (by kernel_rfl) (by kernel_rfl) (fun _ _ _ h => h) (Or.inl ⟨by rfl, ?_⟩) hS ?_
      rotate_left 1
      · intro w' hSw
        try dsimp only at hSw
        obtain ⟨q1, q2, q3⟩ := hSw
        go_simp
        all_goals with_reducible rfl
      try simp only [Act.put, List.setIfInBounds_toArray, List.set_cons_zero, List.set_cons_succ]
      refine held_take (i := 16) (v := ?_) 63 rfl rfl (by kernel_rfl) (by kernel_rfl) (by kernel_rfl) (fun _ _ _ h => h) (Or.inl ⟨by rfl, ?_⟩) hS ?_
      rotate_left 1
      · intro w' hSw
        try dsimp only at hSw
        obtain ⟨q1, q2, q3⟩ := hSw
        go_simp
        all_goals with_reducible rfl
      try simp only [Act.put, List.setIfInBounds_toArray, List.set_cons_zero, List.set_cons_succ]
      refine held_take (i := 17) (v := ?_) 64 rfl rfl (by kernel_rfl) (by kernel_rfl) (by kernel_rfl) (fun _ _ _ h => h) (Or.inl ⟨by rfl, ?_⟩) hS ?_
      rotate_left 1
      · intro w' hSw
        try dsimp only at hSw
        obtain ⟨q1, q2, q3⟩ := hSw
        go_simp
        all_goals with_reducible rfl
      try simp only [Act.put, List.setIfInBounds_toArray, List.set_cons_zero, List.set_cons_succ]
      refine held_take (i := 18) (v := ?_) 65 rfl rfl (by kernel_rfl) (by kernel_rfl) (by kernel_rfl) (fun _ _ _ h => h) (Or.inl ⟨by rfl, ?_⟩) hS ?_
      rotate_left 1
      · intro w' hSw
        try dsimp only at hSw
        obtain ⟨q1, q2, q3⟩ := hSw
        go_simp
        all_goals with_reducible rfl
      try simp only [Act.put, List.setIfInBounds_toArray, List.set_cons_zero, List.set_cons_succ]
      refine held_take (i := 19) (v := ?_) 66 rfl rfl (by kernel_rfl) (by kernel_rfl) (by kernel_rfl) (fun _ _ _ h => h) (Or.inl ⟨by rfl, ?_⟩) hS ?_
      rotate_left 1
      · intro w' hSw
        try dsimp only at hSw
        obtain ⟨q1, q2, q3⟩ := hSw
        go_simp
        all_goals with_reducible rfl
      try simp only [Act.put, List.setIfInBounds_toArray, List.set_cons_zero, List.set_cons_succ]
      refine held_one (i := 10) (by kernel_rfl) rfl rfl (fun K hK => ?_)
      go_simp
      refine (hI1 _).mono ?_
      rintro e W' ⟨rfl, rfl⟩
      refine hK _ _ hS ?_
      clear hK K hI1
      try simp only [Act.put, List.setIfInBounds_toArray, List.set_cons_zero, List.set_cons_succ]
      refine held_one (i := 20) (by kernel_rfl) rfl rfl (fun K hK => ?_)
      go_simp
      refine (hI2 _).mono ?_
      rintro e W' ⟨rfl, rfl⟩
      refine hK _ _ hS ?_
      clear hK K hI2 u1 u2
      try simp only [Act.put, List.setIfInBounds_toArray, List.set_cons_zero, List.set_cons_succ]
      generalize hE1 : intoL 65536 (t.d.lo - f) = v1 at *
      generalize hE2 : intoL 65536 (t.d.hi + f) = v2 at *
      replace hE1 := Lib.hid hE1
      replace hE2 := Lib.hid hE2
      refine held_take (i := 21) (v := ?_) 68 rfl rfl (by kernel_rfl) (by kernel_rfl) (by kernel_rfl) (fun _ _ _ h => h) (Or.inl ⟨by rfl, ?_⟩) hS ?_
      rotate_left 1
      · intro w' hSw
        try dsimp only at hSw
        obtain ⟨q1, q2, q3⟩ := hSw
        go_simp
        all_goals with_reducible rfl
      try simp only [Act.put, List.setIfInBounds_toArray, List.set_cons_zero, List.set_cons_succ]
      refine held_take (i := 22) (v := ?_) 69 rfl rfl (by kernel_rfl) (by kernel_rfl) (by kernel_rfl) (fun _ _ _ h => h) (Or.inl ⟨by rfl, ?_⟩) hS ?_
      rotate_left 1
      · intro w' hSw
        try dsimp only at hSw
        obtain ⟨q1, q2, q3⟩ := hSw
        go_simp
        all_goals with_reducible rfl
      try simp only [Act.put, List.setIfInBounds_toArray, List.set_cons_zero, List.set_cons_succ]
      have k7z := (k7.set_ 6 (.int .i64 v1)).set_ 7 (.int .i64 v2)
      simp only [List.setIfInBounds_toArray, List.set_cons_zero, List.set_cons_succ] at k7z
      have k4z := (k4.far (p := ⟨g7, 6, none⟩) (show w.heap.size + 1 ≠ g7 by omega) (.int .i64 v1)).far (p := ⟨g7, 7, none⟩) (show w.heap.size + 1 ≠ g7 by omega) (.int .i64 v2)
      have k10z := (k10.far (p := ⟨g7, 6, none⟩) (show g10 ≠ g7 by omega) (.int .i64 v1)).far (p := ⟨g7, 7, none⟩) (show g10 ≠ g7 by omega) (.int .i64 v2)
      have k11z := (k11.far (p := ⟨g7, 6, none⟩) (show g11 ≠ g7 by omega) (.int .i64 v1)).far (p := ⟨g7, 7, none⟩) (show g11 ≠ g7 by omega) (.int .i64 v2)
      have k13z := (k13.far (p := ⟨g7, 6, none⟩) (show g13 ≠ g7 by omega) (.int .i64 v1)).far (p := ⟨g7, 7, none⟩) (show g13 ≠ g7 by omega) (.int .i64 v2)
      have bz := (hb.setCell (p := ⟨g7, 6, none⟩) (show w.heap.size ≤ g7 by omega) (.int .i64 v1)).setCell (p := ⟨g7, 7, none⟩) (show w.heap.size ≤ g7 by omega) (.int .i64 v2)
      obtain ⟨c7, f7, l7⟩ := k7.rules
      refine held_one (i := 23) (by kernel_rfl) rfl rfl (fun K hK => ?_)
      go_simp
      refine hK _ _ ⟨k10z.cell, k11z.cell, k13z.cell⟩ ?_
      clear hK K c7 f7 l7 hS k7 k4 k10 k11 k13 hb
      generalize (wd.setCell ⟨g7, 6, none⟩ (.int .i64 v1)).setCell ⟨g7, 7, none⟩ (.int .i64 v2) = W6 at *
      refine wpAnyH_done (by kernel_rfl) (noPanic_normal ?_) _
      go_wp2_with fail
      go_roundw
      case rel => exact ⟨3 + 1, rfl, by omega, by rw [← hE1.out, ← hE2.out] at k7z; exact k7z, k4z, k10z, k11z, bz⟩
      case measure => simp [intOf]
    | 4, _ =>
      have hti2 := hti2.out
      simp only [regA] at hti2
      simp only [regA, wideKS] at k7
      rw [show jv 4 = .int .i64 4 from rfl]
      obtain ⟨c7, f7, l7⟩ := k7.rules
      go_wp2_with fail
      clear c7 f7 l7
      refine (hti2 _).mono ?_
      rintro e Wb ⟨rfl, hbel⟩
      replace k4 := k4.below hbel
      replace hb := hb.trans (hbel.mono hb.size)
      clear hbel hti2 k7 k10 k11
      go_wp2_with fail
      refine (hdo _).mono ?_
      rintro e Wc ⟨rfl, hbel⟩
      replace k4 := k4.below hbel
      replace hb := hb.trans (hbel.mono hb.size)
      clear hbel hdo
      have kz := k4.set8 (.int .i64 N.x.lo) (.int .i64 N.x.hi) (.int .i64 N.y.lo) (.int .i64 N.y.hi) (.int .i64 N.s.lo) (.int .i64 N.s.hi) (.int .i64 N.d.lo) (.int .i64 N.d.hi)
      have bz := below_set8 (g := w.heap.size + 1) hb (by omega) (.int .i64 N.x.lo) (.int .i64 N.x.hi) (.int .i64 N.y.lo) (.int .i64 N.y.hi) (.int .i64 N.s.lo) (.int .i64 N.s.hi) (.int .i64 N.d.lo) (.int .i64 N.d.hi)
      obtain ⟨wz, hwz⟩ : ∃ x, x = set8 Wc (w.heap.size + 1) (.int .i64 N.x.lo) (.int .i64 N.x.hi) (.int .i64 N.y.lo) (.int .i64 N.y.hi) (.int .i64 N.s.lo) (.int .i64 N.s.hi) (.int .i64 N.d.lo) (.int .i64 N.d.hi) := ⟨_, rfl⟩
      rw [← hwz] at kz bz
      simp only [set8] at hwz
      obtain ⟨c2, f2, l2⟩ := k4.rules
      clear k4 hb
      go_wp2
      rw [← hwz]
      clear hwz c2 f2 l2
      obtain ⟨c2, f2, l2⟩ := kz.rules
      exact bodyPost_ret (v := .tuple #[.agg #[.int .i64 N.x.lo, .int .i64 N.x.hi, .int .i64 N.y.lo, .int .i64 N.y.hi, .int .i64 N.s.lo, .int .i64 N.s.hi, .int .i64 N.d.lo, .int .i64 N.d.hi], .int .i64 0]) (by simp [results, Tryz.results17, go_sem, c2]) rfl ⟨rfl, bz⟩
theorem Reach_any (s : Int) (h0 : 0 ≤ s) (h3 : s ≤ 3) (r t N : Reg) (w : World) (hr : okReg r = true) (ht : tightO r = some t) (hN : tightO (wideR s (farN s) t) = some N) :
    Calls Tryz.prog 17 #[.agg (regA r), .int .i64 s] w fun e w' => e = .returned (.tuple #[.agg (regA N), .int .i64 0]) ∧ Below w.heap.size w w' :=
  ReachS_any s (farN s) h0 (by omega) (by unfold farN; split <;> omega) (by unfold farN; split <;> omega) (fun W => farthestN_any s h0 h3 W) r t N w hr ht hN
end Go.Proofs.YtfengddpfeneiaaGreat
