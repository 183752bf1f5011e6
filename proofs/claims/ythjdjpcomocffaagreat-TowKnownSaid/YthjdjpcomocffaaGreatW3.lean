/-
  Walks, third part: a step of offsets (tow.Step) and what it calls.
  Walks, fourth part: each at bounds; the bounds after a step, and of bends.
-/
import Derived.Test.YthjdjpcomocffaaGreatW1
import Derived.Deep.QuietTactic
import Derived.BigQuiet
import Derived.Deep.RegionHeld3
import Derived.StillTailTactics
namespace Go.Proofs.YthjdjpcomocffaaGreat
open Go.RowKit Go.Shelf

theorem ok_sec {s : Strm} (h : okStrm s = true) {i : Nat} (hi : i < s.secs.length) : okSec (s.sec i) = true := by
  unfold okStrm at h
  simp only [Bool.and_eq_true, List.all_eq_true] at h
  refine h.2 _ ?_
  unfold Strm.sec
  rw [List.getD_eq_getElem?_getD, List.getElem?_eq_getElem hi]
  exact List.getElem_mem hi
theorem sec_at (s : Strm) {i : Nat} (hi : i < s.secs.length) : s.secs[i]? = some (s.sec i) := by
  unfold Strm.sec
  rw [List.getD_eq_getElem?_getD, List.getElem?_eq_getElem hi]; rfl
theorem ok_head {s : Strm} (h : okStrm s = true) : headOk s := by
  unfold okStrm at h
  simp only [Bool.and_eq_true, decide_eq_true_eq] at h
  exact h.1

set_option maxHeartbeats 1000000 in
theorem eased_any (s : Strm) (A : Option Addr) (n c B i : Nat) (own bef dr : Int) (w : World) (hs : SlAt w B 5 Sec.cells A n c s.secs) (ho : okStrm s = true) (hi : i < n)
    (h1 : -16384 ≤ own) (h2 : own ≤ 16384) (h3 : -16384 ≤ bef) (h4 : bef ≤ 16384) (h5 : -100 ≤ dr) (h6 : dr ≤ 100) :
    Calls Tryz.prog 26 #[.agg #[.int .i64 s.head, .slice A n c, .int .i64 s.lane.lo, .int .i64 s.lane.hi, .int .i64 s.bend], .int .i64 (i : Int), .int .i64 own, .int .i64 bef, .int .i64 dr] w fun e w' => e = .returned (.int .i64 (eased s (s.sec i) own bef dr)) ∧ Below w.heap.size w w' := by
  have hl := Lib.hid hs.len
  have hsec := ok_sec ho (i := i) (by have := hl.out; omega)
  obtain ⟨b, off, rfl, -, hbl, c0, c1, c2, c3, c4⟩ := hs.sec (sec_at s (i := i) (by have := hl.out; omega))
  obtain ⟨g0, g1, g2, g3, g4, g5, g6, g7, g8⟩ := ok_head ho
  clear g0 g1 g2 g3 hs ho
  generalize s.sec i = x at *
  unfold okSec at hsec
  obtain ⟨k0, k1, k2, k3, k4, k5, k6, k7, k8, k9⟩ := of_decide_eq_true hsec
  clear hsec k0 k1 k6 k7 k8 k9
  obtain ⟨m1, m2⟩ := mul_bd (64 - x.fol) own 64 16384 (by omega) (by omega) (by omega) (by omega) (by omega)
  obtain ⟨m3, m4⟩ := mul_bd x.fol bef 64 16384 (by omega) (by omega) (by omega) (by omega) (by omega)
  go_enter Tryz.func26, Tryz.ntmps26
  go_wp2_with (go_at_call 58; refine (down_any _ _ (by omega) (by omega)).mono ?_; rintro e w' ⟨rfl, rfl⟩)
  all_goals
    go_ret
    refine ⟨ret_int ?_, ((Below.refl _ _).alloc (Nat.le_refl _) _).alloc (by simp) _⟩
    simp only [eased]
    generalize ((64 - x.fol) * own + x.fol * bef) / 64 + dr = q at *
    repeat' split
    all_goals omega

/-! What Step hands to each: captured are the streamer and the drifts. -/
set_option maxHeartbeats 1000000 in
theorem step1_any (s : Strm) (A O : Option Addr) (n c no co B B2 bs bd i : Nat) (dr : List Int) (own bef : Int) (w : World) (hs : SlAt w B 5 Sec.cells A n c s.secs) (ho : okStrm s = true)
    (hd : SlAt w B2 1 ivs O no co dr) (hdl : no = n) (hdb : dr.all (okNum 100) = true)
    (hbs : ∀ j, w.cell? ⟨bs, j, none⟩ = #[Value.int .i64 s.head, .slice A n c, .int .i64 s.lane.lo, .int .i64 s.lane.hi, .int .i64 s.bend][j]?)
    (hbd : w.cell? ⟨bd, 0, none⟩ = some (.slice O no co)) (hi : i < n)
    (h1 : -16384 ≤ own) (h2 : own ≤ 16384) (h3 : -16384 ≤ bef) (h4 : bef ≤ 16384) :
    Calls Tryz.prog 25 #[.int .i64 (i : Int), .int .i64 own, .int .i64 bef, .pointer (some ⟨bs, 0, none⟩), .pointer (some ⟨bd, 0, none⟩)] w fun e w' => e = .returned (.int .i64 (eased s (s.sec i) own bef (dr.getD i 0))) ∧ Below w.heap.size w w' := by
  subst hdl
  have hl := Lib.hid hs.len
  have hdl := Lib.hid hd.len
  have hn := hd.le
  obtain ⟨q1, q2⟩ := getD_bd hdb (by omega) i
  obtain ⟨bb, off, rfl, -, hbl, c0⟩ := hd.int (get_getD (l := dr) (i := i) 0 (by have := hdl.out; omega))
  generalize dr.getD i 0 = q at *
  have b0 := hbs 0
  have b1 := hbs 1
  have b2 := hbs 2
  have b3 := hbs 3
  have b4 := hbs 4
  simp at b0 b1 b2 b3 b4
  clear hbs hd hdb
  have hbsl : bs < w.heap.size := World.block_lt_of_cell? w ⟨bs, 0, none⟩ b0
  have hbdl : bd < w.heap.size := World.block_lt_of_cell? w ⟨bd, 0, none⟩ hbd
  have hi' : (i : Int) < (no : Int) := by omega
  have hi0 : (0 : Int) ≤ (i : Int) := by omega
  go_enter Tryz.func25, Tryz.ntmps25
  go_wp2
  go_region_held3 (fun w' => w'.cell? ⟨bs, 0, none⟩ = some (.int .i64 s.head) ∧ w'.cell? ⟨bs, 1, none⟩ = some (.slice A no c) ∧ w'.cell? ⟨bs, 2, none⟩ = some (.int .i64 s.lane.lo) ∧ w'.cell? ⟨bs, 3, none⟩ = some (.int .i64 s.lane.hi) ∧ w'.cell? ⟨bs, 4, none⟩ = some (.int .i64 s.bend) ∧ w'.cell? ⟨bd, 0, none⟩ = some (.slice (some ⟨bb, off, none⟩) no co) ∧ w'.cell? ⟨bb, off + i, none⟩ = some (.int .i64 q)) (first | exact ⟨(hc bs 0 hbsl).trans b0, (hc bs 1 hbsl).trans b1, (hc bs 2 hbsl).trans b2, (hc bs 3 hbsl).trans b3, (hc bs 4 hbsl).trans b4, (hc bd 0 hbdl).trans hbd, (hc bb (off + i) hbl).trans c0⟩ | go_keep)
    (first | (go_at_call 26; refine (eased_any s A no c B i own bef q _ (hs.drewN _) ho hi h1 h2 h3 h4 q1 q2).mono ?_; rintro e w' ⟨rfl, hb⟩; obtain ⟨hc, hf⟩ := bcell hb))
  go_wp2
  go_ret
  exact ⟨rfl, below_of_drewN hb⟩
theorem eg_step1 : Enters Tryz.prog 25 := enters_of Tryz.func25 (by kernel_rfl) rfl

/-! each: a new value for each section of its own one and the one before it. -/
theorem eachL_length {α β : Type} (f : Nat → α → α → β) (h : α) (l : List α) : (eachL f h l).length = l.length := by simp [eachL]
theorem eachL_get {α β : Type} (f : Nat → α → α → β) (h : α) (l : List α) {i : Nat} (hi : i < l.length) : (eachL f h l)[i]? = some (f i (l.getD i h) (prev h l i)) := by
  simp [eachL, hi]
/-- What is handed to each is at every index and every own and former value, in every later world, a number. -/
def FnInt (g : Nat) (lb : Array Value) (f : Nat → Int → Int → Int) (l : List Int) (h : Int) (w : World) : Prop :=
  ∀ (W : World) (i : Nat), Below w.heap.size w W → i < l.length → Calls Tryz.prog g (#[.int .i64 (i : Int), .int .i64 (l.getD i h), .int .i64 (prev h l i)] ++ lb) W fun e w' => e = .returned (.int .i64 (f i (l.getD i h) (prev h l i))) ∧ Below W.heap.size W w'
set_option maxRecDepth 100000 in
set_option maxHeartbeats 1000000 in
theorem eachint_any (f : Nat → Int → Int → Int) (l : List Int) (h : Int) (A : Option Addr) (n c B g : Nat) (lb : Array Value) (eg : ∀ args w, (callFunc g args).run Tryz.prog w = .ok (.enter g args) w) (w : World)
    (hf : FnInt g lb f l h w) (hs : SlAt w B 1 ivs A n c l) :
    Calls Tryz.prog 24 #[.slice A n c, .int .i64 h, .func (.func g) #[] lb] w fun e w' => ∃ O co, e = .returned (.slice O n co) ∧ SlAt w' w.heap.size 1 ivs O n co (eachL f h l) ∧ Below w.heap.size w w' := by
  have hn := Lib.hid hs.le
  have hl := Lib.hid hs.len
  obtain ⟨i0, hi0, hz0, hz1, hz2⟩ := info_parts Tryz.infoInt
  have hc1 := Lib.hid (show i0.bytes * n ≤ 281474976710656 by have := hn.out; rw [hz2]; omega)
  have hc2 := Lib.hid (show n ≤ maxLen by have := hn.out; unfold maxLen; omega)
  go_enter Tryz.func24, Tryz.ntmps24
  go_wp2_with (at_make; refine wpList_make_full _ rfl _ _ 33 rfl w.heap.size 3 i0 (.int .i64 0) 1 Tryz.underlying33 hi0 hz0 hz1 _ _ _ _ n rfl rfl rfl rfl hc1.out hc2.out (Nat.le_refl _) ?_; intro w1 hown hgrow)
  have hL : (eachL f h l).length = n := by rw [eachL_length, hl.out]
  have hown0 : w1.ownsRow w.heap.size 3 1 (.slice (some ⟨w.heap.size, 0, none⟩) n n) n ((fillTo (eachL f h l) 0 0).map (Value.int .i64)) := by
    rw [fillTo_zero, hL, List.map_replicate]
    rw [madeCells_int] at hown
    exact hown
  have hb1 : Below w.heap.size w w1 := (Below.refl _ _).grown hgrow (Nat.le_refl _) (fun k e => by cases e)
  have hL' := Lib.hid hL
  clear hown hgrow hL hz0 hz1 hz2 hi0
  have hn' := hn.out
  go_loopw [8, 17] (fun v i wr => ∃ k : Nat, i = .int .i64 k ∧ k ≤ n ∧ v = .int .i64 (prev h l k) ∧ wr.ownsRow w.heap.size 3 1 (.slice (some ⟨w.heap.size, 0, none⟩) n n) n ((fillTo (eachL f h l) k 0).map (Value.int .i64)) ∧ Below w.heap.size w wr) (fun v i wr => n - (intOf i).toNat)
  case atStart => exact ⟨0, rfl, Nat.zero_le _, rfl, hown0, hb1⟩
  case round =>
    obtain ⟨k, rfl, hk, rfl, hown, hb⟩ := hrel
    by_cases hlt : k < n
    · have hcall := hf wr k hb (by have := hl.out; omega)
      have hget := Lib.hid (eachL_get f h l (i := k) (by have := hl.out; omega))
      obtain ⟨b, off, rfl, -, hbl, c0⟩ := (hs.keep hb.size (fun _ _ h => hb.cell h)).int (getD_get (l := l) h (i := k) (by have := hl.out; omega))
      have hpk : Hid (prev h l (k + 1) = l.getD k h) := rfl
      generalize f k (l.getD k h) (prev h l k) = z at hget hcall
      generalize prev h l k = y at hcall ⊢
      generalize l.getD k h = x at hcall c0 hpk
      clear hs hf
      go_wp2_with (go_at_fn g; refine hcall.mono ?_; rintro e w' ⟨rfl, hb'⟩; have hown2 := ownsRow_below hown hb'; obtain ⟨v0, hcc⟩ := own_cell hown2 (j := k) (by omega); have hfr := hown2.frozenAt k)
      have hown3 := (hown2.stored k (.int .i64 z)).1
      rw [← List.map_set, fillTo_set hget.out] at hown3
      go_roundw
      case rel => exact ⟨k + 1, by go_num, by omega, by rw [hpk.out], hown3, (hb.trans (hb'.mono hb.size)).setCell (p := ⟨w.heap.size, k, none⟩) (Nat.le_refl _) _⟩
      case measure => simp [intOf]; omega
    · obtain rfl : k = n := by omega
      go_wp2
      go_ret
      obtain ⟨O, co, e1, h1⟩ := SlAt.of_own (enc := ivs) hown hn' (eachL f h l) (by rw [flatMap_ivs, fillTo_len 0 hL'.out]) (fun _ => rfl) hL'.out
      exact ⟨O, co, congrArg Ending.returned e1, h1, hb⟩

/-! Step -/
theorem prev_bd {l : List Int} {h m : Int} (hl : l.all (okNum m) = true) (h1 : -m ≤ h) (h2 : h ≤ m) (k : Nat) : -m ≤ prev h l k ∧ prev h l k ≤ m := by
  cases k with
  | zero => exact ⟨h1, h2⟩
  | succ k =>
    show -m ≤ l.getD k h ∧ l.getD k h ≤ m
    rw [List.getD_eq_getElem?_getD]
    by_cases hi : k < l.length
    · rw [List.getElem?_eq_getElem hi]
      have := List.all_eq_true.1 hl _ (List.getElem_mem hi)
      simpa [okNum] using this
    · rw [List.getElem?_eq_none (by omega)]
      exact ⟨h1, h2⟩
theorem getDh_bd {l : List Int} {h m : Int} (hl : l.all (okNum m) = true) (h1 : -m ≤ h) (h2 : h ≤ m) (k : Nat) : -m ≤ l.getD k h ∧ l.getD k h ≤ m := prev_bd hl h1 h2 (k + 1)
theorem okNums_len {s : Strm} {l : List Int} {m : Int} (h : okNums s l m = true) : l.length = s.secs.length := by
  unfold okNums at h; simp only [Bool.and_eq_true, decide_eq_true_eq] at h; exact h.1
theorem okNums_all {s : Strm} {l : List Int} {m : Int} (h : okNums s l m = true) : l.all (okNum m) = true := by
  unfold okNums at h; simp only [Bool.and_eq_true] at h; exact h.2
set_option maxRecDepth 100000 in
set_option maxHeartbeats 2000000 in
theorem Step_any (s : Strm) (A O D : Option Addr) (n c no co nd cd B1 B2 B3 : Nat) (o d : List Int) (w : World) (hs : SlAt w B1 5 Sec.cells A n c s.secs) (ho : SlAt w B2 1 ivs O no co o) (hd : SlAt w B3 1 ivs D nd cd d) :
    Calls Tryz.prog 6 #[.agg #[.int .i64 s.head, .slice A n c, .int .i64 s.lane.lo, .int .i64 s.lane.hi, .int .i64 s.bend], .slice O no co, .slice D nd cd] w (RetSl 1 ivs (stepR s o d) w) := by
  have hl := hs.len
  cases hs1 : okStrm s
  · have hv : stepR s o d = ([], 30) := by simp [stepR, hs1]
    have hk : chkStrm s = 30 := by simp [chkStrm, hs1]
    rw [hv]
    clear hs1 hv hl
    replace hk := Lib.hid hk
    go_enter Tryz.func6, Tryz.ntmps6
    go_wp2_with (go_at_call 5; refine (check_any s A n c B1 _ ((hs.alloc _).alloc _)).mono ?_; rw [hk.out]; rintro e w1 ⟨rfl, hb1⟩; obtain ⟨hc1, hf1⟩ := bcell hb1)
    go_ret2
    exact RetSl.none_ ((((Below.refl _ _).alloc (Nat.le_refl _) _).alloc (by simp) _).trans (hb1.mono (by simp; omega)))
  · have hk : chkStrm s = 0 := by simp [chkStrm, hs1]
    replace hk := Lib.hid hk
    cases hn1 : okNums s o 16384
    · have hv : stepR s o d = ([], 31) := by simp [stepR, hs1, hn1]
      rw [hv]
      clear hs1 hv
      replace hn1 := Lib.hid hn1
      have hl' := Lib.hid hl
      clear hl
      go_enter Tryz.func6, Tryz.ntmps6
      go_wp2_with fail
      refine (check_any s A _ c B1 _ ((hs.alloc _).alloc _)).mono ?_; rw [hk.out]; rintro e w1 ⟨rfl, hb1⟩
      have k3 := ((Blk.new w _ _).alloc _).below hb1
      have k5 := (Blk.new _ _ _).below hb1
      rw [World.size_alloc] at k5
      obtain ⟨c3, f3, l3⟩ := k3.rules
      obtain ⟨c5, f5, l5⟩ := k5.rules
      have b1 := (((Below.refl w.heap.size w).alloc (Nat.le_refl _) _).alloc (by simp) _).trans (hb1.mono (by simp; omega))
      go_wp2_with fail
      refine (numbers_any s A O n c no co B2 o 16384 _ (by omega) (by omega) hl'.out ((((ho.alloc _).alloc _).below hb1).alloc _)).mono ?_; rw [hn1.out]; rintro e w2 ⟨rfl, hb2⟩
      go_wp2
      go_ret2
      exact RetSl.none_ (b1.trans (((Below.refl _ _).alloc b1.size _).trans (hb2.mono (by have := b1.size; simp; omega))))
    · cases hn2 : okNums s d 100
      · have hv : stepR s o d = ([], 32) := by simp [stepR, hs1, hn1, hn2]
        rw [hv]
        clear hs1 hv
        replace hn1 := Lib.hid hn1
        replace hn2 := Lib.hid hn2
        have hl' := Lib.hid hl
        clear hl
        go_enter Tryz.func6, Tryz.ntmps6
        go_wp2_with fail
        refine (check_any s A _ c B1 _ ((hs.alloc _).alloc _)).mono ?_; rw [hk.out]; rintro e w1 ⟨rfl, hb1⟩
        have k3 := ((Blk.new w _ _).alloc _).below hb1
        have k5 := (Blk.new _ _ _).below hb1
        rw [World.size_alloc] at k5
        obtain ⟨c3, f3, l3⟩ := k3.rules
        obtain ⟨c5, f5, l5⟩ := k5.rules
        have b1 := (((Below.refl w.heap.size w).alloc (Nat.le_refl _) _).alloc (by simp) _).trans (hb1.mono (by simp; omega))
        go_wp2_with fail
        refine (numbers_any s A O n c no co B2 o 16384 _ (by omega) (by omega) hl'.out ((((ho.alloc _).alloc _).below hb1).alloc _)).mono ?_; rw [hn1.out]; rintro e w2 ⟨rfl, hb2⟩
        have k9 := (Blk.new w1 _ _).below hb2
        replace k5 := (k5.alloc _).below hb2
        clear c3 f3 l3 c5 f5 l5
        obtain ⟨c9, f9, l9⟩ := k9.rules
        obtain ⟨c5, f5, l5⟩ := k5.rules
        have b2 := b1.trans (((Below.refl _ _).alloc b1.size _).trans (hb2.mono (by have := b1.size; simp; omega)))
        go_wp2_with fail
        refine (numbers_any s A D n c nd cd B3 d 100 _ (by omega) (by omega) hl'.out (((((hd.alloc _).alloc _).below hb1).alloc _).below hb2)).mono ?_; rw [hn2.out]; rintro e w3 ⟨rfl, hb3⟩
        go_wp2
        go_ret2
        exact RetSl.none_ (b2.trans (hb3.mono b2.size))
      · have hv : stepR s o d = (stepL s o d, 0) := by simp [stepR, hs1, hn1, hn2]
        rw [hv]
        clear hv
        have ol := okNums_len hn1
        have dl := okNums_len hn2
        have oa := okNums_all hn1
        have da := okNums_all hn2
        have hh := ok_head hs1
        replace hs1 := Lib.hid hs1
        replace hn1 := Lib.hid hn1
        replace hn2 := Lib.hid hn2
        have hl' := Lib.hid hl
        replace oa := Lib.hid oa
        replace da := Lib.hid da
        replace hh := Lib.hid hh
        obtain rfl : no = n := by have := ho.len; omega
        obtain rfl : nd = no := by have := hd.len; omega
        clear hl ol dl
        go_enter Tryz.func6, Tryz.ntmps6
        go_wp2_with fail
        refine (check_any s A _ c B1 _ ((hs.alloc _).alloc _)).mono ?_; rw [hk.out]; rintro e w1 ⟨rfl, hb1⟩
        have k3 := ((Blk.new w _ _).alloc _).below hb1
        have k5 := (Blk.new _ _ _).below hb1
        rw [World.size_alloc] at k5
        obtain ⟨c3, f3, l3⟩ := k3.rules
        obtain ⟨c5, f5, l5⟩ := k5.rules
        have b1 := (((Below.refl w.heap.size w).alloc (Nat.le_refl _) _).alloc (by simp) _).trans (hb1.mono (by simp; omega))
        go_wp2_with fail
        refine (numbers_any s A O _ c _ co B2 o 16384 _ (by omega) (by omega) hl'.out ((((ho.alloc _).alloc _).below hb1).alloc _)).mono ?_; rw [hn1.out]; rintro e w2 ⟨rfl, hb2⟩
        have k9 := (Blk.new w1 _ _).below hb2
        replace k5 := (k5.alloc _).below hb2
        replace k3 := (k3.alloc _).below hb2
        clear c3 f3 l3 c5 f5 l5
        obtain ⟨c9, f9, l9⟩ := k9.rules
        obtain ⟨c5, f5, l5⟩ := k5.rules
        have b2 := b1.trans (((Below.refl _ _).alloc b1.size _).trans (hb2.mono (by have := b1.size; simp; omega)))
        go_wp2_with fail
        refine (numbers_any s A D _ c _ cd B3 d 100 _ (by omega) (by omega) hl'.out (((((hd.alloc _).alloc _).below hb1).alloc _).below hb2)).mono ?_; rw [hn2.out]; rintro e w3 ⟨rfl, hb3⟩
        replace k9 := k9.below hb3
        replace k5 := k5.below hb3
        replace k3 := k3.below hb3
        clear c9 f9 l9 c5 f5 l5
        obtain ⟨c3, f3, l3⟩ := k3.rules
        obtain ⟨c5, f5, l5⟩ := k5.rules
        obtain ⟨c9, f9, l9⟩ := k9.rules
        have b3 := b2.trans (hb3.mono b2.size)
        go_wp2_with fail
        have hh1 : -16384 ≤ s.head ∧ s.head ≤ 16384 := by have := hh.out; unfold headOk at this; omega
        have hfn : FnInt 25 #[.pointer (some ⟨w1.heap.size, 0, none⟩), .pointer (some ⟨w.heap.size + 1, 0, none⟩)] (fun i own bef => eased s (s.sec i) own bef (d.getD i 0)) o s.head w3 := by
          intro W i hb hi
          have hol : o.length = nd := ho.len
          obtain ⟨q1, q2⟩ := getDh_bd oa.out hh1.1 hh1.2 i
          obtain ⟨q3, q4⟩ := prev_bd oa.out hh1.1 hh1.2 i
          exact step1_any s A D nd c nd cd B1 B3 w1.heap.size (w.heap.size + 1) i d _ _ W (((((((hs.alloc _).alloc _).below hb1).alloc _).below hb2).below hb3).below hb) hs1.out (((((((hd.alloc _).alloc _).below hb1).alloc _).below hb2).below hb3).below hb) rfl da.out
            (k9.below hb).cell ((k5.below hb).cell 0) (by omega) q1 q2 q3 q4
        clear c3 f3 l3 c5 f5 l5 c9 f9 l9 k3 k5 k9
        refine (eachint_any _ o s.head O nd co B2 _ _ eg_step1 w3 hfn ((((((ho.alloc _).alloc _).below hb1).alloc _).below hb2).below hb3)).mono ?_
        rintro e w4 ⟨O', co', rfl, hr, hb4⟩
        go_wp2
        go_ret2
        exact ⟨O', nd, co', rfl, (show SlAt w4 w.heap.size 1 ivs O' nd co' (stepL s o d) from hr.mono b3.size), b3.trans (hb4.mono b3.size)⟩
end Go.Proofs.YthjdjpcomocffaaGreat
namespace Go.Proofs.YthjdjpcomocffaaGreat
open Go.RowKit Go.Shelf

/-- What is handed to each is at every index, and every own and former bound, in every later world, a bound. -/
def FnBnd (g : Nat) (lb : Array Value) (f : Nat → Bnd → Bnd → Bnd) (l : List Bnd) (h : Bnd) (w : World) : Prop :=
  ∀ (W : World) (i : Nat), Below w.heap.size w W → i < l.length → Calls Tryz.prog g (#[.int .i64 (i : Int), .agg #[.int .i64 (l.getD i h).lo, .int .i64 (l.getD i h).hi], .agg #[.int .i64 (prev h l i).lo, .int .i64 (prev h l i).hi]] ++ lb) W fun e w' =>
    e = .returned (.agg #[.int .i64 (f i (l.getD i h) (prev h l i)).lo, .int .i64 (f i (l.getD i h) (prev h l i)).hi]) ∧ Below W.heap.size W w'
/-- A row of bounds of the call's own. -/
def OwnBnds (w0 : World) (n : Nat) (L : List Bnd) (e : Ending) (w' : World) : Prop :=
  ∃ O co, e = .returned (.slice O n co) ∧ w'.ownsRow w0.heap.size 24 2 (.slice O n co) n (L.flatMap Bnd.cells) ∧ SlAt w' w0.heap.size 2 Bnd.cells O n co L ∧ Below w0.heap.size w0 w'
theorem OwnBnds.lift {w w1 w' : World} {n : Nat} {L : List Bnd} {e : Ending} (h : OwnBnds w1 n L e w') (hb : Below w.heap.size w w1) : OwnBnds w n L e w' := by
  obtain ⟨O, co, rfl, hown, hr, hb2⟩ := h
  exact ⟨O, co, rfl, ownsRow_base hown hb.size, hr.mono hb.size, hb.trans (hb2.mono hb.size)⟩
set_option maxRecDepth 100000 in
set_option maxHeartbeats 2000000 in
theorem eachbnd_any (f : Nat → Bnd → Bnd → Bnd) (l : List Bnd) (h : Bnd) (A : Option Addr) (n c B g : Nat) (lb : Array Value) (eg : ∀ args w, (callFunc g args).run Tryz.prog w = .ok (.enter g args) w) (w : World)
    (hf : FnBnd g lb f l h w) (hs : SlAt w B 2 Bnd.cells A n c l) :
    Calls Tryz.prog 60 #[.slice A n c, .agg #[.int .i64 h.lo, .int .i64 h.hi], .func (.func g) #[] lb] w (OwnBnds w n (eachL f h l)) := by
  have hn := Lib.hid hs.le
  have hl := Lib.hid hs.len
  obtain ⟨i0, hi0, hz0, hz1, hz2⟩ := info_parts Tryz.infoBnd
  have hc1 := Lib.hid (show i0.bytes * n ≤ 281474976710656 by have := hn.out; rw [hz2]; omega)
  have hc2 := Lib.hid (show n ≤ maxLen by have := hn.out; unfold maxLen; omega)
  go_enter Tryz.func60, Tryz.ntmps60
  go_wp2_with (at_make; refine wpList_make_full _ rfl _ _ 36 rfl w.heap.size 24 i0 (.agg #[.int .i64 0, .int .i64 0]) 2 Tryz.underlying36 hi0 hz0 hz1 _ _ _ _ n rfl rfl rfl rfl hc1.out hc2.out (by simp) ?_; intro w1 hown hgrow; have k4 := (Blk.new w _ _).grown hgrow (by simp); obtain ⟨c4, f4, l4⟩ := k4.rules)
  have hL : (eachL f h l).length = n := by rw [eachL_length, hl.out]
  rw [World.size_alloc] at hown
  have hown0 : w1.ownsRow w.heap.size 24 2 (.slice (some ⟨w.heap.size + 1, 0, none⟩) n n) n ((fillTo (eachL f h l) 0 ⟨0, 0⟩).flatMap Bnd.cells) := by
    rw [fillTo_zero, hL]
    rw [madeCells_bnd] at hown
    exact hown
  have hb1 : Below w.heap.size w w1 := ((Below.refl _ _).alloc (Nat.le_refl _) _).grown hgrow (by simp) (fun k e => by cases e)
  have hlt1 : w.heap.size + 1 < w1.heap.size := (hown.lt _ rfl).2
  have hL' := Lib.hid hL
  clear hown hgrow hL hz0 hz1 hz2 hi0 c4 f4 l4 k4
  have hn' := hn.out
  go_loopw [17] (fun i wr => ∃ k : Nat, i = .int .i64 k ∧ k ≤ n ∧ Blk wr w1.heap.size 24 #[.int .i64 (prev h l k).lo, .int .i64 (prev h l k).hi] ∧ wr.ownsRow w.heap.size 24 2 (.slice (some ⟨w.heap.size + 1, 0, none⟩) n n) n ((fillTo (eachL f h l) k ⟨0, 0⟩).flatMap Bnd.cells) ∧ Below w.heap.size w wr) (fun i wr => n - (intOf i).toNat)
  case atStart =>
    exact ⟨0, rfl, Nat.zero_le _, Blk.new _ _ _, hown0.alloc _, hb1.alloc hb1.size _⟩
  case round =>
    obtain ⟨k, rfl, hk, k8, hown, hb⟩ := hrel
    by_cases hlt : k < n
    · have hcall := fun W (h : Below w.heap.size w W) => hf W k h (by have := hl.out; omega)
      have hget := Lib.hid (eachL_get f h l (i := k) (by have := hl.out; omega))
      obtain ⟨b, off, rfl, -, hbl, c0, c1⟩ := (hs.keep hb.size (fun _ _ h => hb.cell h)).bnd (getD_get (l := l) h (i := k) (by have := hl.out; omega))
      have hpk : Hid (prev h l (k + 1) = l.getD k h) := rfl
      obtain ⟨c8, f8, l8⟩ := k8.rules
      generalize f k (l.getD k h) (prev h l k) = z at hget hcall
      generalize prev h l k = y at hcall k8 c8
      generalize l.getD k h = x at hcall c0 c1 hpk
      have n1 : ¬ wr.heap.size = w.heap.size + 1 := by omega
      have n2 : ¬ wr.heap.size = w1.heap.size := by omega
      have n3 : ¬ w1.heap.size = w.heap.size + 1 := by omega
      have n1' : ¬ w.heap.size + 1 = wr.heap.size := by omega
      have n2' : ¬ w1.heap.size = wr.heap.size := by omega
      have n3' : ¬ w.heap.size + 1 = w1.heap.size := by omega
      clear hs hf
      go_wp2_with fail
      refine (hcall _ (hb.alloc hb.size _)).mono ?_
      clear hcall c0 c1 c8 f8
      rintro e w' ⟨rfl, hb'⟩
      have hown2 := ownsRow_below (hown.alloc _) hb'
      obtain ⟨v0, d0⟩ := own_cell hown2 (j := k * 2) (by omega)
      obtain ⟨v1, d1⟩ := own_cell hown2 (j := k * 2 + 1) (by omega)
      have e0 := hown2.frozenAt (k * 2)
      have e1 := hown2.frozenAt (k * 2 + 1)
      have k10 := (Blk.new wr _ _).below hb'
      obtain ⟨c10, f10, l10⟩ := k10.rules
      have k8' := (k8.alloc _).below hb'
      obtain ⟨c8, f8, l8'⟩ := k8'.rules
      go_wp2
      have hown3 := ((hown2.stored (k * 2) (.int .i64 z.lo)).1.stored (k * 2 + 1) (.int .i64 z.hi)).1
      rw [flatMap_set2, fillTo_set hget.out] at hown3
      go_roundw
      case rel =>
        refine ⟨k + 1, by go_num, by omega, ?_, ownsRow_setCell (ownsRow_setCell hown3 (by simp [Value.ownBlock]; omega) _) (by simp [Value.ownBlock]; omega) _, ?_⟩
        · rw [hpk.out]
          have := (((k8'.far (p := ⟨w.heap.size + 1, k * 2, none⟩) n3 (.int .i64 z.lo)).far (p := ⟨w.heap.size + 1, k * 2 + 1, none⟩) n3 (.int .i64 z.hi)).set_ 0 (.int .i64 x.lo)).set_ 1 (.int .i64 x.hi)
          exact this
        · exact (((((hb.alloc hb.size _).trans (hb'.mono (by simp; omega))).setCell (p := ⟨w.heap.size + 1, k * 2, none⟩) (by simp) _).setCell (p := ⟨w.heap.size + 1, k * 2 + 1, none⟩) (by simp) _).setCell (p := ⟨w1.heap.size, 0, none⟩) (by simp; omega) _).setCell (p := ⟨w1.heap.size, 1, none⟩) (by simp; omega) _
      case measure => simp [intOf]; omega
    · obtain rfl : k = n := by omega
      go_wp2
      go_ret
      rw [fillTo_len _ hL'.out] at hown
      obtain ⟨O, co, e1, h1⟩ := SlAt.of_own (enc := Bnd.cells) hown hn' (eachL f h l) rfl (fun _ => rfl) hL'.out
      exact ⟨O, co, congrArg Ending.returned e1, e1 ▸ hown, h1, hb⟩

set_option maxHeartbeats 400000 in
theorem still_any (m : Int) (w : World) :
    Calls Tryz.prog 61 #[.int .i64 m] w fun e w' => e = .returned (.agg #[.int .i64 (still m).lo, .int .i64 (still m).hi]) ∧ Below w.heap.size w w' := by
  go_enter Tryz.func61, Tryz.ntmps61
  go_wp2
  exact bodyPost_ret (v := .agg #[.int .i64 m, .int .i64 m]) (by simp [results, Tryz.results61, go_sem]) rfl ⟨rfl, (Below.refl _ _).alloc (Nat.le_refl _) _⟩
set_option maxRecDepth 100000 in
set_option maxHeartbeats 2000000 in
theorem bends1_any (i : Int) (own bef : Bnd) (w : World) (h1 : -16384 ≤ own.lo) (h2 : own.lo ≤ own.hi) (h3 : own.hi ≤ 16384) (h4 : -16384 ≤ bef.lo) (h5 : bef.lo ≤ bef.hi) (h6 : bef.hi ≤ 16384) :
    Calls Tryz.prog 89 #[.int .i64 i, .agg #[.int .i64 own.lo, .int .i64 own.hi], .agg #[.int .i64 bef.lo, .int .i64 bef.hi]] w fun e w' => e = .returned (.agg #[.int .i64 (bendB own bef).lo, .int .i64 (bendB own bef).hi]) ∧ Below w.heap.size w w' := by
  go_enter Tryz.func89, Tryz.ntmps89
  go_wp2
  all_goals
    refine bodyPost_ret (v := .agg #[.int .i64 (bendB own bef).lo, .int .i64 (bendB own bef).hi]) ?_ rfl ⟨rfl, (((Below.refl _ _).alloc (Nat.le_refl _) _).alloc (by simp) _).alloc (by simp; omega) _⟩
    simp [results, Tryz.results89, go_sem, bendB]
    omega
set_option maxHeartbeats 400000 in
theorem endslo_any (b : Bnd) (w : World) :
    Calls Tryz.prog 63 #[.agg #[.int .i64 b.lo, .int .i64 b.hi]] w fun e w' => e = .returned (.int .i64 b.lo) ∧ Below w.heap.size w w' := by
  go_enter Tryz.func63, Tryz.ntmps63
  go_wp2
  go_ret
  exact ⟨rfl, (Below.refl _ _).alloc (Nat.le_refl _) _⟩
set_option maxHeartbeats 400000 in
theorem endshi_any (b : Bnd) (w : World) :
    Calls Tryz.prog 64 #[.agg #[.int .i64 b.lo, .int .i64 b.hi]] w fun e w' => e = .returned (.int .i64 b.hi) ∧ Below w.heap.size w w' := by
  go_enter Tryz.func64, Tryz.ntmps64
  go_wp2
  go_ret
  exact ⟨rfl, (Below.refl _ _).alloc (Nat.le_refl _) _⟩

def okB (b : Bnd) : Prop := -16384 ≤ b.lo ∧ b.lo ≤ b.hi ∧ b.hi ≤ 16384
theorem okB_of {l : List Bnd} {h : Bnd} (hl : l.all (okBnd 16384) = true) (hh : okB h) (k : Nat) : okB (l.getD k h) := by
  rw [List.getD_eq_getElem?_getD]
  by_cases hi : k < l.length
  · rw [List.getElem?_eq_getElem hi]
    have := List.all_eq_true.1 hl _ (List.getElem_mem hi)
    simpa [okBnd, okB] using this
  · rw [List.getElem?_eq_none (by omega)]
    exact hh
theorem okB_prev {l : List Bnd} {h : Bnd} (hl : l.all (okBnd 16384) = true) (hh : okB h) (k : Nat) : okB (prev h l k) := by
  cases k with
  | zero => exact hh
  | succ k => exact okB_of hl hh k
theorem okB_still {s : Strm} (h : headOk s) : okB (still s.head) := by unfold headOk at h; unfold okB still; simp only; omega
theorem okOffs_len {s : Strm} {l : List Bnd} (h : okOffs s l = true) : l.length = s.secs.length := by
  unfold okOffs at h; simp only [Bool.and_eq_true, decide_eq_true_eq] at h; exact h.1
theorem okOffs_all {s : Strm} {l : List Bnd} (h : okOffs s l = true) : l.all (okBnd 16384) = true := by
  unfold okOffs at h; simp only [Bool.and_eq_true] at h; exact h.2
theorem eg_bends1 : Enters Tryz.prog 89 := enters_of Tryz.func89 (by kernel_rfl) rfl
set_option maxRecDepth 100000 in
set_option maxHeartbeats 2000000 in
theorem bends_any (s : Strm) (A O : Option Addr) (n c no co B : Nat) (l : List Bnd) (w : World) (ho : headOk s) (hl : l.all (okBnd 16384) = true) (hs : SlAt w B 2 Bnd.cells O no co l) :
    Calls Tryz.prog 65 #[.agg #[.int .i64 s.head, .slice A n c, .int .i64 s.lane.lo, .int .i64 s.lane.hi, .int .i64 s.bend], .slice O no co] w (OwnBnds w no (bendL s l)) := by
  replace ho := Lib.hid ho
  replace hl := Lib.hid hl
  go_enter Tryz.func65, Tryz.ntmps65
  go_wp2_with fail
  refine (still_any s.head _).mono ?_; rintro e w1 ⟨rfl, hb1⟩
  have b1 := ((Below.refl w.heap.size w).alloc (Nat.le_refl _) _).trans (hb1.mono (by simp))
  go_wp2_with fail
  have hfn : FnBnd 89 #[] (fun _ own bef => bendB own bef) l (still s.head) w1 := by
    intro W i hb hi
    obtain ⟨q1, q2, q3⟩ := okB_of hl.out (okB_still ho.out) i
    obtain ⟨q4, q5, q6⟩ := okB_prev hl.out (okB_still ho.out) i
    exact bends1_any i _ _ W q1 q2 q3 q4 q5 q6
  refine (eachbnd_any _ l (still s.head) O no co B _ _ eg_bends1 w1 hfn ((hs.alloc _).below hb1)).mono ?_
  rintro e w2 ⟨O', co', rfl, hown, hr, hb2⟩
  go_wp2
  go_ret
  exact OwnBnds.lift ⟨O', co', rfl, hown, hr, hb2⟩ b1

end Go.Proofs.YthjdjpcomocffaaGreat
