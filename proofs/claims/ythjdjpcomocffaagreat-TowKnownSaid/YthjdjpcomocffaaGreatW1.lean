/-
  Walks, first part: small functions of tow, and slices.IndexFunc and ContainsFunc at three element types.
  Walks, second part: what checks a streamer, bounds of offsets, waters and speeds.
-/
import Derived.Test.YthjdjpcomocffaaGreatI1
import Derived.Test.YthjdjpcomocffaaGreatBase
import Derived.Shelf.Abstract
namespace Go.Proofs.YthjdjpcomocffaaGreat
open Go.RowKit Go.Shelf

set_option maxHeartbeats 1000000 in
theorem index_bnd (p : Bnd → Bool) (A : Option Addr) (n c B g : Nat) (lb : Array Value) (eg : ∀ args w, (callFunc g args).run Tryz.prog w = .ok (.enter g args) w) (xs : List Bnd) (w : World)
    (hp : PredB g lb (fun b => Value.agg #[.int .i64 b.lo, .int .i64 b.hi]) p w) (hs : SlAt w B 2 Bnd.cells A n c xs) :
    Calls Tryz.prog 90 #[.slice A n c, .func (.func g) #[] lb] w fun e w' => e = .returned (.int .i64 (idxf p xs 0)) ∧ Below w.heap.size w w' := by
  have hn := hs.le
  have hl := Lib.hid hs.len
  go_enter Tryz.func90, Tryz.ntmps90
  go_wp2
  go_loopw [8] (fun i wr => ∃ k : Nat, i = .int .i64 k ∧ k ≤ n ∧ noneTo p xs k ∧ Below w.heap.size w wr) (fun i wr => n - (intOf i).toNat)
  case atStart => exact ⟨0, rfl, Nat.zero_le _, by simp [noneTo], Below.refl _ _⟩
  case round =>
    obtain ⟨k, rfl, hk, hno, hb⟩ := hrel
    by_cases hlt : k < n
    · obtain ⟨x, hx⟩ := some_of_lt hl.out hlt
      have hcall := hp wr x hb
      obtain ⟨b, off, rfl, -, hbl, c0, c1⟩ := (hs.keep hb.size (fun _ _ h => hb.cell h)).bnd hx
      replace hx := Lib.hid hx
      clear hs hp
      cases hq : p x with
      | true =>
        rw [hq] at hcall
        replace hq := Lib.hid hq
        go_wp2_with (go_at_fn g; refine hcall.mono ?_; rintro e w' ⟨rfl, hb'⟩)
        go_ret
        exact ⟨ret_int (by rw [idxf_hit p xs 0 k x hx.out hq.out hno]; omega), hb.trans (hb'.mono hb.size)⟩
      | false =>
        rw [hq] at hcall
        replace hq := Lib.hid hq
        go_wp2_with (go_at_fn g; refine hcall.mono ?_; rintro e w' ⟨rfl, hb'⟩)
        go_roundw
        case rel => exact ⟨k + 1, by go_num, by omega, noneTo_succ hno hx.out hq.out, hb.trans (hb'.mono hb.size)⟩
        case measure => simp [intOf]; omega
    · go_wp2
      go_ret
      exact ⟨ret_int (by rw [idxf_miss p xs 0 (noneTo_all hno (by have := hl.out; omega))]), hb⟩
set_option maxHeartbeats 1000000 in
theorem contains_bnd (p : Bnd → Bool) (A : Option Addr) (n c B g : Nat) (lb : Array Value) (eg : ∀ args w, (callFunc g args).run Tryz.prog w = .ok (.enter g args) w) (xs : List Bnd) (w : World)
    (hp : PredB g lb (fun b => Value.agg #[.int .i64 b.lo, .int .i64 b.hi]) p w) (hs : SlAt w B 2 Bnd.cells A n c xs) :
    Calls Tryz.prog 68 #[.slice A n c, .func (.func g) #[] lb] w fun e w' => e = .returned (.bool (xs.any p)) ∧ Below w.heap.size w w' := by
  go_enter Tryz.func68, Tryz.ntmps68
  go_wp2_with (go_at_call 90; refine (index_bnd p A n c B g lb eg xs _ hp hs).mono ?_; rintro e w' ⟨rfl, hb'⟩)
  go_ret
  exact ⟨ret_bool (idxf_any p xs 0), hb'⟩
set_option maxHeartbeats 1000000 in
theorem index_wat (p : Wat → Bool) (A : Option Addr) (n c B g : Nat) (lb : Array Value) (eg : ∀ args w, (callFunc g args).run Tryz.prog w = .ok (.enter g args) w) (xs : List Wat) (w : World)
    (hp : PredB g lb (fun x => Value.agg #[.int .i64 x.acr.lo, .int .i64 x.acr.hi, .int .i64 x.alo.lo, .int .i64 x.alo.hi]) p w) (hs : SlAt w B 4 Wat.cells A n c xs) :
    Calls Tryz.prog 98 #[.slice A n c, .func (.func g) #[] lb] w fun e w' => e = .returned (.int .i64 (idxf p xs 0)) ∧ Below w.heap.size w w' := by
  have hn := hs.le
  have hl := Lib.hid hs.len
  go_enter Tryz.func98, Tryz.ntmps98
  go_wp2
  go_loopw [8] (fun i wr => ∃ k : Nat, i = .int .i64 k ∧ k ≤ n ∧ noneTo p xs k ∧ Below w.heap.size w wr) (fun i wr => n - (intOf i).toNat)
  case atStart => exact ⟨0, rfl, Nat.zero_le _, by simp [noneTo], Below.refl _ _⟩
  case round =>
    obtain ⟨k, rfl, hk, hno, hb⟩ := hrel
    by_cases hlt : k < n
    · obtain ⟨x, hx⟩ := some_of_lt hl.out hlt
      have hcall := hp wr x hb
      obtain ⟨b, off, rfl, -, hbl, c0, c1, c2, c3⟩ := (hs.keep hb.size (fun _ _ h => hb.cell h)).wat hx
      replace hx := Lib.hid hx
      clear hs hp
      cases hq : p x with
      | true =>
        rw [hq] at hcall
        replace hq := Lib.hid hq
        go_wp2_with (go_at_fn g; refine hcall.mono ?_; rintro e w' ⟨rfl, hb'⟩)
        go_ret
        exact ⟨ret_int (by rw [idxf_hit p xs 0 k x hx.out hq.out hno]; omega), hb.trans (hb'.mono hb.size)⟩
      | false =>
        rw [hq] at hcall
        replace hq := Lib.hid hq
        go_wp2_with (go_at_fn g; refine hcall.mono ?_; rintro e w' ⟨rfl, hb'⟩)
        go_roundw
        case rel => exact ⟨k + 1, by go_num, by omega, noneTo_succ hno hx.out hq.out, hb.trans (hb'.mono hb.size)⟩
        case measure => simp [intOf]; omega
    · go_wp2
      go_ret
      exact ⟨ret_int (by rw [idxf_miss p xs 0 (noneTo_all hno (by have := hl.out; omega))]), hb⟩
set_option maxHeartbeats 1000000 in
theorem contains_wat (p : Wat → Bool) (A : Option Addr) (n c B g : Nat) (lb : Array Value) (eg : ∀ args w, (callFunc g args).run Tryz.prog w = .ok (.enter g args) w) (xs : List Wat) (w : World)
    (hp : PredB g lb (fun x => Value.agg #[.int .i64 x.acr.lo, .int .i64 x.acr.hi, .int .i64 x.alo.lo, .int .i64 x.alo.hi]) p w) (hs : SlAt w B 4 Wat.cells A n c xs) :
    Calls Tryz.prog 85 #[.slice A n c, .func (.func g) #[] lb] w fun e w' => e = .returned (.bool (xs.any p)) ∧ Below w.heap.size w w' := by
  go_enter Tryz.func85, Tryz.ntmps85
  go_wp2_with (go_at_call 98; refine (index_wat p A n c B g lb eg xs _ hp hs).mono ?_; rintro e w' ⟨rfl, hb'⟩)
  go_ret
  exact ⟨ret_bool (idxf_any p xs 0), hb'⟩
end Go.Proofs.YthjdjpcomocffaaGreat
namespace Go.Proofs.YthjdjpcomocffaaGreat
open Go.RowKit Go.Shelf

set_option maxHeartbeats 400000 in
theorem within_any (n lo hi : Int) (w : World) :
    Calls Tryz.prog 21 #[.int .i64 n, .int .i64 lo, .int .i64 hi] w fun e w' => e = .returned (.bool (decide (lo ≤ n ∧ n ≤ hi))) ∧ w = w' := by
  by_cases h : lo ≤ n
  · go_enter Tryz.func21, Tryz.ntmps21
    go_wp2
    go_ret
    simp [h]
  · go_enter Tryz.func21, Tryz.ntmps21
    go_wp2
    go_ret
    simp; omega
set_option maxHeartbeats 400000 in
theorem bound_any (b : Bnd) (m : Int) (w : World) (hm0 : 0 ≤ m) (hm : m ≤ 100000) :
    Calls Tryz.prog 22 #[.agg #[.int .i64 b.lo, .int .i64 b.hi], .int .i64 m] w fun e w' => e = .returned (.bool (okBnd m b)) ∧ Below w.heap.size w w' := by
  go_enter Tryz.func22, Tryz.ntmps22
  go_wp2_with (go_at_call 21; refine (within_any _ _ _ _).mono ?_; rintro e w' ⟨rfl, rfl⟩)
  · go_ret
    exact ⟨ret_bool (dec_eq (by omega)), (Below.refl _ _).alloc (Nat.le_refl _) _⟩
  · go_ret
    exact ⟨ret_bool (by simp [okBnd]; omega), (Below.refl _ _).alloc (Nat.le_refl _) _⟩
set_option maxHeartbeats 400000 in
theorem bound100_any (b : Bnd) (w : World) :
    Calls Tryz.prog 28 #[.agg #[.int .i64 b.lo, .int .i64 b.hi]] w fun e w' => e = .returned (.bool (okBnd 100 b)) ∧ Below w.heap.size w w' := by
  go_enter Tryz.func28, Tryz.ntmps28
  go_wp2_with (go_at_call 22; refine (bound_any b 100 _ (by omega) (by omega)).mono ?_; rintro e w' ⟨rfl, hb⟩)
  go_ret
  exact ⟨rfl, ((Below.refl _ _).alloc (Nat.le_refl _) _).trans (hb.mono (by simp))⟩
set_option maxHeartbeats 400000 in
theorem bound50_any (b : Bnd) (w : World) :
    Calls Tryz.prog 30 #[.agg #[.int .i64 b.lo, .int .i64 b.hi]] w fun e w' => e = .returned (.bool (okBnd 50 b)) ∧ Below w.heap.size w w' := by
  go_enter Tryz.func30, Tryz.ntmps30
  go_wp2_with (go_at_call 22; refine (bound_any b 50 _ (by omega) (by omega)).mono ?_; rintro e w' ⟨rfl, hb⟩)
  go_ret
  exact ⟨rfl, ((Below.refl _ _).alloc (Nat.le_refl _) _).trans (hb.mono (by simp))⟩
set_option maxHeartbeats 400000 in
theorem down_any (n : Int) (w : World) (h1 : -1000000000000 ≤ n) (h2 : n ≤ 1000000000000) :
    Calls Tryz.prog 58 #[.int .i64 n] w fun e w' => e = .returned (.int .i64 (n / 64)) ∧ w = w' := by
  have ht' := Lib.hid (tdiv_spec n 64 (by omega))
  go_enter Tryz.func58, Tryz.ntmps58
  go_wp2
  · go_ret
    have ht := ht'.out
    exact ⟨ret_int (by rw [IntWalk.wrap64_in _ (by omega)]; exact (ediv_of n 64 (n.tdiv 64 - 1) (n.tmod 64 + 64) (by omega) (by omega) (by omega) (by omega)).symm), rfl⟩
  · go_ret
    have ht := ht'.out
    exact ⟨ret_int (ediv_of n 64 (n.tdiv 64) (n.tmod 64) (by omega) (by omega) (by omega) (by omega)).symm, rfl⟩
/-! numbers: is each of at most a magnitude? -/
set_option maxHeartbeats 400000 in
theorem numbers1_any (m : Int) (bm : Nat) (w : World) (hm0 : 0 ≤ m) (hm : m ≤ 100000) (hbm : bm < w.heap.size) (hc : w.cell? ⟨bm, 0, none⟩ = some (.int .i64 m)) :
    PredB 57 #[.pointer (some ⟨bm, 0, none⟩)] (fun n => Value.int .i64 n) (fun n => !okNum m n) w := by
  intro W x hb
  have hc' := (hb.cell (p := ⟨bm, 0, none⟩) hbm).trans hc
  clear hc
  show Calls Tryz.prog 57 #[.int .i64 x, .pointer (some ⟨bm, 0, none⟩)] W _
  go_enter Tryz.func57, Tryz.ntmps57
  go_wp2_with (go_at_call 21; refine (within_any _ _ _ _).mono ?_; rintro e w' ⟨rfl, rfl⟩)
  go_ret
  exact ⟨ret_bool (by simp [okNum]), Below.refl _ _⟩
theorem eg_numbers1 : Enters Tryz.prog 57 := enters_of Tryz.func57 (by kernel_rfl) rfl
set_option maxHeartbeats 1000000 in
theorem numbers_any (s : Strm) (A O : Option Addr) (n c no co B : Nat) (l : List Int) (m : Int) (w : World) (hm0 : 0 ≤ m) (hm : m ≤ 100000) (hn : s.secs.length = n) (hs : SlAt w B 1 ivs O no co l) :
    Calls Tryz.prog 23 #[.agg #[.int .i64 s.head, .slice A n c, .int .i64 s.lane.lo, .int .i64 s.lane.hi, .int .i64 s.bend], .slice O no co, .int .i64 m] w fun e w' => e = .returned (.bool (okNums s l m)) ∧ Below w.heap.size w w' := by
  have hl := Lib.hid hs.len
  have hn' := Lib.hid hn
  clear hn
  by_cases he : no = n
  · subst he
    go_enter Tryz.func23, Tryz.ntmps23
    go_wp2_with (go_at_call 56; refine (contains_int (fun n => !okNum m n) O no co B _ _ eg_numbers1 l _ (numbers1_any m (w.heap.size + 1) _ hm0 hm (by simp) (by simp [go_sem])) ((hs.alloc _).alloc _)).mono ?_; rintro e w' ⟨rfl, hb⟩)
    go_ret
    exact ⟨ret_bool (by simp [okNums, any_not, hl.out, hn'.out]), (((Below.refl _ _).alloc (Nat.le_refl _) _).alloc (by simp) _).trans (hb.mono (by simp; omega))⟩
  · have he' : ((no : Int) == (n : Int)) = false := by rw [beq_eq_false_iff_ne]; omega
    have hx : okNums s l m = false := by simp [okNums, hl.out, hn'.out, he]
    replace he := Lib.hid he
    go_enter Tryz.func23, Tryz.ntmps23
    go_wp2
    go_ret
    exact ⟨ret_bool hx.symm, (((Below.refl _ _).alloc (Nat.le_refl _) _).alloc (by simp) _)⟩
/-! bounds: are these bounds of offsets? -/
set_option maxHeartbeats 400000 in
theorem bounds1_any (w : World) : PredB 88 #[] (fun b => Value.agg #[.int .i64 b.lo, .int .i64 b.hi]) (fun b => !okBnd 16384 b) w := by
  intro W x _
  show Calls Tryz.prog 88 #[.agg #[.int .i64 x.lo, .int .i64 x.hi]] W _
  go_enter Tryz.func88, Tryz.ntmps88
  go_wp2_with (go_at_call 22; refine (bound_any x 16384 _ (by omega) (by omega)).mono ?_; rintro e w' ⟨rfl, hb⟩)
  go_ret
  exact ⟨rfl, ((Below.refl _ _).alloc (Nat.le_refl _) _).trans (hb.mono (by simp))⟩
theorem eg_bounds1 : Enters Tryz.prog 88 := enters_of Tryz.func88 (by kernel_rfl) rfl
set_option maxHeartbeats 1000000 in
theorem bounds_any (s : Strm) (A O : Option Addr) (n c no co B : Nat) (l : List Bnd) (w : World) (hn : s.secs.length = n) (hs : SlAt w B 2 Bnd.cells O no co l) :
    Calls Tryz.prog 59 #[.agg #[.int .i64 s.head, .slice A n c, .int .i64 s.lane.lo, .int .i64 s.lane.hi, .int .i64 s.bend], .slice O no co] w fun e w' => e = .returned (.bool (okOffs s l)) ∧ Below w.heap.size w w' := by
  have hl := Lib.hid hs.len
  have hn' := Lib.hid hn
  clear hn
  by_cases he : no = n
  · subst he
    go_enter Tryz.func59, Tryz.ntmps59
    go_wp2_with (go_at_call 68; refine (contains_bnd (fun b => !okBnd 16384 b) O no co B _ _ eg_bounds1 l _ (bounds1_any _) (hs.alloc _)).mono ?_; rintro e w' ⟨rfl, hb⟩)
    go_ret
    exact ⟨ret_bool (by simp [okOffs, any_not, hl.out, hn'.out]), ((Below.refl _ _).alloc (Nat.le_refl _) _).trans (hb.mono (by simp))⟩
  · have he' : ((no : Int) == (n : Int)) = false := by rw [beq_eq_false_iff_ne]; omega
    have hx : okOffs s l = false := by simp [okOffs, hl.out, hn'.out, he]
    replace he := Lib.hid he
    go_enter Tryz.func59, Tryz.ntmps59
    go_wp2
    go_ret
    exact ⟨ret_bool hx.symm, ((Below.refl _ _).alloc (Nat.le_refl _) _)⟩
/-! speeds -/
set_option maxHeartbeats 400000 in
theorem speeds1_any (w : World) : PredB 66 #[] (fun n => Value.int .i64 n) (fun n => !okSpeed n) w := by
  intro W x _
  show Calls Tryz.prog 66 #[.int .i64 x] W _
  go_enter Tryz.func66, Tryz.ntmps66
  go_wp2_with (go_at_call 21; refine (within_any _ _ _ _).mono ?_; rintro e w' ⟨rfl, rfl⟩)
  go_ret
  exact ⟨ret_bool (by simp [okSpeed]), Below.refl _ _⟩
theorem eg_speeds1 : Enters Tryz.prog 66 := enters_of Tryz.func66 (by kernel_rfl) rfl
set_option maxHeartbeats 400000 in
theorem speeds_any (O : Option Addr) (no co B : Nat) (l : List Int) (w : World) (hs : SlAt w B 1 ivs O no co l) :
    Calls Tryz.prog 35 #[.slice O no co] w fun e w' => e = .returned (.bool (okSpeeds l)) ∧ Below w.heap.size w w' := by
  go_enter Tryz.func35, Tryz.ntmps35
  go_wp2_with (go_at_call 56; refine (contains_int (fun n => !okSpeed n) O no co B _ _ eg_speeds1 l _ (speeds1_any _) hs).mono ?_; rintro e w' ⟨rfl, hb⟩)
  go_ret
  exact ⟨ret_bool (by simp [okSpeeds, any_not]), hb⟩
/-! waters -/
set_option maxHeartbeats 400000 in
theorem waters1_any (w : World) : PredB 86 #[] (fun x => Value.agg #[.int .i64 x.acr.lo, .int .i64 x.acr.hi, .int .i64 x.alo.lo, .int .i64 x.alo.hi]) (fun x => !okWat x) w := by
  intro W x _
  show Calls Tryz.prog 86 #[.agg #[.int .i64 x.acr.lo, .int .i64 x.acr.hi, .int .i64 x.alo.lo, .int .i64 x.alo.hi]] W _
  cases h1 : okBnd 100 x.acr
  · have h1' := Lib.hid h1
    go_enter Tryz.func86, Tryz.ntmps86
    go_wp2_with (go_at_call 28; refine (bound100_any x.acr _).mono ?_; rw [h1]; rintro e w1 ⟨rfl, hb1⟩)
    go_ret
    exact ⟨ret_bool (by simp [okWat, h1'.out]), ((Below.refl _ _).alloc (Nat.le_refl _) _).trans (hb1.mono (by simp))⟩
  · have h1' := Lib.hid h1
    go_enter Tryz.func86, Tryz.ntmps86
    go_wp2_with (first | (go_at_call 28; refine (bound100_any x.acr _).mono ?_; rw [h1]; rintro e w1 ⟨rfl, hb1⟩; obtain ⟨hc1, hf1⟩ := bcell hb1) | (go_at_call 30; refine (bound50_any x.alo _).mono ?_; rintro e w2 ⟨rfl, hb2⟩))
    go_ret
    exact ⟨ret_bool (by simp [okWat, h1'.out]), (((Below.refl _ _).alloc (Nat.le_refl _) _).trans (hb1.mono (by simp))).trans (hb2.mono (by have := hb1.size; simp at this; omega))⟩
theorem eg_waters1 : Enters Tryz.prog 86 := enters_of Tryz.func86 (by kernel_rfl) rfl
set_option maxHeartbeats 400000 in
theorem waters_any (O : Option Addr) (no co B : Nat) (l : List Wat) (w : World) (hs : SlAt w B 4 Wat.cells O no co l) :
    Calls Tryz.prog 50 #[.slice O no co] w fun e w' => e = .returned (.int .i64 (chkWats l)) ∧ Below w.heap.size w w' := by
  have hl := Lib.hid hs.len
  by_cases h : no ≤ 48
  · go_enter Tryz.func50, Tryz.ntmps50
    go_wp2_with (go_at_call 85; refine (contains_wat (fun x => !okWat x) O no co B _ _ eg_waters1 l _ (waters1_any _) hs).mono ?_; rintro e w' ⟨rfl, hb⟩)
    · go_ret
      have hh : 48 < (no : Int) ∨ (l.any fun x => !okWat x) = true := by assumption
      have e := any_not okWat l
      have hf : okWats l = false := by
        rcases hh with hh | hh
        · omega
        · rw [hh] at e; simp [okWats, ← e]
      exact ⟨ret_int (by simp [chkWats, hf]), hb⟩
    · go_ret
      have hh : (no : Int) ≤ 48 ∧ (l.any fun x => !okWat x) = false := by assumption
      have e := any_not okWat l
      have hf : okWats l = true := by
        rw [hh.2] at e; simp only [okWats, ← e, hl.out, Bool.not_false, Bool.and_true]; exact decide_eq_true (by omega)
      exact ⟨ret_int (by simp [chkWats, hf]), hb⟩
  · go_enter Tryz.func50, Tryz.ntmps50
    go_wp2
    go_ret
    exact ⟨ret_int (by simp [chkWats, okWats, hl.out]; omega), Below.refl _ _⟩
/-! Check -/
def okTo (l : List Sec) (k : Nat) : Prop := (l.take k).all okSec = true
theorem okTo_succ {l : List Sec} {k : Nat} {x : Sec} (h : okTo l k) (hk : l[k]? = some x) (hx : okSec x = true) : okTo l (k + 1) := by
  unfold okTo at *
  rw [List.take_add_one, hk]; simp [h, hx]
theorem chk_bad {s : Strm} {k : Nat} {x : Sec} (hk : s.secs[k]? = some x) (hx : okSec x = false) : chkStrm s = 30 := by
  have h1 : s.secs.all okSec = false := by
    rw [List.all_eq_false]
    exact ⟨x, List.mem_of_getElem? hk, by simp [hx]⟩
  simp [chkStrm, okStrm, h1]
theorem chk_head {s : Strm} (h : ¬ headOk s) : chkStrm s = 30 := by simp [chkStrm, okStrm, h]
theorem chk_ok {s : Strm} (h : headOk s) (h2 : okTo s.secs s.secs.length) : chkStrm s = 0 := by
  unfold okTo at h2; rw [List.take_length] at h2
  simp [chkStrm, okStrm, h, h2]
theorem okSec_of {x : Sec} (h : 1 ≤ x.len ∧ x.len ≤ 1000 ∧ 0 ≤ x.fol ∧ x.fol ≤ 64 ∧ 0 ≤ x.bird ∧ x.bird ≤ 1000 ∧ 0 ≤ x.drag ∧ x.drag ≤ 1000 ∧ 0 ≤ x.cap ∧ x.cap ≤ 1073741824) : okSec x = true := decide_eq_true h
theorem okSec_not {x : Sec} (h : ¬ (1 ≤ x.len ∧ x.len ≤ 1000 ∧ 0 ≤ x.fol ∧ x.fol ≤ 64 ∧ 0 ≤ x.bird ∧ x.bird ≤ 1000 ∧ 0 ≤ x.drag ∧ x.drag ≤ 1000 ∧ 0 ≤ x.cap ∧ x.cap ≤ 1073741824)) : okSec x = false := decide_eq_false h
set_option maxHeartbeats 4000000 in
theorem check_any (s : Strm) (A : Option Addr) (n c B : Nat) (w : World) (hs : SlAt w B 5 Sec.cells A n c s.secs) :
    Calls Tryz.prog 5 #[.agg #[.int .i64 s.head, .slice A n c, .int .i64 s.lane.lo, .int .i64 s.lane.hi, .int .i64 s.bend]] w fun e w' => e = .returned (.int .i64 (chkStrm s)) ∧ Below w.heap.size w w' := by
  have hl := Lib.hid hs.len
  have hn := hs.le
  by_cases hh : headOk s
  · have hh' := Lib.hid hh
    obtain ⟨g0, g1, g2, g3, g4, g5, g6, g7, g8⟩ := hh
    have g2' : 1 ≤ (n : Int) := by have := hl.out; omega
    have g3' : (n : Int) ≤ 8 := by have := hl.out; omega
    clear g2 g3
    go_enter Tryz.func5, Tryz.ntmps5
    go_wp2_with (first | (go_at_call 21; refine (within_any _ _ _ _).mono ?_; rintro e w' ⟨rfl, rfl⟩) | (go_at_call 22; refine (bound_any s.lane _ _ (by omega) (by omega)).mono ?_; unfold okBnd; rintro e w1 ⟨rfl, hb1⟩; obtain ⟨hc1, hf1⟩ := bcell hb1))
    have hbw : Below w.heap.size w w1 := ((Below.refl _ _).alloc (Nat.le_refl _) _).trans (hb1.mono (by simp))
    clear hc1 hf1 hb1
    go_loopw [31] (fun i wr => ∃ k : Nat, i = .int .i64 k ∧ k ≤ n ∧ okTo s.secs k ∧ Below w.heap.size w wr) (fun i wr => n - (intOf i).toNat)
    case atStart => exact ⟨0, rfl, Nat.zero_le _, by simp [okTo], hbw⟩
    case round =>
      obtain ⟨k, rfl, hk, hok, hb⟩ := hrel
      by_cases hlt : k < n
      · obtain ⟨x, hx⟩ := some_of_lt hl.out hlt
        obtain ⟨b, off, rfl, -, hbl, c0, c1, c2, c3, c4⟩ := (hs.keep hb.size (fun _ _ h => hb.cell h)).sec hx
        replace hx := Lib.hid hx
        clear hs
        by_cases hs1 : 1 ≤ x.len ∧ x.len ≤ 1000 ∧ 0 ≤ x.fol ∧ x.fol ≤ 64 ∧ 0 ≤ x.bird ∧ x.bird ≤ 1000 ∧ 0 ≤ x.drag ∧ x.drag ≤ 1000 ∧ 0 ≤ x.cap ∧ x.cap ≤ 1073741824
        · have ho := Lib.hid (okSec_of hs1)
          obtain ⟨g0, g1, g2, g3, g4, g5, g6, g7, g8, g9⟩ := hs1
          go_wp2_with (go_at_call 21; refine (within_any _ _ _ _).mono ?_; rintro e w' ⟨rfl, rfl⟩)
          go_roundw
          case rel => exact ⟨k + 1, by go_num, by omega, okTo_succ hok hx.out ho.out, hb.alloc hb.size _⟩
          case measure => simp [intOf]; omega
        · have ho := Lib.hid (okSec_not hs1)
          replace hs1 := Lib.hid hs1
          go_wp2_with (go_at_call 21; refine (within_any _ _ _ _).mono ?_; rintro e w' ⟨rfl, rfl⟩)
          all_goals first
            | (go_ret; exact ⟨ret_int (chk_bad hx.out ho.out).symm, hb.alloc hb.size _⟩)
            | (exfalso; refine hs1.out ?_; simp at *; omega)
      · go_wp2
        go_ret
        have hkn : k = s.secs.length := by have := hl.out; omega
        exact ⟨ret_int (chk_ok hh'.out (hkn ▸ hok)).symm, hb⟩
  · have hh' := Lib.hid hh
    clear hh
    go_enter Tryz.func5, Tryz.ntmps5
    go_wp2_with (first | (go_at_call 21; refine (within_any _ _ _ _).mono ?_; rintro e w' ⟨rfl, rfl⟩) | (go_at_call 22; refine (bound_any s.lane _ _ (by omega) (by omega)).mono ?_; unfold okBnd; rintro e w1 ⟨rfl, hb1⟩; obtain ⟨hc1, hf1⟩ := bcell hb1))
    all_goals first
      | (go_ret; exact ⟨ret_int (chk_head hh'.out).symm, by first | exact ((Below.refl _ _).alloc (Nat.le_refl _) _).trans (hb1.mono (by simp)) | exact (Below.refl _ _).alloc (Nat.le_refl _) _⟩)
      | (exfalso; refine hh'.out ?_; unfold headOk; have := hl.out; simp at *; omega)
end Go.Proofs.YthjdjpcomocffaaGreat
